/- word.Conjugate: its contract. -/
import Derived.Test.YthiehmogphknlaaGreatDoorConj2
namespace Go.Proofs.YthiehmogphknlaaGreatDoor.Rot
open Go.RowKit Go.Shelf Go.Proofs.YthiehmogphknlaaGreatDoor.G Go.Proofs.YthiehmogphknlaaGreatDoor.PA Go.Proofs.YthiehmogphknlaaGreatDoorW.PrintWords Go.Proofs.YthiehmogphknlaaGreatDoor.Free Go.Proofs.YthiehmogphknlaaGreatDoor.Pure1 Go.Proofs.YthiehmogphknlaaGreatDoor.Parse
theorem reduce_three (a b c : List UInt8) (w : World) (hl : (a ++ (b ++ c)).length < 140737488355328) :
    Calls Tryz.prog 47 #[.slice (some ⟨w.heap.size, 0, none⟩) 3 3] (w.alloc (.cells #[.string (B a), .string (B b), .string (B c)] 9)) fun e w' => e = .returned (.string (B (red (a ++ (b ++ c))))) ∧ Below w.heap.size w w' := by
  have hcat : cat [B a, B b, B c] = a ++ (b ++ c) := by simp [cat, L_B]
  have h := reduce_any (some ⟨w.heap.size, 0, none⟩) 3 [B a, B b, B c] (w.alloc (.cells #[.string (B a), .string (B b), .string (B c)] 9)) (lit_C _ w _ (by simp)) (by simp) (by rw [hcat]; exact hl) (by simp)
  rw [hcat] at h
  exact h.mono fun e w' ⟨he, hb⟩ => ⟨he, below_then (below_alloc (Below.refl _ _) _) (by simp) hb⟩
theorem rotB_B (l : List UInt8) (i : Nat) : rotB (B l) i = B (l.drop i ++ l.take i) := by
  unfold rotB
  rw [extract_L, extract_L, L_B, B_append, List.drop_zero, Nat.sub_zero, List.take_of_length_le (by rw [List.length_drop, size_B]; exact Nat.le_refl _)]
theorem bne_form (x y : List UInt8) : (!(B x).toList == (B y).toList) = decide (x ≠ y) := by
  rw [toList_L, toList_L, L_B, L_B]
  by_cases h : x = y
  · subst h; simp
  · rw [decide_eq_true h]
    simpa using h
theorem conj_words (u v : ByteArray) (hu : u.size ≤ 9223372036854775807) (hv : v.size ≤ 9223372036854775807) (h : Wd u) (h' : Wd v) (w : World) (hG : GL w) :
    Calls Tryz.prog 35 #[.string u, .string v] w fun e w' => e = .returned (.tuple #[.string (B (conjP (L u) (L v)).1), .bool (conjP (L u) (L v)).2]) ∧ Below w.heap.size w w' := by
  have A : ∀ W, _ := fun W => cyclic_any u (by have := h.1; omega) W
  have A' : ∀ W, _ := fun W => cyclic_any v (by have := h'.1; omega) W
  have la := cyc_length (red (L u))
  have lb := cyc_length (red (L v))
  have ra := red_length (L u)
  have rb := red_length (L v)
  have ha1 := h.1
  have hb1 := h'.1
  rw [size_L] at ha1 hb1
  unfold conjP
  obtain ⟨a, ea⟩ : ∃ a, (cyc (red (L u))).2 = a := ⟨_, rfl⟩
  obtain ⟨c, ec⟩ : ∃ c, (cyc (red (L u))).1 = c := ⟨_, rfl⟩
  obtain ⟨b, eb⟩ : ∃ b, (cyc (red (L v))).2 = b := ⟨_, rfl⟩
  obtain ⟨d, ed⟩ : ∃ d, (cyc (red (L v))).1 = d := ⟨_, rfl⟩
  rw [ea, ec] at A
  rw [eb, ed] at A'
  rw [ea, ec] at la
  rw [eb, ed] at lb
  dsimp only
  rw [ea, ec, eb, ed]
  clear ea ec eb ed
  have Fa : ∀ W, GL W → _ := fun W hW => form_any (B a) (by rw [size_B]; omega) W hW
  have Fb : ∀ W, GL W → _ := fun W hW => form_any (B b) (by rw [size_B]; omega) W hW
  rw [L_B] at Fa Fb
  by_cases h1 : a.length = b.length
  · have hab : (((B a).size : Int) != ((B b).size : Int)) = false := by rw [size_B, size_B, h1]; simp
    by_cases h2 : formL a = formL b
    · rw [if_neg (fun hc => hc.elim (fun x => x h1) (fun x => x h2))]
      have hxy := bne_form (formL a) (formL b)
      rw [decide_eq_false (by simpa using h2)] at hxy
      by_cases h3 : a = []
      · rw [if_pos h3]
        exact conj_nil u v hu hv h h' _ _ _ _ w hG A A' hab _ _ Fa Fb hxy (by rw [h3]; exact empty_nil)
      · rw [if_neg h3]
        have hae : (B a).toList.isEmpty = false := by
          cases a with
          | nil => exact absurd rfl h3
          | cons x t => exact empty_cons x t
        have key := conj_loop u v hu hv h h' (B a) (B c) (B b) (B d) w hG A A' hab _ _ Fa Fb hxy hae (by rw [size_B]; omega) (fun i => B (inv (b.take i))) (B (inv d)) (fun i => B (red (c ++ (inv (b.take i) ++ inv d))))
          (fun i W hi => by
            rw [extract_take]
            exact inverse_any (B (b.take i)) (by rw [size_B, List.length_take]; omega) W)
          (fun W => inverse_any (B d) (by rw [size_B]; omega) W)
          (fun i W hi => reduce_three c (inv (b.take i)) (inv d) W (by rw [List.length_append, List.length_append, inv_length, inv_length, List.length_take]; omega))
        refine key.mono ?_
        rintro e w' ⟨rfl, hb⟩
        refine ⟨?_, hb⟩
        have ef : (fun i => decide (rotB (B b) i = B a)) = (fun i => decide (b.drop i ++ b.take i = a)) := by
          funext i
          rw [rotB_B]
          exact decide_eq_decide.2 ⟨fun e => B_inj e, fun e => by rw [e]⟩
        rw [ef, size_B]
        cases (List.range b.length).find? (fun i => decide (b.drop i ++ b.take i = a)) with
        | none => rfl
        | some i => rfl
    · rw [if_pos (Or.inr h2)]
      have hxy := bne_form (formL a) (formL b)
      rw [decide_eq_true h2] at hxy
      exact conj_form u v hu hv h h' _ _ _ _ w hG A A' hab _ _ Fa Fb hxy
  · rw [if_pos (Or.inl h1)]
    exact conj_len u v hu hv h h' _ _ _ _ w hG A A' (by rw [size_B, size_B]; exact bne_iff_ne.mpr (by omega))
end Go.Proofs.YthiehmogphknlaaGreatDoor.Rot
namespace Go.Proofs.YthiehmogphknlaaGreatDoor.G
open Go.RowKit Go.Proofs.YthiehmogphknlaaGreatDoor.Rot Go.Proofs.YthiehmogphknlaaGreatDoor.Pure1
theorem word_Conjugate.calls (a0 a1 r1 : ByteArray) (r2 : Bool) (w : World) (h : word_Conjugate.f a0 a1 = some (r1, r2)) (hG : GL w) :
    Calls Tryz.prog 35 #[.string a0, .string a1] w fun e w' => e = .returned (.tuple #[.string r1, .bool r2]) ∧ Below w.heap.size w w' := by
  unfold word_Conjugate.f at h
  split at h
  case isFalse => exact absurd h (by simp)
  rename_i hs
  split at h
  · rename_i hw
    simp only [Option.some.injEq, Prod.mk.injEq] at h
    obtain ⟨rfl, rfl⟩ := h
    exact conj_words a0 a1 hs.1 hs.2 hw.1 hw.2 w hG
  · rename_i hw
    simp only [Option.some.injEq, Prod.mk.injEq] at h
    obtain ⟨rfl, rfl⟩ := h
    by_cases h1 : Wd a0
    · exact conj_no2 a0 a1 hs.1 hs.2 h1 (fun h2 => hw ⟨h1, h2⟩) w hG
    · exact conj_no1 a0 a1 hs.1 h1 w hG
end Go.Proofs.YthiehmogphknlaaGreatDoor.G
