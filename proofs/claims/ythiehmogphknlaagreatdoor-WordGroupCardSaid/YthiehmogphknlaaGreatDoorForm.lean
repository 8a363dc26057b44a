/- word.least comes to an end; what word.form answers. -/
import Derived.Test.YthiehmogphknlaaGreatDoorParse3
namespace Go.Proofs.YthiehmogphknlaaGreatDoor.Rot
open Go.RowKit Go.Proofs.YthiehmogphknlaaGreatDoor.G Go.Proofs.YthiehmogphknlaaGreatDoor.PA Go.Proofs.YthiehmogphknlaaGreatDoorW.PrintWords Go.Proofs.YthiehmogphknlaaGreatDoor.Free Go.Proofs.YthiehmogphknlaaGreatDoor.Pure1

theorem leastL_total (s : ByteArray) : ∀ (g i j k : Nat), 3 * s.size ≤ i + j + k + g → (i < s.size ∨ j < s.size) → i ≠ j → ∃ r : Nat, leastL (g + 1) s i j k = some (r : Int) ∧ r < s.size := by
  intro g
  induction g with
  | zero =>
    intro i j k h1 h2 h3
    rw [leastL, if_neg (by omega)]
    by_cases h : i < j
    · exact ⟨i, by rw [if_pos h], by omega⟩
    · exact ⟨j, by rw [if_neg h], by omega⟩
  | succ g ih =>
    intro i j k h1 h2 h3
    rw [leastL]
    by_cases hl : i < s.size ∧ j < s.size ∧ k < s.size
    · rw [if_pos hl]
      split
      · exact ih i j (k + 1) (by omega) (by omega) h3
      · split
        · split
          · exact ih (i + k + 1) (j + 1) 0 (by omega) (by omega) (by omega)
          · exact ih (i + k + 1) j 0 (by omega) (by omega) (by omega)
        · split
          · exact ih i (j + k + 1 + 1) 0 (by omega) (by omega) (by omega)
          · exact ih i (j + k + 1) 0 (by omega) (by omega) (by omega)
    · rw [if_neg hl]
      by_cases h : i < j
      · exact ⟨i, by rw [if_pos h], by omega⟩
      · exact ⟨j, by rw [if_neg h], by omega⟩

/-- Where the least rotation begins. -/
def least (l : List UInt8) : Nat := ((leastL (3 * l.length + 1) (B l) 0 1 0).getD 0).toNat
theorem least_lt (l : List UInt8) (h : l ≠ []) : leastL (3 * l.length + 1) (B l) 0 1 0 = some (least l : Int) ∧ least l < l.length := by
  have hl : 0 < l.length := List.length_pos_iff.2 h
  obtain ⟨r, h1, h2⟩ := leastL_total (B l) (3 * l.length) 0 1 0 (by rw [size_B]; omega) (by rw [size_B]; omega) (by omega)
  have e : least l = r := by unfold least; rw [h1]; rfl
  rw [e]
  exact ⟨h1, by rwa [size_B] at h2⟩
/-- The least rotation. -/
def formL (l : List UInt8) : List UInt8 := l.drop (least l) ++ l.take (least l)
theorem formL_length (l : List UInt8) : (formL l).length = l.length := by
  unfold formL; rw [List.length_append, List.length_drop, List.length_take]; omega

theorem form_f (s : ByteArray) (hs : s.size ≤ 140737488355328) : word_form.f (3 * s.size + 1) s = some (B (formL (L s))) := by
  unfold word_form.f
  rw [toList_L]
  by_cases h : L s = []
  · rw [if_pos h, h]; rfl
  · rw [if_neg h]
    have ⟨h1, h2⟩ := least_lt (L s) h
    have e : word_least.f (3 * s.size + 1) s = some (least (L s) : Int) := by
      unfold word_least.f
      rw [if_pos hs, size_L]; exact h1
    rw [e]
    simp only [Option.bind_some]
    rw [if_pos (by omega), if_pos (by rw [size_L]; omega)]
    have e2 : s.extract ((least (L s) : Int)).toNat s.size ++ s.extract 0 ((least (L s) : Int)).toNat = B (formL (L s)) := by
      rw [extract_L, extract_L, B_append, Int.toNat_natCast]
      unfold formL
      rw [List.drop_zero, Nat.sub_zero, List.take_of_length_le (by rw [List.length_drop, ← size_L]; exact Nat.le_refl _)]
    rw [e2, if_pos ?_]
    rw [extract_L, extract_L, size_B, size_B, List.length_take, List.length_take, List.length_drop]
    rw [size_L] at hs ⊢
    omega

theorem form_any (s : ByteArray) (hs : s.size ≤ 140737488355328) (w : World) (hG : GL w) :
    Calls Tryz.prog 55 #[.string s] w fun e w' => e = .returned (.string (B (formL (L s)))) ∧ Drawn0 w w' :=
  word_form.calls _ s _ w (form_f s hs) hG
theorem is_any (s : ByteArray) (hs : s.size ≤ 9223372036854775807) (w : World) (hG : GL w) :
    Calls Tryz.prog 45 #[.string s] w fun e w' => e = .returned (.bool (decide (Wd s))) ∧ Below w.heap.size w w' :=
  word_is.calls s _ w (is_f s hs) hG
theorem cyclic_any (s : ByteArray) (hs : s.size < 140737488355328) (w : World) :
    Calls Tryz.prog 53 #[.string s] w fun e w' => e = .returned (.tuple #[.string (B (cyc (red (L s))).2), .string (B (cyc (red (L s))).1)]) ∧ Below w.heap.size w w' := by
  obtain ⟨k, hk⟩ := (cyclic_ev s hs).rounds
  exact word_cyclic.calls k s _ _ w hk

/-- A conjugator of words, and whether there is one. -/
def conjP (u v : List UInt8) : List UInt8 × Bool :=
  let a := (cyc (red u)).2
  let b := (cyc (red v)).2
  if a.length ≠ b.length ∨ formL a ≠ formL b then ([], false)
  else if a = [] then ([], true)
  else match (List.range b.length).find? (fun i => decide (b.drop i ++ b.take i = a)) with
    | none => ([], false)
    | some i => (red ((cyc (red u)).1 ++ (inv (b.take i) ++ inv (cyc (red v)).1)), true)

def _root_.Go.Proofs.YthiehmogphknlaaGreatDoor.G.word_Conjugate.f (u v : ByteArray) : Option (ByteArray × Bool) :=
  if u.size ≤ 9223372036854775807 ∧ v.size ≤ 9223372036854775807 then
    some (if Wd u ∧ Wd v then (B (conjP (L u) (L v)).1, (conjP (L u) (L v)).2) else (B [], false))
  else none

end Go.Proofs.YthiehmogphknlaaGreatDoor.Rot
