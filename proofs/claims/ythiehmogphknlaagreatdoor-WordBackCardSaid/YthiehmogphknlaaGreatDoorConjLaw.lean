/- Conjugacy by cyclic forms: what word.Conjugate and word.Form answer. -/
import Derived.Test.YthiehmogphknlaaGreatDoorMath
import Derived.Test.YthiehmogphknlaaGreatDoorLawKit
namespace Go.Proofs.YthiehmogphknlaaGreatDoor.Laws
open Go.RowKit Go.Proofs.YthiehmogphknlaaGreatDoor.G Go.Proofs.YthiehmogphknlaaGreatDoor.PA Go.Proofs.YthiehmogphknlaaGreatDoorW.PrintWords Go.Proofs.YthiehmogphknlaaGreatDoor.Free Go.Proofs.YthiehmogphknlaaGreatDoor.Pure1 Go.Proofs.YthiehmogphknlaaGreatDoor.Min Go.Proofs.YthiehmogphknlaaGreatDoor.Cyc Go.Proofs.YthiehmogphknlaaGreatDoor.Rot

theorem ev_mono {α : Type} {f : Nat → Option α} (hm : ∀ k, LeO (f k) (f (k + 1))) {K : Nat} {r : α} (h : f K = some r) : Ev f r := by
  refine ⟨K, fun k hk => ?_⟩
  obtain ⟨d, rfl⟩ : ∃ d, k = K + d := ⟨k - K, by omega⟩
  induction d with
  | zero => exact h
  | succ d ih => exact hm (K + d) _ (ih (by omega))
theorem form_ev (s : ByteArray) (hs : s.size ≤ 140737488355328) : Ev (fun k => word_form.f k s) (B (formL (L s))) := ev_mono (word_form.mono s) (form_f s hs)

/-- The cyclic form. -/
def cf (l : List UInt8) : List UInt8 := formL (core l)
theorem core_length (l : List UInt8) : (core l).length ≤ l.length := by
  have h1 := cyc_length (red l)
  have h2 := red_length l
  unfold core
  omega
theorem core_isL {l : List UInt8} (h : ∀ c ∈ l, isL c = true) : ∀ c ∈ core l, isL c = true := by
  intro c hc
  refine red_isL h c ?_
  rw [cyc_split (red l)]
  exact List.mem_append_right _ (List.mem_append_left _ hc)
theorem Form_ev {s : ByteArray} (h : Wd s) : Ev (fun k => word_Form.f k s) (B (cf (L s))) := by
  have hs := h.1
  unfold word_Form.f
  rw [is_f s (by omega), decide_eq_true h]
  simp only [Option.bind_some, if_true]
  refine Ev.bind (cyclic_ev s (by omega)) ?_
  have hc := core_length (L s)
  rw [size_L] at hs
  have := form_ev (B (core (L s))) (by rw [size_B]; omega)
  rw [L_B] at this
  exact Ev.bind this (Ev.now _)

theorem rot_full (l : List UInt8) : rot l l.length = l := by simp [rot]
theorem form_find (a b : List UInt8) (ha : a ≠ []) (h : formL a = formL b) : ∃ i, i < b.length ∧ rot b i = a := by
  have hlen : a.length = b.length := by rw [← formL_length a, h, formL_length]
  have hb : b ≠ [] := by rintro rfl; exact ha (List.length_eq_zero_iff.1 hlen)
  have hb0 : 0 < b.length := List.length_pos_iff.2 hb
  have la := (least_lt a ha).2
  have lb := (least_lt b hb).2
  obtain ⟨c, hc, e⟩ := rot_back a (least a) (by omega)
  have h2 : rot a (least a) = rot b (least b) := h
  rw [h2] at e
  obtain ⟨d, hd, e2⟩ := rot_rot b (least b) c (by omega) (by omega)
  rw [e2] at e
  by_cases x : d = b.length
  · subst x
    rw [rot_full] at e
    exact ⟨0, hb0, by rw [rot_zero]; exact e⟩
  · exact ⟨d, by omega, e⟩

theorem conj_spec (u v : List UInt8) : (conjP u v).2 = decide (cf u = cf v) ∧ (cf u = cf v → Eqv ((conjP u v).1 ++ (v ++ inv (conjP u v).1)) u) ∧ (conjP u v).1.length ≤ u.length + v.length ∧
    ((∀ c ∈ u, isL c = true) → (∀ c ∈ v, isL c = true) → ∀ c ∈ (conjP u v).1, isL c = true) := by
  have hu := cyc_split (red u)
  have hv := cyc_split (red v)
  have lu := cyc_length (red u)
  have lv := cyc_length (red v)
  have ru := red_length u
  have rv := red_length v
  have eu := Eqv.red u
  have ev := Eqv.red v
  have mu := red_subset u
  have mv := red_subset v
  unfold cf core conjP
  generalize red u = u' at *
  generalize red v = v' at *
  generalize (cyc u').2 = a at *
  generalize (cyc u').1 = c at *
  generalize (cyc v').2 = b at *
  generalize (cyc v').1 = d at *
  dsimp only
  by_cases h : formL a = formL b
  · have hlen : a.length = b.length := by rw [← formL_length a, h, formL_length]
    rw [if_neg (fun hc => hc.elim (fun x => x hlen) (fun x => x h)), decide_eq_true h]
    by_cases ha : a = []
    · rw [if_pos ha]
      refine ⟨rfl, fun _ => ?_, by simp, fun _ _ c hc => by cases hc⟩
      subst ha
      have hb : b = [] := List.length_eq_zero_iff.1 hlen.symm
      subst hb
      have e1 : Eqv u' [] := by rw [hu]; exact eqv_inv_right c
      have e2 : Eqv v' [] := by rw [hv]; exact eqv_inv_right d
      rw [inv_nil, List.append_nil, List.nil_append]
      exact ((ev.symm.trans e2).trans e1.symm).trans eu
    · rw [if_neg ha]
      obtain ⟨i, hi, hr⟩ := form_find a b ha h
      have hf : ∃ k, (List.range b.length).find? (fun i => decide (b.drop i ++ b.take i = a)) = some k := by
        cases hq : (List.range b.length).find? (fun i => decide (b.drop i ++ b.take i = a)) with
        | some k => exact ⟨k, rfl⟩
        | none =>
          rw [List.find?_eq_none] at hq
          have := hq i (List.mem_range.2 hi)
          exact absurd (decide_eq_true hr) this
      obtain ⟨k, hk⟩ := hf
      have hk2 := List.find?_some hk
      have hk3 : b.drop k ++ b.take k = a := of_decide_eq_true hk2
      rw [hk]
      refine ⟨rfl, fun _ => ?_, ?_, ?_⟩
      · -- the conjugator
        show Eqv (red (c ++ (inv (b.take k) ++ inv d)) ++ (v ++ inv (red (c ++ (inv (b.take k) ++ inv d))))) u
        generalize hy : c ++ (inv (b.take k) ++ inv d) = y
        have ey : Eqv (red y) y := Eqv.red y
        have e1 : Eqv (red y ++ (v ++ inv (red y))) (y ++ (v' ++ inv y)) := ey.append (Eqv.append ev.symm ey.inv)
        refine e1.trans ?_
        have e2 : y ++ (v' ++ inv y) = (c ++ inv (b.take k)) ++ ((inv d ++ d) ++ (b ++ ((inv d ++ d) ++ (b.take k ++ inv c)))) := by
          conv => lhs; rw [hv]
          rw [← hy, inv_append, inv_append, inv_inv, inv_inv]
          simp [List.append_assoc]
        rw [e2]
        have e3 : Eqv (inv d ++ d) [] := eqv_inv_left d
        have e4 : Eqv ((inv d ++ d) ++ (b.take k ++ inv c)) (b.take k ++ inv c) := by
          have := e3.appendRight (b.take k ++ inv c)
          rwa [List.nil_append] at this
        have e5 : Eqv ((inv d ++ d) ++ (b ++ ((inv d ++ d) ++ (b.take k ++ inv c)))) (b ++ (b.take k ++ inv c)) := by
          have := e3.append (e4.appendLeft b)
          rwa [List.nil_append] at this
        refine (e5.appendLeft (c ++ inv (b.take k))).trans ?_
        have e6 : (c ++ inv (b.take k)) ++ (b ++ (b.take k ++ inv c)) = c ++ ((inv (b.take k) ++ b.take k) ++ (b.drop k ++ (b.take k ++ inv c))) := by
          have e9 : b ++ (b.take k ++ inv c) = b.take k ++ (b.drop k ++ (b.take k ++ inv c)) :=
            (congrArg (· ++ (b.take k ++ inv c)) (List.take_append_drop k b).symm).trans (List.append_assoc _ _ _)
          rw [e9]
          simp [List.append_assoc]
        rw [e6]
        have e7 : Eqv ((inv (b.take k) ++ b.take k) ++ (b.drop k ++ (b.take k ++ inv c))) (b.drop k ++ (b.take k ++ inv c)) := by
          have := (eqv_inv_left (b.take k)).appendRight (b.drop k ++ (b.take k ++ inv c))
          rwa [List.nil_append] at this
        refine (e7.appendLeft c).trans ?_
        have e8 : c ++ (b.drop k ++ (b.take k ++ inv c)) = u' := by
          rw [hu, ← hk3]; simp [List.append_assoc]
        rw [e8]
        exact eu
      · have h1 := red_length (c ++ (inv (b.take k) ++ inv d))
        simp only [List.length_append, inv_length, List.length_take] at h1
        show (red (c ++ (inv (b.take k) ++ inv d))).length ≤ _
        omega
      · intro h1 h2
        have hu' : ∀ x ∈ u', isL x = true := fun x hx => h1 x (mu x hx)
        have hv' : ∀ x ∈ v', isL x = true := fun x hx => h2 x (mv x hx)
        have hc : ∀ x ∈ c, isL x = true := fun x hx => hu' x (by rw [hu]; exact List.mem_append_left _ hx)
        have hb : ∀ x ∈ b, isL x = true := fun x hx => hv' x (by rw [hv]; exact List.mem_append_right _ (List.mem_append_left _ hx))
        have hd : ∀ x ∈ d, isL x = true := fun x hx => hv' x (by rw [hv]; exact List.mem_append_left _ hx)
        refine red_isL (fun x hx => ?_)
        rcases List.mem_append.1 hx with hx | hx
        · exact hc x hx
        · rcases List.mem_append.1 hx with hx | hx
          · exact inv_isL (fun y hy => hb y (List.mem_of_mem_take hy)) x hx
          · exact inv_isL hd x hx
  · rw [if_pos (Or.inr h), decide_eq_false h]
    exact ⟨rfl, fun h' => absurd h' h, by simp, fun _ _ c hc => by cases hc⟩

theorem cf_conj (x u : List UInt8) (hu : ∀ c ∈ u, isL c = true) : cf (x ++ (u ++ inv x)) = cf u := by
  obtain ⟨q, hq, e⟩ := core_conj u x
  unfold cf
  rw [e]
  exact formL_rot (core u) (core_isL hu) q hq

theorem conj_f {u v : ByteArray} (hu : Wd u) (hv : Wd v) : word_Conjugate.f u v = some (B (conjP (L u) (L v)).1, decide (cf (L u) = cf (L v))) := by
  unfold word_Conjugate.f
  rw [if_pos ⟨by have := hu.1; omega, by have := hv.1; omega⟩, if_pos ⟨hu, hv⟩, (conj_spec (L u) (L v)).1]

end Go.Proofs.YthiehmogphknlaaGreatDoor.Laws
