/- What word.Root answers. -/
import Derived.Test.YthiehmogphknlaaGreatDoorMath
import Derived.Test.YthiehmogphknlaaGreatDoorConjLaw
namespace Go.Proofs.YthiehmogphknlaaGreatDoor.Laws
open Go.RowKit Go.Proofs.YthiehmogphknlaaGreatDoor.G Go.Proofs.YthiehmogphknlaaGreatDoor.PA Go.Proofs.YthiehmogphknlaaGreatDoorW.PrintWords Go.Proofs.YthiehmogphknlaaGreatDoor.Free Go.Proofs.YthiehmogphknlaaGreatDoor.Pure1 Go.Proofs.YthiehmogphknlaaGreatDoor.Min Go.Proofs.YthiehmogphknlaaGreatDoor.Cyc Go.Proofs.YthiehmogphknlaaGreatDoor.Rot Go.Proofs.YthiehmogphknlaaGreatDoor.Pow

theorem period_l0 (s : ByteArray) (hs : s.size ≤ 140737488355328) : ∀ (f p : Nat), 1 ≤ p → p ≤ s.size + 1 → s.size ≤ p + f → Ev (fun k => word_period.l0 k s (p : Int)) (perF (L s) f p : Int) := by
  have hw : wrap64 ((s.size : Int) / 2) = ((s.size / 2 : Nat) : Int) := by rw [w64 _ (by omega) (by omega)]; omega
  intro f
  induction f with
  | zero =>
    intro p hp hp2 hf
    refine ev_some _ _ (fun k => ?_)
    simp only [word_period.l0]
    rw [hw, if_neg (by omega)]
    rfl
  | succ f ih =>
    intro p hp hp2 hf
    rw [perF, ← size_L]
    by_cases h1 : p ≤ s.size / 2
    · rw [if_pos h1]
      have hsub : wrap64 ((s.size : Int) - (p : Int)) = ((s.size - p : Nat) : Int) := by rw [w64 _ (by omega) (by omega)]; omega
      have hmod : ((s.size : Int) % (p : Int) = 0) ↔ s.size % p = 0 := by
        rw [← Int.natCast_emod]; omega
      have hd : (s.extract p s.size).toList = (L s).drop p := by
        rw [extract_L, toList_L, L_B, List.take_of_length_le (by rw [List.length_drop, ← size_L]; exact Nat.le_refl _)]
      have ht : (s.extract 0 (s.size - p)).toList = (L s).take (s.size - p) := by
        rw [extract_L, toList_L, L_B, List.drop_zero, Nat.sub_zero]
      have hb : ∀ k, word_period.l0 (k + 1) s (p : Int) = if s.size % p = 0 then (if (L s).drop p = (L s).take (s.size - p) then some (p : Int) else word_period.l0 k s ((p + 1 : Nat) : Int)) else word_period.l0 k s ((p + 1 : Nat) : Int) := by
        intro k
        simp only [word_period.l0]
        rw [hw, if_pos (by omega), if_neg (by omega), hsub, w64_succ p (by omega), Int.toNat_natCast, Int.toNat_natCast, hd, ht]
        by_cases hm : s.size % p = 0
        · rw [if_pos (hmod.2 hm), if_pos hm, if_pos (by omega), if_pos (by omega), if_pos (by omega), if_pos (by omega)]
        · rw [if_neg (fun h => hm (hmod.1 h)), if_neg hm]
      by_cases hm : s.size % p = 0
      · by_cases he : (L s).drop p = (L s).take (s.size - p)
        · rw [if_pos ⟨hm, he⟩]
          exact ev_some _ _ (fun k => by rw [hb, if_pos hm, if_pos he])
        · rw [if_neg (fun h => he h.2)]
          exact Ev.step (fun k => by rw [hb, if_pos hm, if_neg he]) (ih (p + 1) (by omega) (by omega) (by omega))
      · rw [if_neg (fun h => hm h.1)]
        exact Ev.step (fun k => by rw [hb, if_neg hm]) (ih (p + 1) (by omega) (by omega) (by omega))
    · rw [if_neg h1]
      refine ev_some _ _ (fun k => ?_)
      simp only [word_period.l0]
      rw [hw, if_neg (by omega)]
theorem period_ev (s : ByteArray) (hs : s.size ≤ 140737488355328) : Ev (fun k => word_period.f k s) (per (L s) : Int) := by
  have := period_l0 s hs (L s).length 1 (by omega) (by omega) (by rw [← size_L]; omega)
  exact this

theorem Root_ev {s : ByteArray} (h : Wd s) : Ev (fun k => word_Root.f k s) (B (rtL (L s)), (rtN (L s) : Int)) := by
  have hs := h.1
  unfold word_Root.f
  rw [is_f s (by omega), decide_eq_true h]
  simp only [Option.bind_some, if_true]
  have hcv : Ev (fun k => word_cyclic.f k s) (B (core (L s)), B (cj (L s))) := cyclic_ev s (by omega)
  refine Ev.bind hcv ?_
  have hl := core_length (L s)
  have hcj : 2 * (cj (L s)).length + (core (L s)).length = (red (L s)).length := cyc_length _
  have hrl := red_length (L s)
  rw [size_L] at hs
  show Ev (fun k => if (B (core (L s))).toList = ([] : List UInt8) then some ((⟨#[]⟩ : ByteArray), (0 : Int)) else (word_period.f k (B (core (L s)))).bind fun t152 => _) _
  by_cases hc : core (L s) = []
  · have e1 : (B (core (L s))).toList = ([] : List UInt8) := by rw [toList_L, L_B, hc]
    simp only [if_pos e1]
    have e2 : rtL (L s) = [] := by unfold rtL; rw [if_pos hc]
    have e3 : rtN (L s) = 0 := by unfold rtN; rw [if_pos hc]
    rw [e2, e3]
    exact Ev.now _
  · have e1 : ¬ (B (core (L s))).toList = ([] : List UInt8) := by rw [toList_L, L_B]; exact hc
    simp only [if_neg e1]
    have hp := period_ev (B (core (L s))) (by rw [size_B]; omega)
    rw [L_B] at hp
    refine Ev.bind hp ?_
    have h1 := per_pos _ hc
    have h2 := per_le _ hc
    have s1 : (0 : Int) ≤ (per (core (L s)) : Int) := by omega
    have s2 : (per (core (L s)) : Int) ≤ ((B (core (L s))).size : Int) := by rw [size_B]; omega
    simp only [if_pos s1, if_pos s2]
    have hi := inverse_ev (B (cj (L s))) (by rw [size_B]; omega)
    rw [L_B] at hi
    refine Ev.bind hi ?_
    have ex : (B (core (L s))).extract 0 ((per (core (L s)) : Int)).toNat = B (rootL (core (L s))) := by
      rw [Int.toNat_natCast, extract_L, L_B, List.drop_zero, Nat.sub_zero]; rfl
    have hcat : cat [B (cj (L s)), B (rootL (core (L s))), B (inv (cj (L s)))] = cj (L s) ++ (rootL (core (L s)) ++ inv (cj (L s))) := by simp [cat, L_B]
    have hrlen := root_len _ hc
    have hr := reduce_ev [B (cj (L s)), B (rootL (core (L s))), B (inv (cj (L s)))] (by rw [hcat, List.length_append, List.length_append, inv_length, hrlen]; omega) (by simp)
    rw [hcat] at hr
    show Ev (fun k => (word_reduce.f k [B (cj (L s)), (B (core (L s))).extract 0 ((per (core (L s)) : Int)).toNat, B (inv (cj (L s)))]).bind fun t157 => _) _
    rw [ex]
    refine Ev.bind hr ?_
    have e4 : ¬ (per (core (L s)) : Int) = 0 := by omega
    simp only [if_neg e4]
    have e5 : rtL (L s) = red (cj (L s) ++ (rootL (core (L s)) ++ inv (cj (L s)))) := by unfold rtL; rw [if_neg hc]
    have e6 : wrap64 (((B (core (L s))).size : Int) / (per (core (L s)) : Int)) = (rtN (L s) : Int) := by
      have : rtN (L s) = (core (L s)).length / per (core (L s)) := by unfold rtN; rw [if_neg hc]
      rw [this, size_B, ← Int.natCast_ediv]
      have : (core (L s)).length / per (core (L s)) ≤ (core (L s)).length := Nat.div_le_self _ _
      rw [w64 _ (by omega) (by omega)]
    rw [e5, e6]
    exact Ev.now _

end Go.Proofs.YthiehmogphknlaaGreatDoor.Laws
