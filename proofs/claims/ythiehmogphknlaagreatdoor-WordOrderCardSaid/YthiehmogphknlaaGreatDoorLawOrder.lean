/- WordOrder: the plain law. -/
import Derived.Test.YthiehmogphknlaaGreatDoorLawKit
import Derived.Test.YthiehmogphknlaaGreatDoorPOx1
namespace Go.Proofs.YthiehmogphknlaaGreatDoor.Laws
open Go.RowKit Go.Proofs.YthiehmogphknlaaGreatDoor.G Go.Proofs.YthiehmogphknlaaGreatDoor.PA Go.Proofs.YthiehmogphknlaaGreatDoor.PO Go.Proofs.YthiehmogphknlaaGreatDoorW.PrintWords Go.Proofs.YthiehmogphknlaaGreatDoor.Free Go.Proofs.YthiehmogphknlaaGreatDoor.Pure1

theorem order_pure (u v w x y : ByteArray) (hu : u.size ≤ 140737488351232) (hv : v.size ≤ 140737488351232) (hw : w.size ≤ 140737488351232) (hx : x.size ≤ 140737488351232) (hy : y.size ≤ 140737488351232) :
    ∃ k, cayleylaw01_WordOrder.f k u v w x y = some true := by
  have hsz : ∀ s ∈ [u, v, w, x, y], s.size ≤ 140737488355328 := by
    intro s hs
    simp only [List.mem_cons, List.mem_nil_iff, or_false] at hs
    rcases hs with rfl | rfl | rfl | rfl | rfl <;> omega
  refine Ev.rounds ?_
  unfold cayleylaw01_WordOrder.f
  have hsane : ∀ (g : Bool → Option Bool), cayleylaw01_sane.f.bind g = g true := fun _ => rfl
  simp only [hsane, if_true]
  refine Ev.bind (words_ev [u, v, w, x, y] (by simp) hsz) ?_
  by_cases hS : ∀ s ∈ [u, v, w, x, y], Sw s
  case neg =>
    rw [decide_eq_false hS]
    exact Ev.congr (f := fun _ => some true) (fun k => by rw [if_neg (by simp)]) (Ev.now _)
  rw [decide_eq_true hS]
  simp only [if_true]
  have su := hS u (by simp)
  have sv := hS v (by simp)
  have sw := hS w (by simp)
  have sx := hS x (by simp)
  have sy := hS y (by simp)
  have wu := sw_wd su
  have wv := sw_wd sv
  have ww := sw_wd sw
  refine Ev.bind (cmp_ev wu wv) ?_
  refine Ev.bind (cmp_ev wv ww) ?_
  refine Ev.bind (cmp_ev wv wu) ?_
  have ⟨r1, r2⟩ := cmp_range (L u) (L v)
  have hj : Ev (fun k => cayleylaw01_WordOrder.j0 k u v x y (cmp (L u) (L v)) false) true := by
    have ⟨a1, a2⟩ := wd_append x u y sx su sy
    have ⟨b1, b2⟩ := wd_append x v y sx sv sy
    have h1 := cmp_ev a1 b1
    rw [a2, b2, cmp_mid] at h1
    have h2 := cmp_ev (wd_red wu) wu
    rw [L_B] at h2
    have h3 := cmp_red (L u)
    refine Ev.step (f := fun k => (word_Compare.f k (x ++ u ++ y) (x ++ v ++ y)).bind fun t110 => if t110 = cmp (L u) (L v) then (word_Reduce.f k u).bind fun t111 => (word_Compare.f k t111 u).bind fun t112 => some (decide (t112 ≤ 0)) else some false) (fun k => ?_) ?_
    · simp only [cayleylaw01_WordOrder.j0]
      have z1 := su.1; have z2 := sv.1; have z3 := sx.1; have z4 := sy.1
      have z5 : (x ++ u).size = x.size + u.size := by simp
      have z6 : (x ++ v).size = x.size + v.size := by simp
      rw [if_neg (by simp), if_pos (by omega), if_pos (by omega), if_pos (by omega), if_pos (by omega)]
    · refine Ev.bind h1 ?_
      simp only [if_true]
      refine Ev.bind (red_ev wu) (Ev.bind h2 ?_)
      rw [decide_eq_true h3]
      exact Ev.now _
  have e1 : cmp (L u) (L v) = wrap64 (-cmp (L v) (L u)) := by
    rw [cmp_neg (L u) (L v), Int.neg_neg, w64 _ (by omega) (by omega)]
  simp only [← e1, if_true]
  have e2 : ((cmp (L u) (L v) == 0) != (u.toList == v.toList)) = false := by
    have hz := cmp_zero (L u) (L v) su.2 sv.2
    rw [toList_L, toList_L]
    by_cases h : L u = L v
    · rw [hz.2 h, h]; simp
    · have h2 : ¬ cmp (L u) (L v) = 0 := fun e => h (hz.1 e)
      rw [beq_eq_false_iff_ne.2 h2, beq_eq_false_iff_ne.2 h]; rfl
  have e3 : ¬ cmp (L u) (L v) < -1 := by omega
  have e4 : ¬ cmp (L u) (L v) > 1 := by omega
  simp only [e2, Bool.false_eq_true, if_false, e3, e4]
  by_cases h1 : cmp (L u) (L v) ≤ 0
  · simp only [h1, if_true]
    by_cases h2 : cmp (L v) (L w) ≤ 0
    · simp only [h2, if_true]
      refine Ev.bind (cmp_ev wu ww) ?_
      have h3 := cmp_trans _ _ _ h1 h2
      have e5 : decide (cmp (L u) (L w) > 0) = false := decide_eq_false (by omega)
      rw [e5]
      exact hj
    · simp only [h2, if_false]
      exact hj
  · simp only [h1, if_false]
    exact hj

end Go.Proofs.YthiehmogphknlaaGreatDoor.Laws
