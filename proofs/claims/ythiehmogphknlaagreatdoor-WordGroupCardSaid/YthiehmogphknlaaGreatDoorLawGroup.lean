/- WordGroup: the plain law. -/
import Derived.Test.YthiehmogphknlaaGreatDoorLawKit
import Derived.Test.YthiehmogphknlaaGreatDoorPGx1
namespace Go.Proofs.YthiehmogphknlaaGreatDoor.Laws
open Go.RowKit Go.Proofs.YthiehmogphknlaaGreatDoor.G Go.Proofs.YthiehmogphknlaaGreatDoor.PA Go.Proofs.YthiehmogphknlaaGreatDoor.PG Go.Proofs.YthiehmogphknlaaGreatDoorW.PrintWords Go.Proofs.YthiehmogphknlaaGreatDoor.Free Go.Proofs.YthiehmogphknlaaGreatDoor.Pure1

theorem group_pure (u v w : ByteArray) (hu : u.size ≤ 140737488351232) (hv : v.size ≤ 140737488351232) (hw : w.size ≤ 140737488351232) :
    ∃ k, cayleylaw01_WordGroup.f k u v w = some true := by
  have hsz : ∀ s ∈ [u, v, w], s.size ≤ 140737488355328 := by
    intro s hs
    simp only [List.mem_cons, List.mem_nil_iff, or_false] at hs
    rcases hs with rfl | rfl | rfl <;> omega
  refine Ev.rounds ?_
  unfold cayleylaw01_WordGroup.f
  have hsane : ∀ (g : Bool → Option Bool), cayleylaw01_sane.f.bind g = g true := fun _ => rfl
  simp only [hsane, if_true]
  refine Ev.bind (words_ev [u, v, w] (by simp) hsz) ?_
  by_cases hS : ∀ s ∈ [u, v, w], Sw s
  case neg =>
    rw [decide_eq_false hS]
    exact Ev.congr (f := fun _ => some true) (fun k => by rw [if_neg (by simp)]) (Ev.now _)
  rw [decide_eq_true hS]
  simp only [if_true]
  have su := hS u (by simp)
  have sv := hS v (by simp)
  have sw := hS w (by simp)
  clear hS hu hv hw hsz
  -- the words and their bounds
  obtain ⟨w1, l1, z1, c1⟩ := wd_two u v 1000 1000 su.1 sv.1 (by omega) su.2 sv.2
  obtain ⟨w2, l2, z2, c2⟩ := wd_two (B (red (L (u ++ v)))) w 2000 1000 (red_size z1) sw.1 (by omega) (red_isL c1) sw.2
  obtain ⟨w3, l3, z3, c3⟩ := wd_two v w 1000 1000 sv.1 sw.1 (by omega) sv.2 sw.2
  obtain ⟨w4, l4, z4, c4⟩ := wd_two u (B (red (L (v ++ w)))) 1000 2000 su.1 (red_size z3) (by omega) su.2 (red_isL c3)
  have wu := sw_wd su
  have wv := sw_wd sv
  have ci : ∀ c ∈ L (B (inv (L u))), isL c = true := inv_isL su.2
  have cv : ∀ c ∈ L (B (inv (L v))), isL c = true := inv_isL sv.2
  obtain ⟨w5, l5, z5, c5⟩ := wd_two u (B (inv (L u))) 1000 1000 su.1 (inv_size su.1) (by omega) su.2 ci
  obtain ⟨w6, l6, z6, c6⟩ := wd_two (B (inv (L u))) u 1000 1000 (inv_size su.1) su.1 (by omega) ci su.2
  obtain ⟨w7, l7, z7, c7⟩ := wd_two (B (inv (L v))) (B (inv (L u))) 1000 1000 (inv_size sv.1) (inv_size su.1) (by omega) cv ci
  have e1 := su.1
  have e2 := sv.1
  have e3 := sw.1
  have e4 := red_size z1
  have e5 := red_size z3
  have e6 := inv_size su.1
  have e7 := inv_size sv.1
  have r2 := red_ev w2
  have r4 := red_ev w4
  rw [l2, L_B, red_left, l1] at r2
  rw [l4, L_B, red_right, l3, ← List.append_assoc] at r4
  simp only [if_pos (show u.size + v.size ≤ 9223372036854775807 by omega), if_pos (show v.size + w.size ≤ 9223372036854775807 by omega), if_pos (show u.size + 0 ≤ 9223372036854775807 by omega)]
  refine Ev.bind (red_ev w1) ?_
  simp only [if_pos (show (B (red (L (u ++ v)))).size + w.size ≤ 9223372036854775807 by omega)]
  refine Ev.bind r2 ?_
  refine Ev.bind (red_ev w3) ?_
  simp only [if_pos (show u.size + (B (red (L (v ++ w)))).size ≤ 9223372036854775807 by omega)]
  refine Ev.bind r4 ?_
  have eq1 : (B (red (L u ++ L v ++ L w))).toList = (B (red (L u ++ L v ++ L w))).toList := rfl
  simp only [if_true]
  have ue : u ++ (⟨#[]⟩ : ByteArray) = u := by
    apply L_inj
    rw [append_L, L_B]
    exact List.append_nil _
  rw [ue]
  refine Ev.bind (red_ev wu) (Ev.bind (red_ev wu) ?_)
  have bf : ((B (red (L u))).toList != (B (red (L u))).toList) = false := by simp
  rw [bf]
  clear r2 r4 bf ue eq1
  -- the second half
  have r5 := red_ev w5
  rw [l5, L_B, show red (L u ++ inv (L u)) = [] from eqv_inv_right (L u)] at r5
  have r6 := red_ev w6
  rw [l6, L_B, show red (inv (L u) ++ L u) = [] from eqv_inv_left (L u)] at r6
  have r7 := inv_ev (a := B (inv (L u))) ⟨by omega, ci⟩
  rw [L_B, inv_inv, B_L] at r7
  have r8 := inv_ev w1
  rw [l1, inv_append] at r8
  have r9 := inv_ev (a := B (red (L (u ++ v)))) ⟨by omega, red_isL c1⟩
  rw [L_B] at r9
  have wr : Wd (B (inv (red (L (u ++ v))))) := ⟨by have := inv_size e4; rw [L_B] at this; omega, inv_isL (red_isL c1)⟩
  have r10 := red_ev wr
  have eq2 : red (inv (red (L (u ++ v)))) = red (inv (L v) ++ inv (L u)) := by
    rw [← inv_append, ← l1]
    exact (Eqv.red (L (u ++ v))).inv
  rw [L_B, eq2] at r10
  have r11 := red_ev w7
  rw [l7, L_B, L_B] at r11
  refine Ev.step (f := fun k => (word_Inverse.f k u).bind fun t124 => (if u.size + t124.size ≤ 9223372036854775807 then ((word_Reduce.f k (u ++ t124)).bind fun t125 => (if t125.toList = ([] : List UInt8) then (if t124.size + u.size ≤ 9223372036854775807 then ((word_Reduce.f k (t124 ++ u)).bind fun t126 => (if t126.toList = ([] : List UInt8) then ((word_Inverse.f k t124).bind fun t127 => (if t127.toList = u.toList then (if u.size + v.size ≤ 9223372036854775807 then ((word_Inverse.f k (u ++ v)).bind fun t128 => ((word_Inverse.f k v).bind fun t129 => (if t129.size + t124.size ≤ 9223372036854775807 then (if t128.toList = (t129 ++ t124).toList then ((word_Inverse.f k (B (red (L (u ++ v))))).bind fun t130 => ((word_Reduce.f k t130).bind fun t131 => ((word_Inverse.f k v).bind fun t132 => (if t132.size + t124.size ≤ 9223372036854775807 then ((word_Reduce.f k (t132 ++ t124)).bind fun t133 => (some (t131.toList == t133.toList))) else (none))))) else (some false)) else (none)))) else (none)) else (some false))) else (some false))) else (none)) else (some false))) else (none))) (fun k => ?_) ?_
  · simp only [cayleylaw01_WordGroup.j0]
    rw [if_neg (by simp)]
  have nilE : (B []).toList = ([] : List UInt8) := by rw [toList_L, L_B]
  refine Ev.bind (inv_ev wu) ?_
  simp only [if_pos (show u.size + (B (inv (L u))).size ≤ 9223372036854775807 by omega), if_pos (show (B (inv (L u))).size + u.size ≤ 9223372036854775807 by omega), if_pos (show u.size + v.size ≤ 9223372036854775807 by omega)]
  refine Ev.bind r5 ?_
  simp only [if_pos nilE]
  refine Ev.bind r6 ?_
  simp only [if_pos nilE]
  refine Ev.bind r7 ?_
  simp only [if_true]
  refine Ev.bind r8 (Ev.bind (inv_ev wv) ?_)
  have eq3 : (B (inv (L v) ++ inv (L u))).toList = (B (inv (L v)) ++ B (inv (L u))).toList := by rw [B_append]
  simp only [if_pos (show (B (inv (L v))).size + (B (inv (L u))).size ≤ 9223372036854775807 by omega), if_pos eq3]
  refine Ev.bind r9 (Ev.bind r10 (Ev.bind (inv_ev wv) ?_))
  simp only [if_pos (show (B (inv (L v))).size + (B (inv (L u))).size ≤ 9223372036854775807 by omega)]
  refine Ev.bind r11 ?_
  rw [beq_self_eq_true]
  exact Ev.now _

end Go.Proofs.YthiehmogphknlaaGreatDoor.Laws
