/- WordCommute: the plain law. -/
import Derived.Test.YthiehmogphknlaaGreatDoorRootEv
import Derived.Test.YthiehmogphknlaaGreatDoorPCx1
namespace Go.Proofs.YthiehmogphknlaaGreatDoor.Laws
open Go.RowKit Go.Proofs.YthiehmogphknlaaGreatDoor.G Go.Proofs.YthiehmogphknlaaGreatDoor.PA Go.Proofs.YthiehmogphknlaaGreatDoor.PC Go.Proofs.YthiehmogphknlaaGreatDoorW.PrintWords Go.Proofs.YthiehmogphknlaaGreatDoor.Free Go.Proofs.YthiehmogphknlaaGreatDoor.Pure1 Go.Proofs.YthiehmogphknlaaGreatDoor.Pow Go.Proofs.YthiehmogphknlaaGreatDoor.Cyc

theorem rtL_length (l : List UInt8) : (rtL l).length ≤ l.length := by
  by_cases h : core l = []
  · unfold rtL; rw [if_pos h]; simp
  · rw [rtL_eq l h]
    have h1 : 2 * (cj l).length + (core l).length = (red l).length := cyc_length _
    have h2 := red_length l
    have h3 := root_len _ h
    have h4 := per_le _ h
    rw [List.length_append, List.length_append, inv_length]
    omega
theorem rtL_isL {l : List UInt8} (h : ∀ c ∈ l, isL c = true) : ∀ c ∈ rtL l, isL c = true := by
  by_cases hc : core l = []
  · unfold rtL; rw [if_pos hc]; intro c hc; cases hc
  · rw [rtL_eq l hc]
    have hr := red_isL h
    rw [red_parts l] at hr
    intro x hx
    rcases List.mem_append.1 hx with hx | hx
    · exact hr x (List.mem_append_left _ hx)
    · rcases List.mem_append.1 hx with hx | hx
      · exact hr x (List.mem_append_right _ (List.mem_append_left _ (List.mem_of_mem_take hx)))
      · exact hr x (List.mem_append_right _ (List.mem_append_right _ hx))

theorem commute_pure (u v : ByteArray) (hu : u.size ≤ 140737488351232) (hv : v.size ≤ 140737488351232) : ∃ k, cayleylaw01_WordCommute.f k u v = some true := by
  have hsz : ∀ s ∈ [u, v], s.size ≤ 140737488355328 := by
    intro s hs
    simp only [List.mem_cons, List.mem_nil_iff, or_false] at hs
    rcases hs with rfl | rfl <;> omega
  refine Ev.rounds ?_
  unfold cayleylaw01_WordCommute.f
  have hsane : ∀ (g : Bool → Option Bool), cayleylaw01_sane.f.bind g = g true := fun _ => rfl
  simp only [hsane, if_true]
  refine Ev.bind (words_ev [u, v] (by simp) hsz) ?_
  by_cases hS : ∀ s ∈ [u, v], Sw s
  case neg =>
    rw [decide_eq_false hS]
    exact Ev.congr (f := fun _ => some true) (fun k => by rw [if_neg (by simp)]) (Ev.now _)
  rw [decide_eq_true hS]
  simp only [if_true]
  have su := hS u (by simp)
  have sv := hS v (by simp)
  clear hS hsz hu hv
  have wu := sw_wd su
  have wv := sw_wd sv
  have u1 := su.1
  have v1 := sv.1
  obtain ⟨w1, l1, z1, c1⟩ := wd_two u v 1000 1000 su.1 sv.1 (by omega) su.2 sv.2
  obtain ⟨w2, l2, z2, c2⟩ := wd_two v u 1000 1000 sv.1 su.1 (by omega) sv.2 su.2
  have r1 := red_ev w1
  have r2 := red_ev w2
  have r3 := red_ev wu
  rw [l1] at r1
  rw [l2] at r2
  have key := commute_iff (L u) (L v)
  have nil := rtL_nil (L u)
  refine Ev.bind (Root_ev wu) ?_
  refine Ev.bind (Root_ev wv) ?_
  have ws : Wd (B (rtL (L v))) := by
    have := rtL_length (L v)
    refine ⟨?_, rtL_isL sv.2⟩
    rw [size_L] at v1
    rw [size_B]; omega
  have r4 := inv_ev ws
  rw [L_B] at r4
  have sz1 : u.size + v.size ≤ 9223372036854775807 := by omega
  have sz2 : v.size + u.size ≤ 9223372036854775807 := by omega
  simp only [if_pos sz1, if_pos sz2]
  obtain ⟨R, hR⟩ : ∃ R, rtL (L u) = R := ⟨_, rfl⟩
  obtain ⟨T, hT⟩ : ∃ T, rtL (L v) = T := ⟨_, rfl⟩
  rw [hR, hT] at key
  rw [hR] at nil
  rw [hT] at r4
  rw [hR, hT]
  have tB : ∀ l : List UInt8, (B l).toList = l := fun l => by rw [toList_L, L_B]
  have last : ((R == ([] : List UInt8)) == (red (L u) == ([] : List UInt8))) = true := by
    by_cases h : R = []
    · rw [h, nil.1 h]; rfl
    · have h2 : ¬ red (L u) = [] := fun e => h (nil.2 e)
      rw [beq_eq_false_iff_ne.2 h, beq_eq_false_iff_ne.2 h2]; rfl
  have same : red (L u ++ L v) = red (L v ++ L u) → ((red (L u ++ L v) == red (L v ++ L u)) == true) = true := fun e => by rw [e, beq_self_eq_true]; rfl
  by_cases h1 : R = []
  · simp only [tB, if_pos h1]
    refine Ev.bind r1 (Ev.bind r2 ?_)
    simp only [tB, if_pos (same (key.2 (Or.inl h1)))]
    refine Ev.bind r3 ?_
    rw [tB, last]
    exact Ev.now _
  · simp only [tB, if_neg h1]
    by_cases h2 : T = []
    · simp only [if_pos h2]
      refine Ev.bind r1 (Ev.bind r2 ?_)
      simp only [tB, if_pos (same (key.2 (Or.inr (Or.inl h2))))]
      refine Ev.bind r3 ?_
      rw [tB, last]
      exact Ev.now _
    · simp only [if_neg h2]
      by_cases h3 : R = T
      · simp only [if_pos h3]
        refine Ev.bind r1 (Ev.bind r2 ?_)
        simp only [tB, if_pos (same (key.2 (Or.inr (Or.inr (Or.inl h3)))))]
        refine Ev.bind r3 ?_
        rw [tB, last]
        exact Ev.now _
      · simp only [if_neg h3]
        refine Ev.bind r4 (Ev.bind r1 (Ev.bind r2 ?_))
        have h4 : ((red (L u ++ L v) == red (L v ++ L u)) == (R == inv T)) = true := by
          by_cases h5 : R = inv T
          · rw [key.2 (Or.inr (Or.inr (Or.inr h5))), h5, beq_self_eq_true, beq_self_eq_true]; rfl
          · have h6 : ¬ red (L u ++ L v) = red (L v ++ L u) := fun e => by
              rcases key.1 e with x | x | x | x
              · exact h1 x
              · exact h2 x
              · exact h3 x
              · exact h5 x
            rw [beq_eq_false_iff_ne.2 h5, beq_eq_false_iff_ne.2 h6]; rfl
        simp only [tB, if_pos h4]
        refine Ev.bind r3 ?_
        rw [tB, last]
        exact Ev.now _

end Go.Proofs.YthiehmogphknlaaGreatDoor.Laws
