/- WordConjugacy: the plain law. -/
import Derived.Test.YthiehmogphknlaaGreatDoorConjLaw
import Derived.Test.YthiehmogphknlaaGreatDoorPJx1
namespace Go.Proofs.YthiehmogphknlaaGreatDoor.Laws
open Go.RowKit Go.Proofs.YthiehmogphknlaaGreatDoor.G Go.Proofs.YthiehmogphknlaaGreatDoor.PA Go.Proofs.YthiehmogphknlaaGreatDoor.PJ Go.Proofs.YthiehmogphknlaaGreatDoorW.PrintWords Go.Proofs.YthiehmogphknlaaGreatDoor.Free Go.Proofs.YthiehmogphknlaaGreatDoor.Pure1 Go.Proofs.YthiehmogphknlaaGreatDoor.Cyc Go.Proofs.YthiehmogphknlaaGreatDoor.Rot

theorem conjugacy_pure (u v w x : ByteArray) (hu : u.size ≤ 140737488351232) (hv : v.size ≤ 140737488351232) (hw : w.size ≤ 140737488351232) (hx : x.size ≤ 140737488351232) :
    ∃ k, cayleylaw01_WordConjugacy.f k u v w x = some true := by
  have hsz : ∀ s ∈ [u, v, w, x], s.size ≤ 140737488355328 := by
    intro s hs
    simp only [List.mem_cons, List.mem_nil_iff, or_false] at hs
    rcases hs with rfl | rfl | rfl | rfl <;> omega
  refine Ev.rounds ?_
  unfold cayleylaw01_WordConjugacy.f
  have hsane : ∀ (g : Bool → Option Bool), cayleylaw01_sane.f.bind g = g true := fun _ => rfl
  simp only [hsane, if_true]
  refine Ev.bind (words_ev [u, v, w, x] (by simp) hsz) ?_
  by_cases hS : ∀ s ∈ [u, v, w, x], Sw s
  case neg =>
    rw [decide_eq_false hS]
    exact Ev.congr (f := fun _ => some true) (fun k => by rw [if_neg (by simp)]) (Ev.now _)
  rw [decide_eq_true hS]
  simp only [if_true]
  have su := hS u (by simp)
  have sv := hS v (by simp)
  have sw := hS w (by simp)
  have sx := hS x (by simp)
  clear hS hsz hu hv hw hx
  have wu := sw_wd su
  have wv := sw_wd sv
  have ww := sw_wd sw
  have wx := sw_wd sx
  rw [conj_f wu wv, conj_f wv wu, conj_f wv ww, conj_f wu ww]
  simp only [Option.bind_some]
  have tB : ∀ l : List UInt8, (B l).toList = l := fun l => by rw [toList_L, L_B]
  -- the last part
  have hj : Ev (fun k => cayleylaw01_WordConjugacy.j0 k u x false) true := by
    have ix : ∀ c ∈ L (B (inv (L x))), isL c = true := inv_isL sx.2
    obtain ⟨w1, l1, z1, c1⟩ := wd_two x u 1000 1000 sx.1 su.1 (by omega) sx.2 su.2
    obtain ⟨w2, l2, z2, c2⟩ := wd_two (x ++ u) (B (inv (L x))) 2000 1000 z1 (inv_size sx.1) (by omega) c1 ix
    rw [l1, L_B, List.append_assoc] at l2
    have hcf := cf_conj (L x) (L u) su.2
    have hspec := conj_spec (L (x ++ u ++ B (inv (L x)))) (L u)
    rw [l2] at hspec
    obtain ⟨_, e2, e3, e4⟩ := hspec
    have hcs := conj_f w2 wu
    rw [l2, hcf, decide_eq_true rfl] at hcs
    have e2 := e2 hcf
    have e4 := e4 (by rw [← l2]; exact c2) su.2
    obtain ⟨y, hy⟩ : ∃ y, (conjP (L x ++ (L u ++ inv (L x))) (L u)).1 = y := ⟨_, rfl⟩
    rw [hy] at hcs e2 e3 e4
    have hsx := sx.1
    have hsu := su.1
    have hyl : (B y).size ≤ 4000 := by
      rw [size_B]
      rw [size_L] at hsx hsu
      simp only [List.length_append, inv_length] at e3
      omega
    have wy : Wd (B y) := ⟨by omega, e4⟩
    have iy : ∀ c ∈ L (B (inv y)), isL c = true := inv_isL e4
    obtain ⟨w3, l3, z3, c3⟩ := wd_two (B y) u 4000 1000 hyl su.1 (by omega) e4 su.2
    have hyi : (B (inv y)).size ≤ 4000 := by rw [size_B, inv_length]; rwa [size_B] at hyl
    obtain ⟨w4, l4, z4, c4⟩ := wd_two (B y ++ u) (B (inv y)) 5000 4000 z3 hyi (by omega) c3 iy
    rw [l3, L_B, L_B, List.append_assoc] at l4
    have hix := inv_size sx.1
    have r1 := inv_ev wx
    have r2 := inv_ev wy
    rw [L_B] at r2
    have r3 := red_ev w4
    have r4 := red_ev w2
    rw [l4, show red (y ++ (L u ++ inv y)) = red (L x ++ (L u ++ inv (L x))) from e2] at r3
    rw [l2] at r4
    have r5 := Form_ev w2
    rw [l2, hcf] at r5
    have r6 := Form_ev wu
    refine Ev.step (f := fun k => (word_Inverse.f k x).bind fun t116 => (if (x ++ u).size + t116.size ≤ 9223372036854775807 then ((word_Conjugate.f ((x ++ u) ++ t116) u).bind fun bt117 => (if bt117.2 = true then (if bt117.1.size + u.size ≤ 9223372036854775807 then ((word_Inverse.f k bt117.1).bind fun t119 => (if (bt117.1 ++ u).size + t119.size ≤ 9223372036854775807 then ((word_Reduce.f k ((bt117.1 ++ u) ++ t119)).bind fun t120 => ((word_Inverse.f k x).bind fun t121 => (if (x ++ u).size + t121.size ≤ 9223372036854775807 then ((word_Reduce.f k ((x ++ u) ++ t121)).bind fun t122 => (if t120.toList = t122.toList then ((word_Inverse.f k x).bind fun t123 => (if (x ++ u).size + t123.size ≤ 9223372036854775807 then ((word_Form.f k ((x ++ u) ++ t123)).bind fun t124 => ((word_Form.f k u).bind fun t125 => (some (t124.toList == t125.toList)))) else (none))) else (some false))) else (none)))) else (none))) else (none)) else (some false))) else (none))) (fun k => ?_) ?_
    · simp only [cayleylaw01_WordConjugacy.j0]
      rw [if_neg (by simp), if_pos (by omega)]
    have q1 : (x ++ u).size + (B (inv (L x))).size ≤ 9223372036854775807 := by omega
    refine Ev.bind r1 ?_
    simp only [if_pos q1]
    rw [hcs]
    have q2 : (B y).size + u.size ≤ 9223372036854775807 := by omega
    have q3 : (B y ++ u).size + (B (inv y)).size ≤ 9223372036854775807 := by omega
    simp only [Option.bind_some, if_true, if_pos q2]
    refine Ev.bind r2 ?_
    simp only [if_pos q3]
    refine Ev.bind r3 (Ev.bind r1 ?_)
    simp only [if_pos q1]
    refine Ev.bind r4 ?_
    simp only [if_true]
    refine Ev.bind r1 ?_
    simp only [if_pos q1]
    refine Ev.bind r5 (Ev.bind r6 ?_)
    rw [beq_self_eq_true]
    exact Ev.now _
  have b1 : (decide (cf (L u) = cf (L v)) != decide (cf (L v) = cf (L u))) = false := by
    rw [show decide (cf (L u) = cf (L v)) = decide (cf (L v) = cf (L u)) from decide_eq_decide.2 eq_comm]
    simp
  simp only [b1, Bool.false_eq_true, if_false]
  refine Ev.bind (Form_ev wu) (Ev.bind (Form_ev wv) ?_)
  have b2 : (decide (cf (L u) = cf (L v)) != ((B (cf (L u))).toList == (B (cf (L v))).toList)) = false := by
    rw [tB, tB]
    by_cases h : cf (L u) = cf (L v)
    · rw [h]; simp
    · rw [decide_eq_false h, beq_eq_false_iff_ne.2 h]; rfl
  simp only [b2, Bool.false_eq_true, if_false]
  by_cases h1 : cf (L u) = cf (L v)
  · simp only [decide_eq_true h1, if_true]
    by_cases h2 : cf (L v) = cf (L w)
    · simp only [decide_eq_true h2, if_true, decide_eq_true (h1.trans h2)]
      exact hj
    · simp only [decide_eq_false h2, Bool.false_eq_true, if_false]
      exact hj
  · simp only [decide_eq_false h1, Bool.false_eq_true, if_false]
    exact hj

end Go.Proofs.YthiehmogphknlaaGreatDoor.Laws
