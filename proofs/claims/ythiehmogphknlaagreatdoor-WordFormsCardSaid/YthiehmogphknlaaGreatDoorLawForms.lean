/- WordForms: the plain law. -/
import Derived.Test.YthiehmogphknlaaGreatDoorParserAll
import Derived.Test.YthiehmogphknlaaGreatDoorPFx1
namespace Go.Proofs.YthiehmogphknlaaGreatDoor.Laws
open Go.RowKit Go.Proofs.YthiehmogphknlaaGreatDoor.G Go.Proofs.YthiehmogphknlaaGreatDoor.PA Go.Proofs.YthiehmogphknlaaGreatDoor.PT Go.Proofs.YthiehmogphknlaaGreatDoor.PV Go.Proofs.YthiehmogphknlaaGreatDoor.PQ Go.Proofs.YthiehmogphknlaaGreatDoor.PF Go.Proofs.YthiehmogphknlaaGreatDoorW.PrintWords Go.Proofs.YthiehmogphknlaaGreatDoor.Free Go.Proofs.YthiehmogphknlaaGreatDoor.Pure1 Go.Proofs.YthiehmogphknlaaGreatDoor.Cyc Go.Proofs.YthiehmogphknlaaGreatDoor.Rot Go.Proofs.YthiehmogphknlaaGreatDoor.Pow
theorem wCyclic_ev (s : ByteArray) (hs : s.size ≤ 140737488351232) : Ev (fun k => word_Cyclic.f k s) (if Wd s then (B (core (L s)), B (cj (L s))) else (B [], B [])) := by
  unfold word_Cyclic.f
  by_cases h : Wd s
  · rw [if_pos h, is_f s (by omega), decide_eq_true h]
    simp only [Option.bind_some, if_true]
    refine Ev.bind (cyclic_ev s (by omega)) ?_
    exact Ev.now _
  · rw [if_neg h, is_f s (by omega), decide_eq_false h]
    simp only [Option.bind_some]
    exact Ev.congr (f := fun _ => some (B [], B [])) (fun k => by rw [if_neg (by simp)]; rfl) (Ev.now _)
theorem wRoot_no {s : ByteArray} (hs : s.size ≤ 140737488355328) (h : ¬ Wd s) : Ev (fun k => word_Root.f k s) (B [], 0) := by
  unfold word_Root.f
  rw [is_f s (by omega), decide_eq_false h]
  simp only [Option.bind_some]
  exact Ev.congr (f := fun _ => some (B [], 0)) (fun k => by rw [if_neg (by simp)]; rfl) (Ev.now _)
theorem wForm_no {s : ByteArray} (hs : s.size ≤ 140737488355328) (h : ¬ Wd s) : Ev (fun k => word_Form.f k s) (B []) := by
  unfold word_Form.f
  rw [is_f s (by omega), decide_eq_false h]
  simp only [Option.bind_some]
  exact Ev.congr (f := fun _ => some (B [])) (fun k => by rw [if_neg (by simp)]; rfl) (Ev.now _)
theorem conjP_more (u v : List UInt8) : Red (conjP u v).1 ∧ ((conjP u v).2 = false → (conjP u v).1 = []) := by
  unfold conjP
  dsimp only
  split
  · exact ⟨trivial, fun _ => rfl⟩
  · split
    · exact ⟨trivial, fun h => by cases h⟩
    · split
      · exact ⟨trivial, fun _ => rfl⟩
      · exact ⟨red_red _, fun h => by cases h⟩
theorem rCyc (s : ByteArray) (hs : s.size ≤ 140737488351232) : Ev (fun k => cayleyref01_Cyclic.f k s) (if Wd s then (B (core (L s)), B (cj (L s))) else (B [], B [])) := by
  by_cases h : Wd s
  · rw [if_pos h]; exact rCyclic_ev h
  · rw [if_neg h]; exact rCyclic_no (by omega) h
theorem rRt (s : ByteArray) (hs : s.size ≤ 140737488351232) : Ev (fun k => cayleyref01_Root.f k s) (if Wd s then (B (rtL (L s)), (rtN (L s) : Int)) else (B [], 0)) := by
  by_cases h : Wd s
  · rw [if_pos h]; exact rRoot_ev h
  · rw [if_neg h]; exact rRoot_no (by omega) h
theorem wRt (s : ByteArray) (hs : s.size ≤ 140737488351232) : Ev (fun k => word_Root.f k s) (if Wd s then (B (rtL (L s)), (rtN (L s) : Int)) else (B [], 0)) := by
  by_cases h : Wd s
  · rw [if_pos h]; exact Root_ev h
  · rw [if_neg h]; exact wRoot_no (by omega) h
theorem rFm (s : ByteArray) (hs : s.size ≤ 140737488351232) : Ev (fun k => cayleyref01_Form.f k s) (if Wd s then B (cf (L s)) else B []) := by
  by_cases h : Wd s
  · rw [if_pos h]; exact rForm_ev h
  · rw [if_neg h]; exact rForm_no (by omega) h
theorem wFm (s : ByteArray) (hs : s.size ≤ 140737488351232) : Ev (fun k => word_Form.f k s) (if Wd s then B (cf (L s)) else B []) := by
  by_cases h : Wd s
  · rw [if_pos h]; exact Form_ev h
  · rw [if_neg h]; exact wForm_no (by omega) h
theorem rPw (s : ByteArray) (hs : s.size ≤ 140737488351232) (n : Int) (h0 : -9223372036854775808 ≤ n) (h1 : n ≤ 9223372036854775807) : Ev (fun k => cayleyref01_Power.f k s n) (if Wd s then powE (L s) n else (B [], 4)) := by
  by_cases h : Wd s
  · rw [if_pos h]; exact rPower_ev h n h0 h1
  · rw [if_neg h]; exact rPower_no (by omega) h n
theorem wPw (s : ByteArray) (hs : s.size ≤ 140737488351232) (n : Int) (h0 : -9223372036854775808 ≤ n) (h1 : n ≤ 9223372036854775807) : Ev (fun k => word_Power.f k s n) (if Wd s then powE (L s) n else (B [], 4)) := by
  by_cases h : Wd s
  · rw [if_pos h]; exact wPower_ev h n h0 h1
  · rw [if_neg h]; exact wPower_no (by omega) h n
theorem forms_j2 (kk : Int) (t : ByteArray) (ht : t.size ≤ 140737488351232) : Ev (fun k => cayleylaw01_WordForms.j2 k kk t false) true := by
  obtain ⟨r, h1, h2⟩ := parse_alike kk (L t) (by rw [← size_L]; exact ht)
  rw [B_L] at h1 h2
  refine Ev.step (f := fun k => (cayleyref01_Parse.f k kk t).bind fun bt128 => ((word_Parse.f kk t).bind fun bt130 => (if bt130.1.toList = bt128.1.toList then (some (bt130.2 == bt128.2)) else (some false)))) (fun k => by simp only [cayleylaw01_WordForms.j2, Bool.false_eq_true, if_false]) ?_
  refine Ev.bind (show Ev (fun k => cayleyref01_Parse.f k kk t) r from h2) ?_
  rw [h1]
  simp only [Option.bind_some, if_true, beq_self_eq_true]
  exact Ev.now _
theorem forms_j1 (kk : Int) (u v t : ByteArray) (hu : u.size ≤ 140737488351232) (hv : v.size ≤ 140737488351232) (ht : t.size ≤ 140737488351232) (su : Sh u) (sv : Sh v) : Ev (fun k => cayleylaw01_WordForms.j1 k kk u v t false) true := by
  have fin := forms_j2 kk t ht
  have hc := rConj_ev u v (by omega) (by omega)
  have no : ∀ (g : Bool), g = false → word_Conjugate.f u v = some (B [], g) → Ev (fun k => cayleyref01_Conjugates.f k u v) g → Ev (fun k => cayleylaw01_WordForms.j1 k kk u v t false) true := by
    intro g hg h1 h2
    subst hg
    refine Ev.step (fun k => by simp only [cayleylaw01_WordForms.j1, Bool.false_eq_true, if_false]; rfl) ?_
    rw [h1]
    simp only [Option.bind_some]
    refine Ev.bind h2 ?_
    have e : (B []).toList = ([] : List UInt8) := by rw [toList_L]; rfl
    simp only [bne_self_eq_false, Bool.false_eq_true, if_false, if_pos e]
    exact fin
  by_cases hw : Wd u ∧ Wd v
  · obtain ⟨wu, wv⟩ := hw
    have hcf := conj_f wu wv
    have hsp := conj_spec (L u) (L v)
    have hm := conjP_more (L u) (L v)
    by_cases he : cf (L u) = cf (L v)
    · rw [decide_eq_true he] at hcf
      rw [decide_eq_true ⟨wu, wv, he⟩] at hc
      have su' := (su.sw wu).1
      have sv' := (sv.sw wv).1
      obtain ⟨c, hcc⟩ : ∃ c, (conjP (L u) (L v)).1 = c := ⟨_, rfl⟩
      rw [hcc] at hcf hsp hm
      have hlen := hsp.2.2.1
      rw [← size_L, ← size_L] at hlen
      have hcL := hsp.2.2.2 wu.2 wv.2
      have wc : Wd (B c) := ⟨by rw [size_B]; omega, hcL⟩
      have r1 := rReduce_ev (B c) (by rw [size_B]; omega)
      rw [if_pos wc, L_B, red_of_red hm.1] at r1
      have i1 := rIs_ev (B c) (by rw [size_B]; omega)
      rw [decide_eq_true wc] at i1
      have n1 := rInverse_ev (B c) (by rw [size_B]; omega)
      rw [if_pos wc, L_B] at n1
      have hcat : B c ++ v ++ B (inv c) = B (c ++ (L v ++ inv c)) := by
        have e : v = B (L v) := (B_L v).symm
        rw [e, B_append, B_append, L_B, List.append_assoc]
      have hcl : (c ++ (L v ++ inv c)).length ≤ 100000 := by
        rw [List.length_append, List.length_append, inv_length, ← size_L]; omega
      have wx : Wd (B (c ++ (L v ++ inv c))) := by
        refine ⟨by rw [size_B]; exact hcl, ?_⟩
        rw [L_B]
        intro x hx
        rcases List.mem_append.1 hx with hx | hx
        · exact hcL x hx
        · rcases List.mem_append.1 hx with hx | hx
          · exact wv.2 x hx
          · exact inv_isL hcL x hx
      have r2 := rReduce_ev (B (c ++ (L v ++ inv c))) (by rw [size_B]; omega)
      rw [if_pos wx, L_B] at r2
      have r3 := rReduce_ev u (by omega)
      rw [if_pos wu] at r3
      have heq : red (c ++ (L v ++ inv c)) = red (L u) := hsp.2.1 he
      have z1 : (B c).size + v.size ≤ 9223372036854775807 := by rw [size_B]; omega
      have z2 : (B c ++ v).size + (B (inv c)).size ≤ 9223372036854775807 := by
        have : (B c ++ v).size = (B c).size + v.size := ByteArray.size_append
        rw [this, size_B, size_B, inv_length]; omega
      refine Ev.step (fun k => by simp only [cayleylaw01_WordForms.j1, Bool.false_eq_true, if_false]; rfl) ?_
      rw [hcf]
      simp only [Option.bind_some]
      refine Ev.bind hc ?_
      simp only [bne_self_eq_false, Bool.false_eq_true, if_false, if_true]
      refine Ev.bind r1 ?_
      simp only [if_true]
      refine Ev.bind i1 ?_
      simp only [if_true, if_pos z1]
      refine Ev.bind n1 ?_
      simp only [if_pos z2, hcat]
      refine Ev.bind r2 (Ev.bind r3 ?_)
      rw [heq]
      simp only [bne_self_eq_false]
      exact fin
    · rw [decide_eq_false he] at hcf
      rw [decide_eq_false (fun x => he x.2.2)] at hc
      have h0 : (conjP (L u) (L v)).1 = [] := hm.2 (by rw [hsp.1]; exact decide_eq_false he)
      rw [h0] at hcf
      exact no false rfl hcf hc
  · rw [decide_eq_false (fun x => hw ⟨x.1, x.2.1⟩)] at hc
    refine no false rfl ?_ hc
    unfold word_Conjugate.f
    rw [if_pos ⟨by omega, by omega⟩, if_neg hw]
theorem forms_pure (kk n : Int) (u v t : ByteArray) (_ : (Lit.int .i64 kk).wf = true) (hn : (Lit.int .i64 n).wf = true) (hu : u.size ≤ 140737488351232) (hv : v.size ≤ 140737488351232) (ht : t.size ≤ 140737488351232) :
    ∃ k, cayleylaw01_WordForms.f k kk n u v t = some true := by
  have n0 : -9223372036854775808 ≤ n ∧ n ≤ 9223372036854775807 := by
    have h := (show IntKind.i64.min ≤ n ∧ n ≤ IntKind.i64.max by simpa [Lit.wf] using hn)
    exact h
  refine Ev.rounds ?_
  unfold cayleylaw01_WordForms.f
  have hsane : ∀ (g : Bool → Option Bool), cayleylaw01_sane.f.bind g = g true := fun _ => rfl
  simp only [hsane, if_true]
  refine Ev.bind (short_ev [u, v, t] (by simp)) ?_
  cases hS : [u, v, t].all fun s => decide (Sh s)
  case false => exact Ev.congr (f := fun _ => some true) (fun k => by rw [if_neg (by simp)]) (Ev.now _)
  simp only [if_true]
  have su : Sh u := by
    rw [List.all_cons, Bool.and_eq_true] at hS
    exact of_decide_eq_true hS.1
  have sv : Sh v := by
    rw [List.all_cons, Bool.and_eq_true, List.all_cons, Bool.and_eq_true] at hS
    exact of_decide_eq_true hS.2.1
  clear hS
  have fin := forms_j1 kk u v t hu hv ht su sv
  refine Ev.bind (rCyc u hu) (Ev.bind (rRt u hu) (Ev.bind (wCyclic_ev u hu) (Ev.bind (wRt u hu) ?_)))
  simp only [if_true]
  refine Ev.bind (wFm u hu) (Ev.bind (rFm u hu) ?_)
  simp only [bne_self_eq_false]
  refine Ev.step (fun k => by simp only [cayleylaw01_WordForms.j0, Bool.false_eq_true, if_false]; rfl) ?_
  refine Ev.bind (rPw u hu n n0.1 n0.2) (Ev.bind (wPw u hu n n0.1 n0.2) ?_)
  simp only [if_true, bne_self_eq_false]
  exact fin
end Go.Proofs.YthiehmogphknlaaGreatDoor.Laws
