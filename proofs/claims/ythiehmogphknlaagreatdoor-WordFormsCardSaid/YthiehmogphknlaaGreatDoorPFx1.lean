/- Printed by a program of this session (wip/ext.py) out of the translation, after the kit's print. Not trusted: Lean checks it. -/
import Derived.Test.YthiehmogphknlaaGreatDoorPFx0
namespace Go.Proofs.YthiehmogphknlaaGreatDoor.PF
open Go.Proofs.YthiehmogphknlaaGreatDoor.G Go.Proofs.YthiehmogphknlaaGreatDoor.PA Go.Proofs.YthiehmogphknlaaGreatDoor.PT Go.Proofs.YthiehmogphknlaaGreatDoor.PV Go.Proofs.YthiehmogphknlaaGreatDoor.PQ Go.RowKit Go.Proofs.YthiehmogphknlaaGreatDoorW.PrintWords Go.Proofs.YthiehmogphknlaaGreatDoorW.PrintLast Go.Proofs.YthiehmogphknlaaGreatDoorW.PrintMore
attribute [local go_sem] max2_int min2_int max_two min_two max_three min_three max_four min_four   -- for this text's walks alone
set_option linter.unusedVariables false
set_option linter.unusedSimpArgs false
mutual
def cayleylaw01_WordForms.j0 : Nat → Int → Int → ByteArray → ByteArray → ByteArray → Bool → Option (Bool)
  | 0, _, _, _, _, _, _ => none
  | k + 1, x0, x1, x2, x3, x4, x77 => if x77 = true then (some false) else ((cayleyref01_Power.f k x2 x1).bind fun bt116 => ((word_Power.f k x2 x1).bind fun bt118 => (if bt118.1.toList = bt116.1.toList then (cayleylaw01_WordForms.j1 k x0 x2 x3 x4 (bt118.2 != bt116.2)) else (cayleylaw01_WordForms.j1 k x0 x2 x3 x4 true))))
def cayleylaw01_WordForms.j1 : Nat → Int → ByteArray → ByteArray → ByteArray → Bool → Option (Bool)
  | 0, _, _, _, _, _ => none
  | k + 1, x0, x2, x3, x4, x97 => if x97 = true then (some false) else ((word_Conjugate.f x2 x3).bind fun bt120 => ((cayleyref01_Conjugates.f k x2 x3).bind fun t122 => (if (bt120.2 != t122) = true then (cayleylaw01_WordForms.j2 k x0 x4 true) else (if bt120.2 = true then ((cayleyref01_Reduce.f k bt120.1).bind fun t123 => (if t123.toList = bt120.1.toList then ((cayleyref01_Is.f k bt120.1).bind fun t124 => (if t124 = true then (if bt120.1.size + x3.size ≤ 9223372036854775807 then ((cayleyref01_Inverse.f k bt120.1).bind fun t125 => (if (bt120.1 ++ x3).size + t125.size ≤ 9223372036854775807 then ((cayleyref01_Reduce.f k ((bt120.1 ++ x3) ++ t125)).bind fun t126 => ((cayleyref01_Reduce.f k x2).bind fun t127 => (cayleylaw01_WordForms.j2 k x0 x4 (t126.toList != t127.toList)))) else (none))) else (none)) else (cayleylaw01_WordForms.j2 k x0 x4 true))) else (cayleylaw01_WordForms.j2 k x0 x4 true))) else (if bt120.1.toList = ([] : List UInt8) then (cayleylaw01_WordForms.j2 k x0 x4 false) else (cayleylaw01_WordForms.j2 k x0 x4 true))))))
def cayleylaw01_WordForms.j2 : Nat → Int → ByteArray → Bool → Option (Bool)
  | 0, _, _, _ => none
  | k + 1, x0, x4, x142 => if x142 = true then (some false) else ((cayleyref01_Parse.f k x0 x4).bind fun bt128 => ((word_Parse.f x0 x4).bind fun bt130 => (if bt130.1.toList = bt128.1.toList then (some (bt130.2 == bt128.2)) else (some false))))
end
def cayleylaw01_WordForms.f (k : Nat) (a0 : Int) (a1 : Int) (a2 : ByteArray) (a3 : ByteArray) (a4 : ByteArray) : Option (Bool) := (cayleylaw01_sane.f).bind fun t101 => (if t101 = true then ((cayleylaw01_short.f k (([a2, a3, a4] : List ByteArray))).bind fun t105 => (if t105 = true then ((cayleyref01_Cyclic.f k a2).bind fun bt106 => ((cayleyref01_Root.f k a2).bind fun bt108 => ((word_Cyclic.f k a2).bind fun bt110 => ((word_Root.f k a2).bind fun bt112 => (if bt110.1.toList = bt106.1.toList then (if bt110.2.toList = bt106.2.toList then (if bt112.1.toList = bt108.1.toList then (if bt112.2 = bt108.2 then ((word_Form.f k a2).bind fun t114 => ((cayleyref01_Form.f k a2).bind fun t115 => (cayleylaw01_WordForms.j0 k a0 a1 a2 a3 a4 (t114.toList != t115.toList)))) else (cayleylaw01_WordForms.j0 k a0 a1 a2 a3 a4 true)) else (cayleylaw01_WordForms.j0 k a0 a1 a2 a3 a4 true)) else (cayleylaw01_WordForms.j0 k a0 a1 a2 a3 a4 true)) else (cayleylaw01_WordForms.j0 k a0 a1 a2 a3 a4 true)))))) else (some true))) else (some false))
set_option maxHeartbeats 8000000 in
set_option maxRecDepth 100000 in
theorem cayleylaw01_WordForms.calls (k : Nat) (a0 : Int) (a1 : Int) (a2 : ByteArray) (a3 : ByteArray) (a4 : ByteArray) (r : Bool) (w : World) (h : cayleylaw01_WordForms.f k a0 a1 a2 a3 a4 = some r) (hG : GL w) :
    Calls Tryz.prog 4 #[.int .i64 a0, .int .i64 a1, .string a2, .string a3, .string a4] w fun e w' => e = .returned (.bool r) ∧ Below w.heap.size w w' := by
  have HB := Aside0.mk (Below.refl w.heap.size w)
  have H : ((cayleylaw01_sane.f).bind fun t101 => (if t101 = true then ((cayleylaw01_short.f k (([a2, a3, a4] : List ByteArray))).bind fun t105 => (if t105 = true then ((cayleyref01_Cyclic.f k a2).bind fun bt106 => ((cayleyref01_Root.f k a2).bind fun bt108 => ((word_Cyclic.f k a2).bind fun bt110 => ((word_Root.f k a2).bind fun bt112 => (if bt110.1.toList = bt106.1.toList then (if bt110.2.toList = bt106.2.toList then (if bt112.1.toList = bt108.1.toList then (if bt112.2 = bt108.2 then ((word_Form.f k a2).bind fun t114 => ((cayleyref01_Form.f k a2).bind fun t115 => (cayleylaw01_WordForms.j0 k a0 a1 a2 a3 a4 (t114.toList != t115.toList)))) else (cayleylaw01_WordForms.j0 k a0 a1 a2 a3 a4 true)) else (cayleylaw01_WordForms.j0 k a0 a1 a2 a3 a4 true)) else (cayleylaw01_WordForms.j0 k a0 a1 a2 a3 a4 true)) else (cayleylaw01_WordForms.j0 k a0 a1 a2 a3 a4 true)))))) else (some true))) else (some false))) = some r := h
  clear h
  replace H := Option.bind_eq_some_iff.mp H
  obtain ⟨t101, A60, H⟩ := H
  replace H : (if t101 = true then ((cayleylaw01_short.f k (([a2, a3, a4] : List ByteArray))).bind fun t105 => (if t105 = true then ((cayleyref01_Cyclic.f k a2).bind fun bt106 => ((cayleyref01_Root.f k a2).bind fun bt108 => ((word_Cyclic.f k a2).bind fun bt110 => ((word_Root.f k a2).bind fun bt112 => (if bt110.1.toList = bt106.1.toList then (if bt110.2.toList = bt106.2.toList then (if bt112.1.toList = bt108.1.toList then (if bt112.2 = bt108.2 then ((word_Form.f k a2).bind fun t114 => ((cayleyref01_Form.f k a2).bind fun t115 => (cayleylaw01_WordForms.j0 k a0 a1 a2 a3 a4 (t114.toList != t115.toList)))) else (cayleylaw01_WordForms.j0 k a0 a1 a2 a3 a4 true)) else (cayleylaw01_WordForms.j0 k a0 a1 a2 a3 a4 true)) else (cayleylaw01_WordForms.j0 k a0 a1 a2 a3 a4 true)) else (cayleylaw01_WordForms.j0 k a0 a1 a2 a3 a4 true)))))) else (some true))) else (some false)) = some r := H
  have A6 := Aside0.mk A60
  clear A60
  by_cases c7 : t101 = true
  · subst c7
    have H1 : ((cayleylaw01_short.f k (([a2, a3, a4] : List ByteArray))).bind fun t105 => (if t105 = true then ((cayleyref01_Cyclic.f k a2).bind fun bt106 => ((cayleyref01_Root.f k a2).bind fun bt108 => ((word_Cyclic.f k a2).bind fun bt110 => ((word_Root.f k a2).bind fun bt112 => (if bt110.1.toList = bt106.1.toList then (if bt110.2.toList = bt106.2.toList then (if bt112.1.toList = bt108.1.toList then (if bt112.2 = bt108.2 then ((word_Form.f k a2).bind fun t114 => ((cayleyref01_Form.f k a2).bind fun t115 => (cayleylaw01_WordForms.j0 k a0 a1 a2 a3 a4 (t114.toList != t115.toList)))) else (cayleylaw01_WordForms.j0 k a0 a1 a2 a3 a4 true)) else (cayleylaw01_WordForms.j0 k a0 a1 a2 a3 a4 true)) else (cayleylaw01_WordForms.j0 k a0 a1 a2 a3 a4 true)) else (cayleylaw01_WordForms.j0 k a0 a1 a2 a3 a4 true)))))) else (some true))) = some r := by rw [if_pos rfl] at H; exact H
    clear H
    have H := H1
    clear H1
    obtain ⟨y102, hy102⟩ : ∃ y_ : List ByteArray, y_ = (([a2, a3, a4] : List ByteArray)) := ⟨_, rfl⟩
    replace H : ((cayleylaw01_short.f k y102).bind fun t105 => (if t105 = true then ((cayleyref01_Cyclic.f k a2).bind fun bt106 => ((cayleyref01_Root.f k a2).bind fun bt108 => ((word_Cyclic.f k a2).bind fun bt110 => ((word_Root.f k a2).bind fun bt112 => (if bt110.1.toList = bt106.1.toList then (if bt110.2.toList = bt106.2.toList then (if bt112.1.toList = bt108.1.toList then (if bt112.2 = bt108.2 then ((word_Form.f k a2).bind fun t114 => ((cayleyref01_Form.f k a2).bind fun t115 => (cayleylaw01_WordForms.j0 k a0 a1 a2 a3 a4 (t114.toList != t115.toList)))) else (cayleylaw01_WordForms.j0 k a0 a1 a2 a3 a4 true)) else (cayleylaw01_WordForms.j0 k a0 a1 a2 a3 a4 true)) else (cayleylaw01_WordForms.j0 k a0 a1 a2 a3 a4 true)) else (cayleylaw01_WordForms.j0 k a0 a1 a2 a3 a4 true)))))) else (some true))) = some r := by first | (rw [hy102]; with_reducible exact H) | (have H2_ := (Option.bind_some _ _).symm.trans H; rw [hy102]; with_reducible exact H2_) | (have H2_ := (Option.bind_some _ _).symm.trans H; with_reducible exact H2_) | with_reducible exact H | (rw [hy102]; exact H) | exact H
    have Ny102 := Aside0.mk hy102
    clear hy102
    replace H := Option.bind_eq_some_iff.mp H
    obtain ⟨t105, A80, H⟩ := H
    replace H : (if t105 = true then ((cayleyref01_Cyclic.f k a2).bind fun bt106 => ((cayleyref01_Root.f k a2).bind fun bt108 => ((word_Cyclic.f k a2).bind fun bt110 => ((word_Root.f k a2).bind fun bt112 => (if bt110.1.toList = bt106.1.toList then (if bt110.2.toList = bt106.2.toList then (if bt112.1.toList = bt108.1.toList then (if bt112.2 = bt108.2 then ((word_Form.f k a2).bind fun t114 => ((cayleyref01_Form.f k a2).bind fun t115 => (cayleylaw01_WordForms.j0 k a0 a1 a2 a3 a4 (t114.toList != t115.toList)))) else (cayleylaw01_WordForms.j0 k a0 a1 a2 a3 a4 true)) else (cayleylaw01_WordForms.j0 k a0 a1 a2 a3 a4 true)) else (cayleylaw01_WordForms.j0 k a0 a1 a2 a3 a4 true)) else (cayleylaw01_WordForms.j0 k a0 a1 a2 a3 a4 true)))))) else (some true)) = some r := H
    have A8 := Aside0.mk A80
    clear A80
    by_cases c9 : t105 = true
    · subst c9
      have H1 : ((cayleyref01_Cyclic.f k a2).bind fun bt106 => ((cayleyref01_Root.f k a2).bind fun bt108 => ((word_Cyclic.f k a2).bind fun bt110 => ((word_Root.f k a2).bind fun bt112 => (if bt110.1.toList = bt106.1.toList then (if bt110.2.toList = bt106.2.toList then (if bt112.1.toList = bt108.1.toList then (if bt112.2 = bt108.2 then ((word_Form.f k a2).bind fun t114 => ((cayleyref01_Form.f k a2).bind fun t115 => (cayleylaw01_WordForms.j0 k a0 a1 a2 a3 a4 (t114.toList != t115.toList)))) else (cayleylaw01_WordForms.j0 k a0 a1 a2 a3 a4 true)) else (cayleylaw01_WordForms.j0 k a0 a1 a2 a3 a4 true)) else (cayleylaw01_WordForms.j0 k a0 a1 a2 a3 a4 true)) else (cayleylaw01_WordForms.j0 k a0 a1 a2 a3 a4 true)))))) = some r := by rw [if_pos rfl] at H; exact H
      clear H
      have H := H1
      clear H1
      replace H := Option.bind_eq_some_iff.mp H
      obtain ⟨⟨t106, t107⟩, A100, H⟩ := H
      replace H : ((cayleyref01_Root.f k a2).bind fun bt108 => ((word_Cyclic.f k a2).bind fun bt110 => ((word_Root.f k a2).bind fun bt112 => (if bt110.1.toList = t106.toList then (if bt110.2.toList = t107.toList then (if bt112.1.toList = bt108.1.toList then (if bt112.2 = bt108.2 then ((word_Form.f k a2).bind fun t114 => ((cayleyref01_Form.f k a2).bind fun t115 => (cayleylaw01_WordForms.j0 k a0 a1 a2 a3 a4 (t114.toList != t115.toList)))) else (cayleylaw01_WordForms.j0 k a0 a1 a2 a3 a4 true)) else (cayleylaw01_WordForms.j0 k a0 a1 a2 a3 a4 true)) else (cayleylaw01_WordForms.j0 k a0 a1 a2 a3 a4 true)) else (cayleylaw01_WordForms.j0 k a0 a1 a2 a3 a4 true))))) = some r := H
      have A10 := Aside0.mk A100
      clear A100
      replace H := Option.bind_eq_some_iff.mp H
      obtain ⟨⟨t108, t109⟩, A110, H⟩ := H
      replace H : ((word_Cyclic.f k a2).bind fun bt110 => ((word_Root.f k a2).bind fun bt112 => (if bt110.1.toList = t106.toList then (if bt110.2.toList = t107.toList then (if bt112.1.toList = t108.toList then (if bt112.2 = t109 then ((word_Form.f k a2).bind fun t114 => ((cayleyref01_Form.f k a2).bind fun t115 => (cayleylaw01_WordForms.j0 k a0 a1 a2 a3 a4 (t114.toList != t115.toList)))) else (cayleylaw01_WordForms.j0 k a0 a1 a2 a3 a4 true)) else (cayleylaw01_WordForms.j0 k a0 a1 a2 a3 a4 true)) else (cayleylaw01_WordForms.j0 k a0 a1 a2 a3 a4 true)) else (cayleylaw01_WordForms.j0 k a0 a1 a2 a3 a4 true)))) = some r := H
      have A11 := Aside0.mk A110
      clear A110
      replace H := Option.bind_eq_some_iff.mp H
      obtain ⟨⟨t110, t111⟩, A120, H⟩ := H
      replace H : ((word_Root.f k a2).bind fun bt112 => (if t110.toList = t106.toList then (if t111.toList = t107.toList then (if bt112.1.toList = t108.toList then (if bt112.2 = t109 then ((word_Form.f k a2).bind fun t114 => ((cayleyref01_Form.f k a2).bind fun t115 => (cayleylaw01_WordForms.j0 k a0 a1 a2 a3 a4 (t114.toList != t115.toList)))) else (cayleylaw01_WordForms.j0 k a0 a1 a2 a3 a4 true)) else (cayleylaw01_WordForms.j0 k a0 a1 a2 a3 a4 true)) else (cayleylaw01_WordForms.j0 k a0 a1 a2 a3 a4 true)) else (cayleylaw01_WordForms.j0 k a0 a1 a2 a3 a4 true))) = some r := H
      have A12 := Aside0.mk A120
      clear A120
      replace H := Option.bind_eq_some_iff.mp H
      obtain ⟨⟨t112, t113⟩, A130, H⟩ := H
      replace H : (if t110.toList = t106.toList then (if t111.toList = t107.toList then (if t112.toList = t108.toList then (if t113 = t109 then ((word_Form.f k a2).bind fun t114 => ((cayleyref01_Form.f k a2).bind fun t115 => (cayleylaw01_WordForms.j0 k a0 a1 a2 a3 a4 (t114.toList != t115.toList)))) else (cayleylaw01_WordForms.j0 k a0 a1 a2 a3 a4 true)) else (cayleylaw01_WordForms.j0 k a0 a1 a2 a3 a4 true)) else (cayleylaw01_WordForms.j0 k a0 a1 a2 a3 a4 true)) else (cayleylaw01_WordForms.j0 k a0 a1 a2 a3 a4 true)) = some r := H
      have A13 := Aside0.mk A130
      clear A130
      have HC14 := Aside0.mk H
      clear H
      go_enter Tryz.func4, Tryz.ntmps4
      go_upto_region 9 with (first | ((with_reducible refine gate_callee (f := 11) rfl ?_); refine goesL_ (some 25) rfl rfl Tryz.func11 (by kernel_rfl) rfl #[] rfl (by (try simp only [List.map_toArray, List.map_cons, List.map_nil]); first | done | rfl | (simp only [List.length_drop, List.length_take]; rfl)) ?_; (with_reducible refine (cayleylaw01_sane.calls  true _ A6.out (by first | exact hG | exact GL.step hG (by repeat (first | (with_reducible first | exact HB.out | apply below_alloc | apply pw_below_drewN | apply below_drew1) | exact HB.out)))).mono ?_); rintro e w15 ⟨rfl, hb⟩; refine ⟨_, rfl, ?_⟩; have n0_ := Aside0.mk (below_step (by repeat (first | (with_reducible first | exact HB.out | apply below_alloc | apply pw_below_drewN | apply below_drew1) | exact HB.out)) hb); clear HB; have HB := n0_; clear n0_; (try clear hb); (try clear hb2); (try clear hk); (try clear hi)) | ((with_reducible refine gate_dst (N := 30) rfl ?_); refine Kd.R_lit Kd.string _ 9 ?hg (N := 30) ?hd (xs := ([a2, a3, a4] : List ByteArray)) (inner := [.string a2, .string a3, .string a4]) (ok := fun _ => True) (okp := fun _ => True) ?hr ?hp (fun _ hk => hk) trivial (Below.refl _ _) (Nat.le_refl _) (by simp) ?_; (case hd => rfl); (case hg => rfl); (case hr => first | (go_simp; done) | (go_simp; rfl)); (case hp => exact (Reps.one (show Kd.M Kd.string _ _ _ a2 [.string a2] from rfl) (Reps.one (show Kd.M Kd.string _ _ _ a3 [.string a3] from rfl) (Reps.one (show Kd.M Kd.string _ _ _ a4 [.string a4] from rfl) (Reps.none _ _))))); intro v103 w16 ho17 hb hg_ hnew_; clear hg_ hnew_; (first | rw [← Ny102.out] at ho17 | (simp only [Int.reduceToNat] at ho17; rw [← Ny102.out] at ho17)); have n0_ := Aside0.mk (Kd.R_lower ho17 (below_size (by repeat (first | (with_reducible first | exact HB.out | apply below_alloc | apply pw_below_drewN | apply below_drew1) | exact HB.out)))); have n1_ := Aside0.mk (below_step (by repeat (first | (with_reducible first | exact HB.out | apply below_alloc | apply pw_below_drewN | apply below_drew1) | exact HB.out)) hb); clear HB; have HO104 := n0_; have HB := n1_; clear n0_ n1_; clear hb ho17; obtain ⟨Ao18, co18, eo18⟩ := Kd.R_slice HO104.out; subst eo18) | ((with_reducible refine gate_callee (f := 12) rfl ?_); refine goesL_ (some 31) rfl rfl Tryz.func12 (by kernel_rfl) rfl #[.slice Ao18 y102.length co18] rfl (by (try simp only [List.map_toArray, List.map_cons, List.map_nil]); first | done | rfl | (simp only [List.length_drop, List.length_take]; rfl)) ?_; (with_reducible refine (cayleylaw01_short.calls k _ _ y102 true _ ?side1 ?side2 A8.out).mono ?_); (case side1 => repeat (first | exact (Kd.R_reads' HO104.out).2.2 | (with_reducible refine Kd.C_alloc ?_ _) | (with_reducible refine Kd.C_drewN ?_ _) | (with_reducible refine Kd.C_drew ?_))); (case side2 => exact (Kd.R_reads' HO104.out).2.1); rintro e w' ⟨rfl, ⟨nd, rfl⟩⟩; refine ⟨_, rfl, ?_⟩) | ((with_reducible refine gate_callee (f := 27) rfl ?_); refine goesL_ (some 35) rfl rfl Tryz.func27 (by kernel_rfl) rfl #[.string a2] rfl (by (try simp only [List.map_toArray, List.map_cons, List.map_nil]); first | done | rfl | (simp only [List.length_drop, List.length_take]; rfl)) ?_; (with_reducible refine (cayleyref01_Cyclic.calls k a2 t106 t107 _ A10.out).mono ?_); rintro e w19 ⟨rfl, hb⟩; refine ⟨_, rfl, ?_⟩; have n0_ := Aside0.mk (Kd.R_below (by (with_reducible repeat (first | apply Kd.R_alloc | apply Kd.R_drewN | apply Kd.R_drew)); exact HO104.out) hb); have n1_ := Aside0.mk (below_step (by repeat (first | (with_reducible first | exact HB.out | apply below_alloc | apply pw_below_drewN | apply below_drew1) | exact HB.out)) hb); clear HO104; clear HB; have HO104 := n0_; have HB := n1_; clear n0_ n1_; (try clear hb); (try clear hb2); (try clear hk); (try clear hi)) | ((with_reducible refine gate_callee (f := 28) rfl ?_); refine goesL_ (some 40) rfl rfl Tryz.func28 (by kernel_rfl) rfl #[.string a2] rfl (by (try simp only [List.map_toArray, List.map_cons, List.map_nil]); first | done | rfl | (simp only [List.length_drop, List.length_take]; rfl)) ?_; (with_reducible refine (cayleyref01_Root.calls k a2 t108 t109 _ A11.out).mono ?_); rintro e w20 ⟨rfl, hb⟩; refine ⟨_, rfl, ?_⟩; have n0_ := Aside0.mk (Kd.R_below (by (with_reducible repeat (first | apply Kd.R_alloc | apply Kd.R_drewN | apply Kd.R_drew)); exact HO104.out) hb); have n1_ := Aside0.mk (below_step (by repeat (first | (with_reducible first | exact HB.out | apply below_alloc | apply pw_below_drewN | apply below_drew1) | exact HB.out)) hb); clear HO104; clear HB; have HO104 := n0_; have HB := n1_; clear n0_ n1_; (try clear hb); (try clear hb2); (try clear hk); (try clear hi)) | ((with_reducible refine gate_callee (f := 29) rfl ?_); refine goesL_ (some 45) rfl rfl Tryz.func29 (by kernel_rfl) rfl #[.string a2] rfl (by (try simp only [List.map_toArray, List.map_cons, List.map_nil]); first | done | rfl | (simp only [List.length_drop, List.length_take]; rfl)) ?_; (with_reducible refine (word_Cyclic.calls k a2 t110 t111 _ A12.out (by first | exact hG | exact GL.step hG (by repeat (first | (with_reducible first | exact HB.out | apply below_alloc | apply pw_below_drewN | apply below_drew1) | exact HB.out)))).mono ?_); rintro e w21 ⟨rfl, hb⟩; refine ⟨_, rfl, ?_⟩; have n0_ := Aside0.mk (Kd.R_below (by (with_reducible repeat (first | apply Kd.R_alloc | apply Kd.R_drewN | apply Kd.R_drew)); exact HO104.out) hb); have n1_ := Aside0.mk (below_step (by repeat (first | (with_reducible first | exact HB.out | apply below_alloc | apply pw_below_drewN | apply below_drew1) | exact HB.out)) hb); clear HO104; clear HB; have HO104 := n0_; have HB := n1_; clear n0_ n1_; (try clear hb); (try clear hb2); (try clear hk); (try clear hi)) | ((with_reducible refine gate_callee (f := 30) rfl ?_); refine goesL_ (some 50) rfl rfl Tryz.func30 (by kernel_rfl) rfl #[.string a2] rfl (by (try simp only [List.map_toArray, List.map_cons, List.map_nil]); first | done | rfl | (simp only [List.length_drop, List.length_take]; rfl)) ?_; (with_reducible refine (word_Root.calls k a2 t112 t113 _ A13.out (by first | exact hG | exact GL.step hG (by repeat (first | (with_reducible first | exact HB.out | apply below_alloc | apply pw_below_drewN | apply below_drew1) | exact HB.out)))).mono ?_); rintro e w22 ⟨rfl, hb⟩; refine ⟨_, rfl, ?_⟩; have n0_ := Aside0.mk (Kd.R_below (by (with_reducible repeat (first | apply Kd.R_alloc | apply Kd.R_drewN | apply Kd.R_drew)); exact HO104.out) hb); have n1_ := Aside0.mk (below_step (by repeat (first | (with_reducible first | exact HB.out | apply below_alloc | apply pw_below_drewN | apply below_drew1) | exact HB.out)) hb); clear HO104; clear HB; have HO104 := n0_; have HB := n1_; clear n0_ n1_; (try clear hb); (try clear hb2); (try clear hk); (try clear hi)))
      (try simp only [Act.put, List.setIfInBounds_toArray, List.set_cons_zero, List.set_cons_succ])
      go_cut [77] (fun v77 wc => ∃ (kq : Nat) (x77_13 : Bool), v77 = .bool x77_13 ∧ Aside0 (cayleylaw01_WordForms.j0 kq a0 a1 a2 a3 a4 x77_13 = some r) ∧ Aside0 (kq ≤ k) ∧ Aside0 (Below w.heap.size w wc))
      case first =>
        have H := HC14.out
        clear HC14
        by_cases c23 : t110.toList = t106.toList
        · rw [if_pos c23] at H
          have c23b0 : (t110.toList == t106.toList) = true := beq_iff_eq.mpr c23
          have c23b1 : (t110.toList != t106.toList) = false := bne_eq_false_iff_eq.mpr c23
          clear c23
          (first | rw [c23b0] | (simp only [i64_w, i32_w]; rw [c23b0]) | skip)
          by_cases c24 : t111.toList = t107.toList
          · rw [if_pos c24] at H
            have c24b0 : (t111.toList == t107.toList) = true := beq_iff_eq.mpr c24
            have c24b1 : (t111.toList != t107.toList) = false := bne_eq_false_iff_eq.mpr c24
            clear c24
            by_cases c25 : t112.toList = t108.toList
            · rw [if_pos c25] at H
              have c25b0 : (t112.toList == t108.toList) = true := beq_iff_eq.mpr c25
              have c25b1 : (t112.toList != t108.toList) = false := bne_eq_false_iff_eq.mpr c25
              clear c25
              by_cases c26 : t113 = t109
              · rw [if_pos c26] at H
                have c26b0 : (t113 == t109) = true := beq_iff_eq.mpr c26
                have c26b1 : (t113 != t109) = false := bne_eq_false_iff_eq.mpr c26
                clear c26
                replace H := Option.bind_eq_some_iff.mp H
                obtain ⟨t114, A270, H⟩ := H
                replace H : ((cayleyref01_Form.f k a2).bind fun t115 => (cayleylaw01_WordForms.j0 k a0 a1 a2 a3 a4 (t114.toList != t115.toList))) = some r := H
                have A27 := Aside0.mk A270
                clear A270
                replace H := Option.bind_eq_some_iff.mp H
                obtain ⟨t115, A280, H⟩ := H
                replace H : (cayleylaw01_WordForms.j0 k a0 a1 a2 a3 a4 (t114.toList != t115.toList)) = some r := H
                have A28 := Aside0.mk A280
                clear A280
                have H' := Aside0.mk H
                clear H
                go_wp2_with (first | (go_at_call 31; (with_reducible refine (word_Form.calls k a2 t114 _ A27.out (by first | exact hG | exact GL.step hG (by repeat (first | (with_reducible first | exact HB.out | apply below_alloc | apply pw_below_drewN | apply below_drew1) | exact HB.out)))).mono ?_); rintro e w29 ⟨rfl, hb⟩; have n0_ := Aside0.mk (Kd.R_below (by (with_reducible repeat (first | apply Kd.R_alloc | apply Kd.R_drewN | apply Kd.R_drew)); exact HO104.out) hb); have n1_ := Aside0.mk (below_step (by repeat (first | (with_reducible first | exact HB.out | apply below_alloc | apply pw_below_drewN | apply below_drew1) | exact HB.out)) hb); clear HO104; clear HB; have HO104 := n0_; have HB := n1_; clear n0_ n1_; (try clear hb); (try clear hb2); (try clear hk); (try clear hi)) | (go_at_call 32; (with_reducible refine (cayleyref01_Form.calls k a2 t115 _ A28.out).mono ?_); rintro e w30 ⟨rfl, hb⟩; have n0_ := Aside0.mk (Kd.R_below (by (with_reducible repeat (first | apply Kd.R_alloc | apply Kd.R_drewN | apply Kd.R_drew)); exact HO104.out) hb); have n1_ := Aside0.mk (below_step (by repeat (first | (with_reducible first | exact HB.out | apply below_alloc | apply pw_below_drewN | apply below_drew1) | exact HB.out)) hb); clear HO104; clear HB; have HO104 := n0_; have HB := n1_; clear n0_ n1_; (try clear hb); (try clear hb2); (try clear hk); (try clear hi)))
                go_meet
                case rel => exact ⟨_, ((t114.toList != t115.toList)), (by first | rfl | (simp; done) | (simp [*]; done) | (simp; exact (fun (a b : Bool) => (by cases a <;> cases b <;> rfl : (a == b) = !(a != b))) _ _)), H', ⟨by first | omega | exact Nat.le_refl _⟩, ⟨by repeat (first | (with_reducible first | exact HB.out | apply below_alloc | apply pw_below_drewN | apply below_drew1) | exact HB.out)⟩⟩
              · rw [if_neg c26] at H
                have c26b0 : (t113 == t109) = false := beq_eq_false_iff_ne.mpr c26
                have c26b1 : (t113 != t109) = true := bne_iff_ne.mpr c26
                have H' := Aside0.mk H
                clear H
                go_wp2
                go_meet
                case rel => exact ⟨_, (true), (by first | rfl | (simp; done) | (simp [*]; done) | (simp; exact (fun (a b : Bool) => (by cases a <;> cases b <;> rfl : (a == b) = !(a != b))) _ _)), H', ⟨by first | omega | exact Nat.le_refl _⟩, ⟨by repeat (first | (with_reducible first | exact HB.out | apply below_alloc | apply pw_below_drewN | apply below_drew1) | exact HB.out)⟩⟩
            · rw [if_neg c25] at H
              have c25b0 : (t112.toList == t108.toList) = false := beq_eq_false_iff_ne.mpr c25
              have c25b1 : (t112.toList != t108.toList) = true := bne_iff_ne.mpr c25
              have H' := Aside0.mk H
              clear H
              go_wp2
              go_meet
              case rel => exact ⟨_, (true), (by first | rfl | (simp; done) | (simp [*]; done) | (simp; exact (fun (a b : Bool) => (by cases a <;> cases b <;> rfl : (a == b) = !(a != b))) _ _)), H', ⟨by first | omega | exact Nat.le_refl _⟩, ⟨by repeat (first | (with_reducible first | exact HB.out | apply below_alloc | apply pw_below_drewN | apply below_drew1) | exact HB.out)⟩⟩
          · rw [if_neg c24] at H
            have c24b0 : (t111.toList == t107.toList) = false := beq_eq_false_iff_ne.mpr c24
            have c24b1 : (t111.toList != t107.toList) = true := bne_iff_ne.mpr c24
            have H' := Aside0.mk H
            clear H
            go_wp2
            go_meet
            case rel => exact ⟨_, (true), (by first | rfl | (simp; done) | (simp [*]; done) | (simp; exact (fun (a b : Bool) => (by cases a <;> cases b <;> rfl : (a == b) = !(a != b))) _ _)), H', ⟨by first | omega | exact Nat.le_refl _⟩, ⟨by repeat (first | (with_reducible first | exact HB.out | apply below_alloc | apply pw_below_drewN | apply below_drew1) | exact HB.out)⟩⟩
        · rw [if_neg c23] at H
          have c23b0 : (t110.toList == t106.toList) = false := beq_eq_false_iff_ne.mpr c23
          have c23b1 : (t110.toList != t106.toList) = true := bne_iff_ne.mpr c23
          (first | rw [c23b0] | (simp only [i64_w, i32_w]; rw [c23b0]) | skip)
          have H' := Aside0.mk H
          clear H
          go_wp2
          go_meet
          case rel => exact ⟨_, (true), (by first | rfl | (simp; done) | (simp [*]; done) | (simp; exact (fun (a b : Bool) => (by cases a <;> cases b <;> rfl : (a == b) = !(a != b))) _ _)), H', ⟨by first | omega | exact Nat.le_refl _⟩, ⟨by repeat (first | (with_reducible first | exact HB.out | apply below_alloc | apply pw_below_drewN | apply below_drew1) | exact HB.out)⟩⟩
      case rest =>
        clear HC14
        try clear c1
        try clear c2
        try clear p2
        try clear c3
        try clear c4
        try clear c7
        try clear c9
        try clear c11
        try clear c12
        try clear c23
        try clear c23b0
        try clear c23b1
        try clear c24
        try clear c24b0
        try clear c24b1
        try clear c25
        try clear c25b0
        try clear c25b1
        try clear c26
        try clear c26b0
        try clear c26b1
        try clear c27
        try clear c28
        try clear c29
        try clear c30
        obtain ⟨kq, x77_13, rfl, HA, HJ13, HB⟩ := hcut
        cases kq with
        | zero => exact absurd HA.out (by simp [cayleylaw01_WordForms.j0])
        | succ kj13 =>
          have H := HA.out
          clear HA
          simp only [cayleylaw01_WordForms.j0] at H
          by_cases c31 : x77_13 = true
          · subst c31
            have H1 : (some false) = some r := by rw [if_pos rfl] at H; exact H
            clear H
            have H := H1
            clear H1
            obtain rfl := Option.some.inj H
            go_wp2
            go_ret
            exact ⟨by first | rfl | (simp [errW_none, errW_some] <;> rfl) | (simp [*, errW_none, errW_some] <;> rfl), by repeat (first | (with_reducible first | exact HB.out | apply below_alloc | apply pw_below_drewN | apply below_drew1) | exact HB.out)⟩
          · replace c31 := Bool.eq_false_iff.mpr c31
            subst c31
            have H1 : ((cayleyref01_Power.f kj13 a2 a1).bind fun bt116 => ((word_Power.f kj13 a2 a1).bind fun bt118 => (if bt118.1.toList = bt116.1.toList then (cayleylaw01_WordForms.j1 kj13 a0 a2 a3 a4 (bt118.2 != bt116.2)) else (cayleylaw01_WordForms.j1 kj13 a0 a2 a3 a4 true)))) = some r := by rw [if_neg (show ¬ (false = true) by decide)] at H; exact H
            clear H
            have H := H1
            clear H1
            replace H := Option.bind_eq_some_iff.mp H
            obtain ⟨⟨t116, t117⟩, A320, H⟩ := H
            replace H : ((word_Power.f kj13 a2 a1).bind fun bt118 => (if bt118.1.toList = t116.toList then (cayleylaw01_WordForms.j1 kj13 a0 a2 a3 a4 (bt118.2 != t117)) else (cayleylaw01_WordForms.j1 kj13 a0 a2 a3 a4 true))) = some r := H
            have A32 := Aside0.mk A320
            clear A320
            replace H := Option.bind_eq_some_iff.mp H
            obtain ⟨⟨t118, t119⟩, A330, H⟩ := H
            replace H : (if t118.toList = t116.toList then (cayleylaw01_WordForms.j1 kj13 a0 a2 a3 a4 (t119 != t117)) else (cayleylaw01_WordForms.j1 kj13 a0 a2 a3 a4 true)) = some r := H
            have A33 := Aside0.mk A330
            clear A330
            have HC34 := Aside0.mk H
            clear H
            go_upto_region 13 with (first | ((with_reducible refine gate_callee (f := 33) rfl ?_); refine goesL_ (some 81) rfl rfl Tryz.func33 (by kernel_rfl) rfl #[.string a2, .int .i64 a1] rfl (by (try simp only [List.map_toArray, List.map_cons, List.map_nil]); first | done | rfl | (simp only [List.length_drop, List.length_take]; rfl)) ?_; (with_reducible refine (cayleyref01_Power.calls kj13 a2 a1 t116 t117 _ A32.out).mono ?_); rintro e w35 ⟨rfl, hb⟩; refine ⟨_, rfl, ?_⟩; have n0_ := Aside0.mk (below_step (by repeat (first | (with_reducible first | exact HB.out | apply below_alloc | apply pw_below_drewN | apply below_drew1) | exact HB.out)) hb); clear HB; have HB := n0_; clear n0_; (try clear hb); (try clear hb2); (try clear hk); (try clear hi)) | ((with_reducible refine gate_callee (f := 34) rfl ?_); refine goesL_ (some 87) rfl rfl Tryz.func34 (by kernel_rfl) rfl #[.string a2, .int .i64 a1] rfl (by (try simp only [List.map_toArray, List.map_cons, List.map_nil]); first | done | rfl | (simp only [List.length_drop, List.length_take]; rfl)) ?_; (with_reducible refine (word_Power.calls kj13 a2 a1 t118 t119 _ A33.out (by first | exact hG | exact GL.step hG (by repeat (first | (with_reducible first | exact HB.out | apply below_alloc | apply pw_below_drewN | apply below_drew1) | exact HB.out)))).mono ?_); rintro e w36 ⟨rfl, hb⟩; refine ⟨_, rfl, ?_⟩; have n0_ := Aside0.mk (below_step (by repeat (first | (with_reducible first | exact HB.out | apply below_alloc | apply pw_below_drewN | apply below_drew1) | exact HB.out)) hb); clear HB; have HB := n0_; clear n0_; (try clear hb); (try clear hb2); (try clear hk); (try clear hi)))
            (try simp only [Act.put, List.setIfInBounds_toArray, List.set_cons_zero, List.set_cons_succ])
            go_cut [97] (fun v97 wc => ∃ (kq : Nat) (x97_33 : Bool), v97 = .bool x97_33 ∧ Aside0 (cayleylaw01_WordForms.j1 kq a0 a2 a3 a4 x97_33 = some r) ∧ Aside0 (kq ≤ kj13) ∧ Aside0 (Below w.heap.size w wc))
            case first =>
              have H := HC34.out
              clear HC34
              by_cases c37 : t118.toList = t116.toList
              · rw [if_pos c37] at H
                have c37b0 : (t118.toList == t116.toList) = true := beq_iff_eq.mpr c37
                have c37b1 : (t118.toList != t116.toList) = false := bne_eq_false_iff_eq.mpr c37
                clear c37
                (first | rw [c37b0] | (simp only [i64_w, i32_w]; rw [c37b0]) | skip)
                have H' := Aside0.mk H
                clear H
                go_wp2
                go_meet
                case rel => exact ⟨_, ((t119 != t117)), (by first | rfl | (simp; done) | (simp [*]; done) | (simp; exact (fun (a b : Bool) => (by cases a <;> cases b <;> rfl : (a == b) = !(a != b))) _ _)), H', ⟨by have := HJ13.out; first | omega | exact Nat.le_refl _⟩, ⟨by repeat (first | (with_reducible first | exact HB.out | apply below_alloc | apply pw_below_drewN | apply below_drew1) | exact HB.out)⟩⟩
              · rw [if_neg c37] at H
                have c37b0 : (t118.toList == t116.toList) = false := beq_eq_false_iff_ne.mpr c37
                have c37b1 : (t118.toList != t116.toList) = true := bne_iff_ne.mpr c37
                (first | rw [c37b0] | (simp only [i64_w, i32_w]; rw [c37b0]) | skip)
                have H' := Aside0.mk H
                clear H
                go_wp2
                go_meet
                case rel => exact ⟨_, (true), (by first | rfl | (simp; done) | (simp [*]; done) | (simp; exact (fun (a b : Bool) => (by cases a <;> cases b <;> rfl : (a == b) = !(a != b))) _ _)), H', ⟨by have := HJ13.out; first | omega | exact Nat.le_refl _⟩, ⟨by repeat (first | (with_reducible first | exact HB.out | apply below_alloc | apply pw_below_drewN | apply below_drew1) | exact HB.out)⟩⟩
            case rest =>
              clear HC34
              try clear c1
              try clear c2
              try clear p2
              try clear c3
              try clear c4
              try clear c7
              try clear c9
              try clear c11
              try clear c12
              try clear c23
              try clear c23b0
              try clear c23b1
              try clear c24
              try clear c24b0
              try clear c24b1
              try clear c25
              try clear c25b0
              try clear c25b1
              try clear c26
              try clear c26b0
              try clear c26b1
              try clear c27
              try clear c28
              try clear c29
              try clear c30
              try clear c31
              try clear c33
              try clear c34
              try clear c37
              try clear c37b0
              try clear c37b1
              try clear p2
              obtain ⟨kq, x97_33, rfl, HA, HJ33, HB⟩ := hcut
              cases kq with
              | zero => exact absurd HA.out (by simp [cayleylaw01_WordForms.j1])
              | succ kj33 =>
                have H := HA.out
                clear HA
                simp only [cayleylaw01_WordForms.j1] at H
                by_cases c38 : x97_33 = true
                · subst c38
                  have H1 : (some false) = some r := by rw [if_pos rfl] at H; exact H
                  clear H
                  have H := H1
                  clear H1
                  obtain rfl := Option.some.inj H
                  go_wp2
                  go_ret
                  exact ⟨by first | rfl | (simp [errW_none, errW_some] <;> rfl) | (simp [*, errW_none, errW_some] <;> rfl), by repeat (first | (with_reducible first | exact HB.out | apply below_alloc | apply pw_below_drewN | apply below_drew1) | exact HB.out)⟩
                · replace c38 := Bool.eq_false_iff.mpr c38
                  subst c38
                  have H1 : ((word_Conjugate.f a2 a3).bind fun bt120 => ((cayleyref01_Conjugates.f kj33 a2 a3).bind fun t122 => (if (bt120.2 != t122) = true then (cayleylaw01_WordForms.j2 kj33 a0 a4 true) else (if bt120.2 = true then ((cayleyref01_Reduce.f kj33 bt120.1).bind fun t123 => (if t123.toList = bt120.1.toList then ((cayleyref01_Is.f kj33 bt120.1).bind fun t124 => (if t124 = true then (if bt120.1.size + a3.size ≤ 9223372036854775807 then ((cayleyref01_Inverse.f kj33 bt120.1).bind fun t125 => (if (bt120.1 ++ a3).size + t125.size ≤ 9223372036854775807 then ((cayleyref01_Reduce.f kj33 ((bt120.1 ++ a3) ++ t125)).bind fun t126 => ((cayleyref01_Reduce.f kj33 a2).bind fun t127 => (cayleylaw01_WordForms.j2 kj33 a0 a4 (t126.toList != t127.toList)))) else (none))) else (none)) else (cayleylaw01_WordForms.j2 kj33 a0 a4 true))) else (cayleylaw01_WordForms.j2 kj33 a0 a4 true))) else (if bt120.1.toList = ([] : List UInt8) then (cayleylaw01_WordForms.j2 kj33 a0 a4 false) else (cayleylaw01_WordForms.j2 kj33 a0 a4 true)))))) = some r := by rw [if_neg (show ¬ (false = true) by decide)] at H; exact H
                  clear H
                  have H := H1
                  clear H1
                  replace H := Option.bind_eq_some_iff.mp H
                  obtain ⟨⟨t120, t121⟩, A390, H⟩ := H
                  replace H : ((cayleyref01_Conjugates.f kj33 a2 a3).bind fun t122 => (if (t121 != t122) = true then (cayleylaw01_WordForms.j2 kj33 a0 a4 true) else (if t121 = true then ((cayleyref01_Reduce.f kj33 t120).bind fun t123 => (if t123.toList = t120.toList then ((cayleyref01_Is.f kj33 t120).bind fun t124 => (if t124 = true then (if t120.size + a3.size ≤ 9223372036854775807 then ((cayleyref01_Inverse.f kj33 t120).bind fun t125 => (if (t120 ++ a3).size + t125.size ≤ 9223372036854775807 then ((cayleyref01_Reduce.f kj33 ((t120 ++ a3) ++ t125)).bind fun t126 => ((cayleyref01_Reduce.f kj33 a2).bind fun t127 => (cayleylaw01_WordForms.j2 kj33 a0 a4 (t126.toList != t127.toList)))) else (none))) else (none)) else (cayleylaw01_WordForms.j2 kj33 a0 a4 true))) else (cayleylaw01_WordForms.j2 kj33 a0 a4 true))) else (if t120.toList = ([] : List UInt8) then (cayleylaw01_WordForms.j2 kj33 a0 a4 false) else (cayleylaw01_WordForms.j2 kj33 a0 a4 true))))) = some r := H
                  have A39 := Aside0.mk A390
                  clear A390
                  have HC40 := Aside0.mk H
                  clear H
                  go_upto_region 16 with (first | ((with_reducible refine gate_callee (f := 35) rfl ?_); refine goesL_ (some 101) rfl rfl Tryz.func35 (by kernel_rfl) rfl #[.string a2, .string a3] rfl (by (try simp only [List.map_toArray, List.map_cons, List.map_nil]); first | done | rfl | (simp only [List.length_drop, List.length_take]; rfl)) ?_; (with_reducible refine (word_Conjugate.calls a2 a3 t120 t121 _ A39.out (by first | exact hG | exact GL.step hG (by repeat (first | (with_reducible first | exact HB.out | apply below_alloc | apply pw_below_drewN | apply below_drew1) | exact HB.out)))).mono ?_); rintro e w41 ⟨rfl, hb⟩; refine ⟨_, rfl, ?_⟩; have n0_ := Aside0.mk (below_step (by repeat (first | (with_reducible first | exact HB.out | apply below_alloc | apply pw_below_drewN | apply below_drew1) | exact HB.out)) hb); clear HB; have HB := n0_; clear n0_; (try clear hb); (try clear hb2); (try clear hk); (try clear hi)))
                  (try simp only [Act.put, List.setIfInBounds_toArray, List.set_cons_zero, List.set_cons_succ])
                  go_cut [142] (fun v142 wc => ∃ (kq : Nat) (x142_39 : Bool), v142 = .bool x142_39 ∧ Aside0 (cayleylaw01_WordForms.j2 kq a0 a4 x142_39 = some r) ∧ Aside0 (kq ≤ kj33) ∧ Aside0 (Below w.heap.size w wc))
                  case first =>
                    have H := HC40.out
                    clear HC40
                    replace H := Option.bind_eq_some_iff.mp H
                    obtain ⟨t122, A420, H⟩ := H
                    replace H : (if (t121 != t122) = true then (cayleylaw01_WordForms.j2 kj33 a0 a4 true) else (if t121 = true then ((cayleyref01_Reduce.f kj33 t120).bind fun t123 => (if t123.toList = t120.toList then ((cayleyref01_Is.f kj33 t120).bind fun t124 => (if t124 = true then (if t120.size + a3.size ≤ 9223372036854775807 then ((cayleyref01_Inverse.f kj33 t120).bind fun t125 => (if (t120 ++ a3).size + t125.size ≤ 9223372036854775807 then ((cayleyref01_Reduce.f kj33 ((t120 ++ a3) ++ t125)).bind fun t126 => ((cayleyref01_Reduce.f kj33 a2).bind fun t127 => (cayleylaw01_WordForms.j2 kj33 a0 a4 (t126.toList != t127.toList)))) else (none))) else (none)) else (cayleylaw01_WordForms.j2 kj33 a0 a4 true))) else (cayleylaw01_WordForms.j2 kj33 a0 a4 true))) else (if t120.toList = ([] : List UInt8) then (cayleylaw01_WordForms.j2 kj33 a0 a4 false) else (cayleylaw01_WordForms.j2 kj33 a0 a4 true)))) = some r := H
                    have A42 := Aside0.mk A420
                    clear A420
                    by_cases c43 : (t121 != t122) = true
                    · rw [if_pos c43] at H
                      have c43b0 : (t121 != t122) = true := c43
                      (try (have c43b1 : decide (t121 = t122) = false := by simpa using c43))
                      (try (have c43b2 : (t121 == t122) = false := by simpa using c43))
                      (try (have c43b3 : ¬ (t121 = t122) := by simpa using c43))
                      clear c43
                      (first | rw [c43b0] | (simp only [i64_w, i32_w]; rw [c43b0]) | skip)
                      have H' := Aside0.mk H
                      clear H
                      go_wp2_with (first | ((with_reducible refine gate_callee (f := 36) rfl ?_); refine goesL_ (some 107) rfl rfl Tryz.func36 (by kernel_rfl) rfl #[.string a2, .string a3] rfl (by (try simp only [List.map_toArray, List.map_cons, List.map_nil]); first | done | rfl | (simp only [List.length_drop, List.length_take]; rfl)) ?_; (with_reducible refine (cayleyref01_Conjugates.calls kj33 a2 a3 t122 _ A42.out).mono ?_); rintro e w44 ⟨rfl, hb⟩; refine ⟨_, rfl, ?_⟩; have n0_ := Aside0.mk (below_step (by repeat (first | (with_reducible first | exact HB.out | apply below_alloc | apply pw_below_drewN | apply below_drew1) | exact HB.out)) hb); clear HB; have HB := n0_; clear n0_; (try clear hb); (try clear hb2); (try clear hk); (try clear hi)))
                      go_meet
                      case rel => exact ⟨_, (true), (by first | rfl | (simp; done) | (simp [*]; done) | (simp; exact (fun (a b : Bool) => (by cases a <;> cases b <;> rfl : (a == b) = !(a != b))) _ _)), H', ⟨by have := HJ13.out; have := HJ33.out; first | omega | exact Nat.le_refl _⟩, ⟨by repeat (first | (with_reducible first | exact HB.out | apply below_alloc | apply pw_below_drewN | apply below_drew1) | exact HB.out)⟩⟩
                    · rw [if_neg c43] at H
                      have c43b0 : (t121 != t122) = false := by simpa using c43
                      (try (have c43b1 : decide (t121 = t122) = true := by simpa using c43))
                      (try (have c43b2 : (t121 == t122) = true := by simpa using c43))
                      clear c43
                      (first | rw [c43b0] | (simp only [i64_w, i32_w]; rw [c43b0]) | skip)
                      by_cases c45 : t121 = true
                      · subst c45
                        have H1 : ((cayleyref01_Reduce.f kj33 t120).bind fun t123 => (if t123.toList = t120.toList then ((cayleyref01_Is.f kj33 t120).bind fun t124 => (if t124 = true then (if t120.size + a3.size ≤ 9223372036854775807 then ((cayleyref01_Inverse.f kj33 t120).bind fun t125 => (if (t120 ++ a3).size + t125.size ≤ 9223372036854775807 then ((cayleyref01_Reduce.f kj33 ((t120 ++ a3) ++ t125)).bind fun t126 => ((cayleyref01_Reduce.f kj33 a2).bind fun t127 => (cayleylaw01_WordForms.j2 kj33 a0 a4 (t126.toList != t127.toList)))) else (none))) else (none)) else (cayleylaw01_WordForms.j2 kj33 a0 a4 true))) else (cayleylaw01_WordForms.j2 kj33 a0 a4 true))) = some r := by rw [if_pos rfl] at H; exact H
                        clear H
                        have H := H1
                        clear H1
                        replace H := Option.bind_eq_some_iff.mp H
                        obtain ⟨t123, A460, H⟩ := H
                        replace H : (if t123.toList = t120.toList then ((cayleyref01_Is.f kj33 t120).bind fun t124 => (if t124 = true then (if t120.size + a3.size ≤ 9223372036854775807 then ((cayleyref01_Inverse.f kj33 t120).bind fun t125 => (if (t120 ++ a3).size + t125.size ≤ 9223372036854775807 then ((cayleyref01_Reduce.f kj33 ((t120 ++ a3) ++ t125)).bind fun t126 => ((cayleyref01_Reduce.f kj33 a2).bind fun t127 => (cayleylaw01_WordForms.j2 kj33 a0 a4 (t126.toList != t127.toList)))) else (none))) else (none)) else (cayleylaw01_WordForms.j2 kj33 a0 a4 true))) else (cayleylaw01_WordForms.j2 kj33 a0 a4 true)) = some r := H
                        have A46 := Aside0.mk A460
                        clear A460
                        by_cases c47 : t123.toList = t120.toList
                        · rw [if_pos c47] at H
                          have c47b0 : (t123.toList == t120.toList) = true := beq_iff_eq.mpr c47
                          have c47b1 : (t123.toList != t120.toList) = false := bne_eq_false_iff_eq.mpr c47
                          clear c47
                          replace H := Option.bind_eq_some_iff.mp H
                          obtain ⟨t124, A480, H⟩ := H
                          replace H : (if t124 = true then (if t120.size + a3.size ≤ 9223372036854775807 then ((cayleyref01_Inverse.f kj33 t120).bind fun t125 => (if (t120 ++ a3).size + t125.size ≤ 9223372036854775807 then ((cayleyref01_Reduce.f kj33 ((t120 ++ a3) ++ t125)).bind fun t126 => ((cayleyref01_Reduce.f kj33 a2).bind fun t127 => (cayleylaw01_WordForms.j2 kj33 a0 a4 (t126.toList != t127.toList)))) else (none))) else (none)) else (cayleylaw01_WordForms.j2 kj33 a0 a4 true)) = some r := H
                          have A48 := Aside0.mk A480
                          clear A480
                          by_cases c49 : t124 = true
                          · subst c49
                            have H1 : (if t120.size + a3.size ≤ 9223372036854775807 then ((cayleyref01_Inverse.f kj33 t120).bind fun t125 => (if (t120 ++ a3).size + t125.size ≤ 9223372036854775807 then ((cayleyref01_Reduce.f kj33 ((t120 ++ a3) ++ t125)).bind fun t126 => ((cayleyref01_Reduce.f kj33 a2).bind fun t127 => (cayleylaw01_WordForms.j2 kj33 a0 a4 (t126.toList != t127.toList)))) else (none))) else (none)) = some r := by rw [if_pos rfl] at H; exact H
                            clear H
                            have H := H1
                            clear H1
                            by_cases c50 : t120.size + a3.size ≤ 9223372036854775807
                            · rw [if_pos c50] at H
                              have c50b0 := eq_true c50
                              have c50b1 : decide (t120.size + a3.size ≤ 9223372036854775807) = true := decide_eq_true c50
                              try have c50b2 : (9223372036854775807 < t120.size + a3.size) = False := eq_false (Nat.not_lt.2 c50)
                              replace H := Option.bind_eq_some_iff.mp H
                              obtain ⟨t125, A510, H⟩ := H
                              replace H : (if (t120 ++ a3).size + t125.size ≤ 9223372036854775807 then ((cayleyref01_Reduce.f kj33 ((t120 ++ a3) ++ t125)).bind fun t126 => ((cayleyref01_Reduce.f kj33 a2).bind fun t127 => (cayleylaw01_WordForms.j2 kj33 a0 a4 (t126.toList != t127.toList)))) else (none)) = some r := H
                              have A51 := Aside0.mk A510
                              clear A510
                              by_cases c52 : (t120 ++ a3).size + t125.size ≤ 9223372036854775807
                              · rw [if_pos c52] at H
                                have c52b0 := eq_true c52
                                have c52b1 : decide ((t120 ++ a3).size + t125.size ≤ 9223372036854775807) = true := decide_eq_true c52
                                try have c52b2 : (9223372036854775807 < (t120 ++ a3).size + t125.size) = False := eq_false (Nat.not_lt.2 c52)
                                try (have c52s := c52; simp [*] at c52s; have c52t := eq_false (Nat.not_lt.2 c52s); clear c52s)
                                try (have c52u := c52; simp at c52u; have c52v := eq_false (Nat.not_lt.2 c52u); clear c52u)
                                try (have c52u := c52; simp only [ByteArray.size_append] at c52u; have c52vw := eq_false (Nat.not_lt.2 c52u); clear c52u)
                                replace H := Option.bind_eq_some_iff.mp H
                                obtain ⟨t126, A530, H⟩ := H
                                replace H : ((cayleyref01_Reduce.f kj33 a2).bind fun t127 => (cayleylaw01_WordForms.j2 kj33 a0 a4 (t126.toList != t127.toList))) = some r := H
                                have A53 := Aside0.mk A530
                                clear A530
                                replace H := Option.bind_eq_some_iff.mp H
                                obtain ⟨t127, A540, H⟩ := H
                                replace H : (cayleylaw01_WordForms.j2 kj33 a0 a4 (t126.toList != t127.toList)) = some r := H
                                have A54 := Aside0.mk A540
                                clear A540
                                have H' := Aside0.mk H
                                clear H
                                go_wp2_with (first | ((with_reducible refine gate_callee (f := 36) rfl ?_); refine goesL_ (some 107) rfl rfl Tryz.func36 (by kernel_rfl) rfl #[.string a2, .string a3] rfl (by (try simp only [List.map_toArray, List.map_cons, List.map_nil]); first | done | rfl | (simp only [List.length_drop, List.length_take]; rfl)) ?_; (with_reducible refine (cayleyref01_Conjugates.calls kj33 a2 a3 t122 _ A42.out).mono ?_); rintro e w55 ⟨rfl, hb⟩; refine ⟨_, rfl, ?_⟩; have n0_ := Aside0.mk (below_step (by repeat (first | (with_reducible first | exact HB.out | apply below_alloc | apply pw_below_drewN | apply below_drew1) | exact HB.out)) hb); clear HB; have HB := n0_; clear n0_; (try clear hb); (try clear hb2); (try clear hk); (try clear hi)) | (go_at_call 22; (with_reducible refine (cayleyref01_Reduce.calls kj33 t120 t123 _ A46.out).mono ?_); rintro e w56 ⟨rfl, hb⟩; have n0_ := Aside0.mk (below_step (by repeat (first | (with_reducible first | exact HB.out | apply below_alloc | apply pw_below_drewN | apply below_drew1) | exact HB.out)) hb); clear HB; have HB := n0_; clear n0_; (try clear hb); (try clear hb2); (try clear hk); (try clear hi)) | (go_at_call 37; (with_reducible refine (cayleyref01_Is.calls kj33 t120 true _ A48.out).mono ?_); rintro e w' ⟨rfl, ⟨nd, rfl⟩⟩) | (go_at_call 20; (with_reducible refine (cayleyref01_Inverse.calls kj33 t120 t125 _ A51.out).mono ?_); rintro e w57 ⟨rfl, hb⟩; have n0_ := Aside0.mk (below_step (by repeat (first | (with_reducible first | exact HB.out | apply below_alloc | apply pw_below_drewN | apply below_drew1) | exact HB.out)) hb); clear HB; have HB := n0_; clear n0_; (try clear hb); (try clear hb2); (try clear hk); (try clear hi)) | (go_at_call 22; (with_reducible refine (cayleyref01_Reduce.calls kj33 ((t120 ++ a3) ++ t125) t126 _ A53.out).mono ?_); rintro e w58 ⟨rfl, hb⟩; have n0_ := Aside0.mk (below_step (by repeat (first | (with_reducible first | exact HB.out | apply below_alloc | apply pw_below_drewN | apply below_drew1) | exact HB.out)) hb); clear HB; have HB := n0_; clear n0_; (try clear hb); (try clear hb2); (try clear hk); (try clear hi)) | (go_at_call 22; (with_reducible refine (cayleyref01_Reduce.calls kj33 a2 t127 _ A54.out).mono ?_); rintro e w59 ⟨rfl, hb⟩; have n0_ := Aside0.mk (below_step (by repeat (first | (with_reducible first | exact HB.out | apply below_alloc | apply pw_below_drewN | apply below_drew1) | exact HB.out)) hb); clear HB; have HB := n0_; clear n0_; (try clear hb); (try clear hb2); (try clear hk); (try clear hi)))
                                go_meet
                                case rel => exact ⟨_, ((t126.toList != t127.toList)), (by first | rfl | (simp; done) | (simp [*]; done) | (simp; exact (fun (a b : Bool) => (by cases a <;> cases b <;> rfl : (a == b) = !(a != b))) _ _)), H', ⟨by have := HJ13.out; have := HJ33.out; first | omega | exact Nat.le_refl _⟩, ⟨by repeat (first | (with_reducible first | exact HB.out | apply below_alloc | apply pw_below_drewN | apply below_drew1) | exact HB.out)⟩⟩
                              · rw [if_neg c52] at H
                                exact absurd H (by simp)
                            · rw [if_neg c50] at H
                              exact absurd H (by simp)
                          · replace c49 := Bool.eq_false_iff.mpr c49
                            subst c49
                            have H1 : (cayleylaw01_WordForms.j2 kj33 a0 a4 true) = some r := by rw [if_neg (show ¬ (false = true) by decide)] at H; exact H
                            clear H
                            have H := H1
                            clear H1
                            have H' := Aside0.mk H
                            clear H
                            go_wp2_with (first | ((with_reducible refine gate_callee (f := 36) rfl ?_); refine goesL_ (some 107) rfl rfl Tryz.func36 (by kernel_rfl) rfl #[.string a2, .string a3] rfl (by (try simp only [List.map_toArray, List.map_cons, List.map_nil]); first | done | rfl | (simp only [List.length_drop, List.length_take]; rfl)) ?_; (with_reducible refine (cayleyref01_Conjugates.calls kj33 a2 a3 t122 _ A42.out).mono ?_); rintro e w60 ⟨rfl, hb⟩; refine ⟨_, rfl, ?_⟩; have n0_ := Aside0.mk (below_step (by repeat (first | (with_reducible first | exact HB.out | apply below_alloc | apply pw_below_drewN | apply below_drew1) | exact HB.out)) hb); clear HB; have HB := n0_; clear n0_; (try clear hb); (try clear hb2); (try clear hk); (try clear hi)) | (go_at_call 22; (with_reducible refine (cayleyref01_Reduce.calls kj33 t120 t123 _ A46.out).mono ?_); rintro e w61 ⟨rfl, hb⟩; have n0_ := Aside0.mk (below_step (by repeat (first | (with_reducible first | exact HB.out | apply below_alloc | apply pw_below_drewN | apply below_drew1) | exact HB.out)) hb); clear HB; have HB := n0_; clear n0_; (try clear hb); (try clear hb2); (try clear hk); (try clear hi)) | (go_at_call 37; (with_reducible refine (cayleyref01_Is.calls kj33 t120 false _ A48.out).mono ?_); rintro e w' ⟨rfl, ⟨nd, rfl⟩⟩))
                            go_meet
                            case rel => exact ⟨_, (true), (by first | rfl | (simp; done) | (simp [*]; done) | (simp; exact (fun (a b : Bool) => (by cases a <;> cases b <;> rfl : (a == b) = !(a != b))) _ _)), H', ⟨by have := HJ13.out; have := HJ33.out; first | omega | exact Nat.le_refl _⟩, ⟨by repeat (first | (with_reducible first | exact HB.out | apply below_alloc | apply pw_below_drewN | apply below_drew1) | exact HB.out)⟩⟩
                        · rw [if_neg c47] at H
                          have c47b0 : (t123.toList == t120.toList) = false := beq_eq_false_iff_ne.mpr c47
                          have c47b1 : (t123.toList != t120.toList) = true := bne_iff_ne.mpr c47
                          have H' := Aside0.mk H
                          clear H
                          go_wp2_with (first | ((with_reducible refine gate_callee (f := 36) rfl ?_); refine goesL_ (some 107) rfl rfl Tryz.func36 (by kernel_rfl) rfl #[.string a2, .string a3] rfl (by (try simp only [List.map_toArray, List.map_cons, List.map_nil]); first | done | rfl | (simp only [List.length_drop, List.length_take]; rfl)) ?_; (with_reducible refine (cayleyref01_Conjugates.calls kj33 a2 a3 t122 _ A42.out).mono ?_); rintro e w62 ⟨rfl, hb⟩; refine ⟨_, rfl, ?_⟩; have n0_ := Aside0.mk (below_step (by repeat (first | (with_reducible first | exact HB.out | apply below_alloc | apply pw_below_drewN | apply below_drew1) | exact HB.out)) hb); clear HB; have HB := n0_; clear n0_; (try clear hb); (try clear hb2); (try clear hk); (try clear hi)) | (go_at_call 22; (with_reducible refine (cayleyref01_Reduce.calls kj33 t120 t123 _ A46.out).mono ?_); rintro e w63 ⟨rfl, hb⟩; have n0_ := Aside0.mk (below_step (by repeat (first | (with_reducible first | exact HB.out | apply below_alloc | apply pw_below_drewN | apply below_drew1) | exact HB.out)) hb); clear HB; have HB := n0_; clear n0_; (try clear hb); (try clear hb2); (try clear hk); (try clear hi)))
                          go_meet
                          case rel => exact ⟨_, (true), (by first | rfl | (simp; done) | (simp [*]; done) | (simp; exact (fun (a b : Bool) => (by cases a <;> cases b <;> rfl : (a == b) = !(a != b))) _ _)), H', ⟨by have := HJ13.out; have := HJ33.out; first | omega | exact Nat.le_refl _⟩, ⟨by repeat (first | (with_reducible first | exact HB.out | apply below_alloc | apply pw_below_drewN | apply below_drew1) | exact HB.out)⟩⟩
                      · replace c45 := Bool.eq_false_iff.mpr c45
                        subst c45
                        have H1 : (if t120.toList = ([] : List UInt8) then (cayleylaw01_WordForms.j2 kj33 a0 a4 false) else (cayleylaw01_WordForms.j2 kj33 a0 a4 true)) = some r := by rw [if_neg (show ¬ (false = true) by decide)] at H; exact H
                        clear H
                        have H := H1
                        clear H1
                        by_cases c64 : t120.toList = ([] : List UInt8)
                        · rw [if_pos c64] at H
                          have c64b0 : (t120.toList == ([] : List UInt8)) = true := beq_iff_eq.mpr c64
                          have c64b1 : (t120.toList != ([] : List UInt8)) = false := bne_eq_false_iff_eq.mpr c64
                          clear c64
                          have H' := Aside0.mk H
                          clear H
                          go_wp2_with (first | ((with_reducible refine gate_callee (f := 36) rfl ?_); refine goesL_ (some 107) rfl rfl Tryz.func36 (by kernel_rfl) rfl #[.string a2, .string a3] rfl (by (try simp only [List.map_toArray, List.map_cons, List.map_nil]); first | done | rfl | (simp only [List.length_drop, List.length_take]; rfl)) ?_; (with_reducible refine (cayleyref01_Conjugates.calls kj33 a2 a3 t122 _ A42.out).mono ?_); rintro e w65 ⟨rfl, hb⟩; refine ⟨_, rfl, ?_⟩; have n0_ := Aside0.mk (below_step (by repeat (first | (with_reducible first | exact HB.out | apply below_alloc | apply pw_below_drewN | apply below_drew1) | exact HB.out)) hb); clear HB; have HB := n0_; clear n0_; (try clear hb); (try clear hb2); (try clear hk); (try clear hi)))
                          go_meet
                          case rel => exact ⟨_, (false), (by first | rfl | (simp; done) | (simp [*]; done) | (simp; exact (fun (a b : Bool) => (by cases a <;> cases b <;> rfl : (a == b) = !(a != b))) _ _)), H', ⟨by have := HJ13.out; have := HJ33.out; first | omega | exact Nat.le_refl _⟩, ⟨by repeat (first | (with_reducible first | exact HB.out | apply below_alloc | apply pw_below_drewN | apply below_drew1) | exact HB.out)⟩⟩
                        · rw [if_neg c64] at H
                          have c64b0 : (t120.toList == ([] : List UInt8)) = false := beq_eq_false_iff_ne.mpr c64
                          have c64b1 : (t120.toList != ([] : List UInt8)) = true := bne_iff_ne.mpr c64
                          have H' := Aside0.mk H
                          clear H
                          go_wp2_with (first | ((with_reducible refine gate_callee (f := 36) rfl ?_); refine goesL_ (some 107) rfl rfl Tryz.func36 (by kernel_rfl) rfl #[.string a2, .string a3] rfl (by (try simp only [List.map_toArray, List.map_cons, List.map_nil]); first | done | rfl | (simp only [List.length_drop, List.length_take]; rfl)) ?_; (with_reducible refine (cayleyref01_Conjugates.calls kj33 a2 a3 t122 _ A42.out).mono ?_); rintro e w66 ⟨rfl, hb⟩; refine ⟨_, rfl, ?_⟩; have n0_ := Aside0.mk (below_step (by repeat (first | (with_reducible first | exact HB.out | apply below_alloc | apply pw_below_drewN | apply below_drew1) | exact HB.out)) hb); clear HB; have HB := n0_; clear n0_; (try clear hb); (try clear hb2); (try clear hk); (try clear hi)))
                          go_meet
                          case rel => exact ⟨_, (true), (by first | rfl | (simp; done) | (simp [*]; done) | (simp; exact (fun (a b : Bool) => (by cases a <;> cases b <;> rfl : (a == b) = !(a != b))) _ _)), H', ⟨by have := HJ13.out; have := HJ33.out; first | omega | exact Nat.le_refl _⟩, ⟨by repeat (first | (with_reducible first | exact HB.out | apply below_alloc | apply pw_below_drewN | apply below_drew1) | exact HB.out)⟩⟩
                  case rest =>
                    clear HC40
                    try clear c1
                    try clear c2
                    try clear p2
                    try clear c3
                    try clear c4
                    try clear c5
                    try clear c6
                    try clear c7
                    try clear c9
                    try clear c11
                    try clear c12
                    try clear c23
                    try clear c23b0
                    try clear c23b1
                    try clear c24
                    try clear c24b0
                    try clear c24b1
                    try clear c25
                    try clear c25b0
                    try clear c25b1
                    try clear c26
                    try clear c26b0
                    try clear c26b1
                    try clear c27
                    try clear c28
                    try clear c29
                    try clear c30
                    try clear c31
                    try clear c33
                    try clear c34
                    try clear c35
                    try clear c36
                    try clear c37
                    try clear c37b0
                    try clear c37b1
                    try clear c38
                    try clear c43
                    try clear c43b0
                    try clear c43b1
                    try clear c43b2
                    try clear c45
                    try clear c47
                    try clear c47b0
                    try clear c47b1
                    try clear c49
                    try clear c50
                    try clear c50b0
                    try clear c50b1
                    try clear c50b2
                    try clear c52
                    try clear c52b0
                    try clear c52b1
                    try clear c52b2
                    try clear c64
                    try clear c64b0
                    try clear c64b1
                    try clear p2
                    obtain ⟨kq, x142_39, rfl, HA, HJ39, HB⟩ := hcut
                    cases kq with
                    | zero => exact absurd HA.out (by simp [cayleylaw01_WordForms.j2])
                    | succ kj39 =>
                      have H := HA.out
                      clear HA
                      simp only [cayleylaw01_WordForms.j2] at H
                      by_cases c67 : x142_39 = true
                      · subst c67
                        have H1 : (some false) = some r := by rw [if_pos rfl] at H; exact H
                        clear H
                        have H := H1
                        clear H1
                        obtain rfl := Option.some.inj H
                        go_wp2
                        go_ret
                        exact ⟨by first | rfl | (simp [errW_none, errW_some] <;> rfl) | (simp [*, errW_none, errW_some] <;> rfl), by repeat (first | (with_reducible first | exact HB.out | apply below_alloc | apply pw_below_drewN | apply below_drew1) | exact HB.out)⟩
                      · replace c67 := Bool.eq_false_iff.mpr c67
                        subst c67
                        have H1 : ((cayleyref01_Parse.f kj39 a0 a4).bind fun bt128 => ((word_Parse.f a0 a4).bind fun bt130 => (if bt130.1.toList = bt128.1.toList then (some (bt130.2 == bt128.2)) else (some false)))) = some r := by rw [if_neg (show ¬ (false = true) by decide)] at H; exact H
                        clear H
                        have H := H1
                        clear H1
                        replace H := Option.bind_eq_some_iff.mp H
                        obtain ⟨⟨t128, t129⟩, A680, H⟩ := H
                        replace H : ((word_Parse.f a0 a4).bind fun bt130 => (if bt130.1.toList = t128.toList then (some (bt130.2 == t129)) else (some false))) = some r := H
                        have A68 := Aside0.mk A680
                        clear A680
                        replace H := Option.bind_eq_some_iff.mp H
                        obtain ⟨⟨t130, t131⟩, A690, H⟩ := H
                        replace H : (if t130.toList = t128.toList then (some (t131 == t129)) else (some false)) = some r := H
                        have A69 := Aside0.mk A690
                        clear A690
                        by_cases c70 : t130.toList = t128.toList
                        · rw [if_pos c70] at H
                          have c70b0 : (t130.toList == t128.toList) = true := beq_iff_eq.mpr c70
                          have c70b1 : (t130.toList != t128.toList) = false := bne_eq_false_iff_eq.mpr c70
                          clear c70
                          obtain rfl := Option.some.inj H
                          go_wp2_with (first | ((with_reducible refine gate_callee (f := 38) rfl ?_); refine goesL_ (some 146) rfl rfl Tryz.func38 (by kernel_rfl) rfl #[.int .i64 a0, .string a4] rfl (by (try simp only [List.map_toArray, List.map_cons, List.map_nil]); first | done | rfl | (simp only [List.length_drop, List.length_take]; rfl)) ?_; (with_reducible refine (cayleyref01_Parse.calls kj39 a0 a4 t128 t129 _ A68.out).mono ?_); rintro e w71 ⟨rfl, hb⟩; refine ⟨_, rfl, ?_⟩; have n0_ := Aside0.mk (below_step (by repeat (first | (with_reducible first | exact HB.out | apply below_alloc | apply pw_below_drewN | apply below_drew1) | exact HB.out)) hb); clear HB; have HB := n0_; clear n0_; (try clear hb); (try clear hb2); (try clear hk); (try clear hi)) | ((with_reducible refine gate_callee (f := 39) rfl ?_); refine goesL_ (some 152) rfl rfl Tryz.func39 (by kernel_rfl) rfl #[.int .i64 a0, .string a4] rfl (by (try simp only [List.map_toArray, List.map_cons, List.map_nil]); first | done | rfl | (simp only [List.length_drop, List.length_take]; rfl)) ?_; (with_reducible refine (word_Parse.calls a0 a4 t130 t131 _ A69.out (by first | exact hG | exact GL.step hG (by repeat (first | (with_reducible first | exact HB.out | apply below_alloc | apply pw_below_drewN | apply below_drew1) | exact HB.out)))).mono ?_); rintro e w72 ⟨rfl, hb⟩; refine ⟨_, rfl, ?_⟩; have n0_ := Aside0.mk (below_step (by repeat (first | (with_reducible first | exact HB.out | apply below_alloc | apply pw_below_drewN | apply below_drew1) | exact HB.out)) hb); clear HB; have HB := n0_; clear n0_; (try clear hb); (try clear hb2); (try clear hk); (try clear hi)))
                          go_ret
                          exact ⟨by first | rfl | (simp [errW_none, errW_some] <;> rfl) | (simp [*, errW_none, errW_some] <;> rfl), by repeat (first | (with_reducible first | exact HB.out | apply below_alloc | apply pw_below_drewN | apply below_drew1) | exact HB.out)⟩
                        · rw [if_neg c70] at H
                          have c70b0 : (t130.toList == t128.toList) = false := beq_eq_false_iff_ne.mpr c70
                          have c70b1 : (t130.toList != t128.toList) = true := bne_iff_ne.mpr c70
                          obtain rfl := Option.some.inj H
                          go_wp2_with (first | ((with_reducible refine gate_callee (f := 38) rfl ?_); refine goesL_ (some 146) rfl rfl Tryz.func38 (by kernel_rfl) rfl #[.int .i64 a0, .string a4] rfl (by (try simp only [List.map_toArray, List.map_cons, List.map_nil]); first | done | rfl | (simp only [List.length_drop, List.length_take]; rfl)) ?_; (with_reducible refine (cayleyref01_Parse.calls kj39 a0 a4 t128 t129 _ A68.out).mono ?_); rintro e w73 ⟨rfl, hb⟩; refine ⟨_, rfl, ?_⟩; have n0_ := Aside0.mk (below_step (by repeat (first | (with_reducible first | exact HB.out | apply below_alloc | apply pw_below_drewN | apply below_drew1) | exact HB.out)) hb); clear HB; have HB := n0_; clear n0_; (try clear hb); (try clear hb2); (try clear hk); (try clear hi)) | ((with_reducible refine gate_callee (f := 39) rfl ?_); refine goesL_ (some 152) rfl rfl Tryz.func39 (by kernel_rfl) rfl #[.int .i64 a0, .string a4] rfl (by (try simp only [List.map_toArray, List.map_cons, List.map_nil]); first | done | rfl | (simp only [List.length_drop, List.length_take]; rfl)) ?_; (with_reducible refine (word_Parse.calls a0 a4 t130 t131 _ A69.out (by first | exact hG | exact GL.step hG (by repeat (first | (with_reducible first | exact HB.out | apply below_alloc | apply pw_below_drewN | apply below_drew1) | exact HB.out)))).mono ?_); rintro e w74 ⟨rfl, hb⟩; refine ⟨_, rfl, ?_⟩; have n0_ := Aside0.mk (below_step (by repeat (first | (with_reducible first | exact HB.out | apply below_alloc | apply pw_below_drewN | apply below_drew1) | exact HB.out)) hb); clear HB; have HB := n0_; clear n0_; (try clear hb); (try clear hb2); (try clear hk); (try clear hi)))
                          go_ret
                          exact ⟨by first | rfl | (simp [errW_none, errW_some] <;> rfl) | (simp [*, errW_none, errW_some] <;> rfl), by repeat (first | (with_reducible first | exact HB.out | apply below_alloc | apply pw_below_drewN | apply below_drew1) | exact HB.out)⟩
    · replace c9 := Bool.eq_false_iff.mpr c9
      subst c9
      have H1 : (some true) = some r := by rw [if_neg (show ¬ (false = true) by decide)] at H; exact H
      clear H
      have H := H1
      clear H1
      obtain rfl := Option.some.inj H
      go_enter Tryz.func4, Tryz.ntmps4
      go_wp2_with (first | ((with_reducible refine gate_callee (f := 11) rfl ?_); refine goesL_ (some 25) rfl rfl Tryz.func11 (by kernel_rfl) rfl #[] rfl (by (try simp only [List.map_toArray, List.map_cons, List.map_nil]); first | done | rfl | (simp only [List.length_drop, List.length_take]; rfl)) ?_; (with_reducible refine (cayleylaw01_sane.calls  true _ A6.out (by first | exact hG | exact GL.step hG (by repeat (first | (with_reducible first | exact HB.out | apply below_alloc | apply pw_below_drewN | apply below_drew1) | exact HB.out)))).mono ?_); rintro e w75 ⟨rfl, hb⟩; refine ⟨_, rfl, ?_⟩; have n0_ := Aside0.mk (below_step (by repeat (first | (with_reducible first | exact HB.out | apply below_alloc | apply pw_below_drewN | apply below_drew1) | exact HB.out)) hb); clear HB; have HB := n0_; clear n0_; (try clear hb); (try clear hb2); (try clear hk); (try clear hi)) | ((with_reducible refine gate_dst (N := 30) rfl ?_); refine Kd.R_lit Kd.string _ 9 ?hg (N := 30) ?hd (xs := ([a2, a3, a4] : List ByteArray)) (inner := [.string a2, .string a3, .string a4]) (ok := fun _ => True) (okp := fun _ => True) ?hr ?hp (fun _ hk => hk) trivial (Below.refl _ _) (Nat.le_refl _) (by simp) ?_; (case hd => rfl); (case hg => rfl); (case hr => first | (go_simp; done) | (go_simp; rfl)); (case hp => exact (Reps.one (show Kd.M Kd.string _ _ _ a2 [.string a2] from rfl) (Reps.one (show Kd.M Kd.string _ _ _ a3 [.string a3] from rfl) (Reps.one (show Kd.M Kd.string _ _ _ a4 [.string a4] from rfl) (Reps.none _ _))))); intro v103 w76 ho77 hb hg_ hnew_; clear hg_ hnew_; (first | rw [← Ny102.out] at ho77 | (simp only [Int.reduceToNat] at ho77; rw [← Ny102.out] at ho77)); have n0_ := Aside0.mk (Kd.R_lower ho77 (below_size (by repeat (first | (with_reducible first | exact HB.out | apply below_alloc | apply pw_below_drewN | apply below_drew1) | exact HB.out)))); have n1_ := Aside0.mk (below_step (by repeat (first | (with_reducible first | exact HB.out | apply below_alloc | apply pw_below_drewN | apply below_drew1) | exact HB.out)) hb); clear HB; have HO104 := n0_; have HB := n1_; clear n0_ n1_; clear hb ho77; obtain ⟨Ao78, co78, eo78⟩ := Kd.R_slice HO104.out; subst eo78) | ((with_reducible refine gate_callee (f := 12) rfl ?_); refine goesL_ (some 31) rfl rfl Tryz.func12 (by kernel_rfl) rfl #[.slice Ao78 y102.length co78] rfl (by (try simp only [List.map_toArray, List.map_cons, List.map_nil]); first | done | rfl | (simp only [List.length_drop, List.length_take]; rfl)) ?_; (with_reducible refine (cayleylaw01_short.calls k _ _ y102 false _ ?side1 ?side2 A8.out).mono ?_); (case side1 => repeat (first | exact (Kd.R_reads' HO104.out).2.2 | (with_reducible refine Kd.C_alloc ?_ _) | (with_reducible refine Kd.C_drewN ?_ _) | (with_reducible refine Kd.C_drew ?_))); (case side2 => exact (Kd.R_reads' HO104.out).2.1); rintro e w' ⟨rfl, ⟨nd, rfl⟩⟩; refine ⟨_, rfl, ?_⟩))
      go_ret
      exact ⟨by first | rfl | (simp [errW_none, errW_some] <;> rfl) | (simp [*, errW_none, errW_some] <;> rfl), by repeat (first | (with_reducible first | exact HB.out | apply below_alloc | apply pw_below_drewN | apply below_drew1) | exact HB.out)⟩
  · replace c7 := Bool.eq_false_iff.mpr c7
    subst c7
    have H1 : (some false) = some r := by rw [if_neg (show ¬ (false = true) by decide)] at H; exact H
    clear H
    have H := H1
    clear H1
    obtain rfl := Option.some.inj H
    go_enter Tryz.func4, Tryz.ntmps4
    go_wp2_with (first | ((with_reducible refine gate_callee (f := 11) rfl ?_); refine goesL_ (some 25) rfl rfl Tryz.func11 (by kernel_rfl) rfl #[] rfl (by (try simp only [List.map_toArray, List.map_cons, List.map_nil]); first | done | rfl | (simp only [List.length_drop, List.length_take]; rfl)) ?_; (with_reducible refine (cayleylaw01_sane.calls  false _ A6.out (by first | exact hG | exact GL.step hG (by repeat (first | (with_reducible first | exact HB.out | apply below_alloc | apply pw_below_drewN | apply below_drew1) | exact HB.out)))).mono ?_); rintro e w79 ⟨rfl, hb⟩; refine ⟨_, rfl, ?_⟩; have n0_ := Aside0.mk (below_step (by repeat (first | (with_reducible first | exact HB.out | apply below_alloc | apply pw_below_drewN | apply below_drew1) | exact HB.out)) hb); clear HB; have HB := n0_; clear n0_; (try clear hb); (try clear hb2); (try clear hk); (try clear hi)))
    go_ret
    exact ⟨by first | rfl | (simp [errW_none, errW_some] <;> rfl) | (simp [*, errW_none, errW_some] <;> rfl), by repeat (first | (with_reducible first | exact HB.out | apply below_alloc | apply pw_below_drewN | apply below_drew1) | exact HB.out)⟩
end Go.Proofs.YthiehmogphknlaaGreatDoor.PF
