/- Printed by a program of this session (wip/ext.py) out of the translation, after the kit's print. Not trusted: Lean checks it. -/
import Derived.Test.YthiehmogphknlaaGreatDoorPJx0
namespace Go.Proofs.YthiehmogphknlaaGreatDoor.PJ
open Go.Proofs.YthiehmogphknlaaGreatDoor.G Go.Proofs.YthiehmogphknlaaGreatDoor.PA Go.RowKit Go.Proofs.YthiehmogphknlaaGreatDoorW.PrintWords Go.Proofs.YthiehmogphknlaaGreatDoorW.PrintLast Go.Proofs.YthiehmogphknlaaGreatDoorW.PrintMore
attribute [local go_sem] max2_int min2_int max_two min_two max_three min_three max_four min_four   -- for this text's walks alone
set_option linter.unusedVariables false
set_option linter.unusedSimpArgs false

/-! ### cayleylaw01_WordConjugacy: function 8 -/
def cayleylaw01_WordConjugacy.j0 : Nat → ByteArray → ByteArray → Bool → Option (Bool)
  | 0, _, _, _ => none
  | k + 1, x0, x3, x73 => if x73 = true then (some false) else (if x3.size + x0.size ≤ 9223372036854775807 then ((word_Inverse.f k x3).bind fun t116 => (if (x3 ++ x0).size + t116.size ≤ 9223372036854775807 then ((word_Conjugate.f ((x3 ++ x0) ++ t116) x0).bind fun bt117 => (if bt117.2 = true then (if bt117.1.size + x0.size ≤ 9223372036854775807 then ((word_Inverse.f k bt117.1).bind fun t119 => (if (bt117.1 ++ x0).size + t119.size ≤ 9223372036854775807 then ((word_Reduce.f k ((bt117.1 ++ x0) ++ t119)).bind fun t120 => ((word_Inverse.f k x3).bind fun t121 => (if (x3 ++ x0).size + t121.size ≤ 9223372036854775807 then ((word_Reduce.f k ((x3 ++ x0) ++ t121)).bind fun t122 => (if t120.toList = t122.toList then ((word_Inverse.f k x3).bind fun t123 => (if (x3 ++ x0).size + t123.size ≤ 9223372036854775807 then ((word_Form.f k ((x3 ++ x0) ++ t123)).bind fun t124 => ((word_Form.f k x0).bind fun t125 => (some (t124.toList == t125.toList)))) else (none))) else (some false))) else (none)))) else (none))) else (none)) else (some false))) else (none))) else (none))
def cayleylaw01_WordConjugacy.f (k : Nat) (a0 : ByteArray) (a1 : ByteArray) (a2 : ByteArray) (a3 : ByteArray) : Option (Bool) := (cayleylaw01_sane.f).bind fun t101 => (if t101 = true then ((cayleylaw01_words.f k (([a0, a1, a2, a3] : List ByteArray))).bind fun t105 => (if t105 = true then ((word_Conjugate.f a0 a1).bind fun bt106 => ((word_Conjugate.f a1 a0).bind fun bt108 => ((word_Conjugate.f a1 a2).bind fun bt110 => ((word_Conjugate.f a0 a2).bind fun bt112 => (if (bt106.2 != bt108.2) = true then (cayleylaw01_WordConjugacy.j0 k a0 a3 true) else ((word_Form.f k a0).bind fun t114 => ((word_Form.f k a1).bind fun t115 => (if (bt106.2 != (t114.toList == t115.toList)) = true then (cayleylaw01_WordConjugacy.j0 k a0 a3 true) else (if bt106.2 = true then (if bt110.2 = true then (cayleylaw01_WordConjugacy.j0 k a0 a3 (!bt112.2)) else (cayleylaw01_WordConjugacy.j0 k a0 a3 false)) else (cayleylaw01_WordConjugacy.j0 k a0 a3 false)))))))))) else (some true))) else (some false))
theorem cayleylaw01_WordConjugacy.mono_l : ∀ k, (∀ y0 y1 y2, LeO (cayleylaw01_WordConjugacy.j0 k y0 y1 y2) (cayleylaw01_WordConjugacy.j0 (k + 1) y0 y1 y2))
  | 0 => fun _ _ _ r h => by simp [cayleylaw01_WordConjugacy.j0] at h
  | k + 1 => by
    have ih0 := cayleylaw01_WordConjugacy.mono_l k
    · intro y0 y1 y2
      unfold cayleylaw01_WordConjugacy.j0
      repeat' first
      | (with_reducible exact ih0 _ _ _)
      | (with_reducible exact cayleylaw01_words.mono _ _)
      | (with_reducible exact word_Form.mono _ _)
      | (with_reducible exact word_Inverse.mono _ _)
      | (with_reducible exact word_Reduce.mono _ _)
      | (with_reducible exact LeO.refl _)
      | (with_reducible exact LeO.none _)
      | (with_reducible refine LeO.ite ?_ ?_)
      | (with_reducible refine LeO.bind ?_ (fun _ => ?_))
      | exact ih0 _ _ _
      | exact cayleylaw01_words.mono _ _
      | exact word_Form.mono _ _
      | exact word_Inverse.mono _ _
      | exact word_Reduce.mono _ _
      | exact LeO.none _
      | refine LeO.ite ?_ ?_
      | refine LeO.bind ?_ (fun _ => ?_)
theorem cayleylaw01_WordConjugacy.mono : ∀ a0 a1 a2 a3 k, LeO (cayleylaw01_WordConjugacy.f k a0 a1 a2 a3) (cayleylaw01_WordConjugacy.f (k + 1) a0 a1 a2 a3) := by
  intro a0 a1 a2 a3 k
  have ih0 := cayleylaw01_WordConjugacy.mono_l k
  unfold cayleylaw01_WordConjugacy.f
  repeat' first
      | (with_reducible exact ih0 _ _ _)
      | (with_reducible exact cayleylaw01_words.mono _ _)
      | (with_reducible exact word_Form.mono _ _)
      | (with_reducible exact word_Inverse.mono _ _)
      | (with_reducible exact word_Reduce.mono _ _)
      | (with_reducible exact LeO.refl _)
      | (with_reducible exact LeO.none _)
      | (with_reducible refine LeO.ite ?_ ?_)
      | (with_reducible refine LeO.bind ?_ (fun _ => ?_))
      | exact ih0 _ _ _
      | exact cayleylaw01_words.mono _ _
      | exact word_Form.mono _ _
      | exact word_Inverse.mono _ _
      | exact word_Reduce.mono _ _
      | exact LeO.none _
      | refine LeO.ite ?_ ?_
      | refine LeO.bind ?_ (fun _ => ?_)
set_option maxHeartbeats 8000000 in
set_option maxRecDepth 100000 in
theorem cayleylaw01_WordConjugacy.calls (k : Nat) (a0 : ByteArray) (a1 : ByteArray) (a2 : ByteArray) (a3 : ByteArray) (r : Bool) (w : World) (h : cayleylaw01_WordConjugacy.f k a0 a1 a2 a3 = some r) (hG : GL w) :
    Calls Tryz.prog 8 #[.string a0, .string a1, .string a2, .string a3] w fun e w' => e = .returned (.bool r) ∧ Below w.heap.size w w' := by
  have HB := Aside0.mk (Below.refl w.heap.size w)
  have H : ((cayleylaw01_sane.f).bind fun t101 => (if t101 = true then ((cayleylaw01_words.f k (([a0, a1, a2, a3] : List ByteArray))).bind fun t105 => (if t105 = true then ((word_Conjugate.f a0 a1).bind fun bt106 => ((word_Conjugate.f a1 a0).bind fun bt108 => ((word_Conjugate.f a1 a2).bind fun bt110 => ((word_Conjugate.f a0 a2).bind fun bt112 => (if (bt106.2 != bt108.2) = true then (cayleylaw01_WordConjugacy.j0 k a0 a3 true) else ((word_Form.f k a0).bind fun t114 => ((word_Form.f k a1).bind fun t115 => (if (bt106.2 != (t114.toList == t115.toList)) = true then (cayleylaw01_WordConjugacy.j0 k a0 a3 true) else (if bt106.2 = true then (if bt110.2 = true then (cayleylaw01_WordConjugacy.j0 k a0 a3 (!bt112.2)) else (cayleylaw01_WordConjugacy.j0 k a0 a3 false)) else (cayleylaw01_WordConjugacy.j0 k a0 a3 false)))))))))) else (some true))) else (some false))) = some r := h
  clear h
  replace H := Option.bind_eq_some_iff.mp H
  obtain ⟨t101, A50, H⟩ := H
  replace H : (if t101 = true then ((cayleylaw01_words.f k (([a0, a1, a2, a3] : List ByteArray))).bind fun t105 => (if t105 = true then ((word_Conjugate.f a0 a1).bind fun bt106 => ((word_Conjugate.f a1 a0).bind fun bt108 => ((word_Conjugate.f a1 a2).bind fun bt110 => ((word_Conjugate.f a0 a2).bind fun bt112 => (if (bt106.2 != bt108.2) = true then (cayleylaw01_WordConjugacy.j0 k a0 a3 true) else ((word_Form.f k a0).bind fun t114 => ((word_Form.f k a1).bind fun t115 => (if (bt106.2 != (t114.toList == t115.toList)) = true then (cayleylaw01_WordConjugacy.j0 k a0 a3 true) else (if bt106.2 = true then (if bt110.2 = true then (cayleylaw01_WordConjugacy.j0 k a0 a3 (!bt112.2)) else (cayleylaw01_WordConjugacy.j0 k a0 a3 false)) else (cayleylaw01_WordConjugacy.j0 k a0 a3 false)))))))))) else (some true))) else (some false)) = some r := H
  have A5 := Aside0.mk A50
  clear A50
  by_cases c6 : t101 = true
  · subst c6
    have H1 : ((cayleylaw01_words.f k (([a0, a1, a2, a3] : List ByteArray))).bind fun t105 => (if t105 = true then ((word_Conjugate.f a0 a1).bind fun bt106 => ((word_Conjugate.f a1 a0).bind fun bt108 => ((word_Conjugate.f a1 a2).bind fun bt110 => ((word_Conjugate.f a0 a2).bind fun bt112 => (if (bt106.2 != bt108.2) = true then (cayleylaw01_WordConjugacy.j0 k a0 a3 true) else ((word_Form.f k a0).bind fun t114 => ((word_Form.f k a1).bind fun t115 => (if (bt106.2 != (t114.toList == t115.toList)) = true then (cayleylaw01_WordConjugacy.j0 k a0 a3 true) else (if bt106.2 = true then (if bt110.2 = true then (cayleylaw01_WordConjugacy.j0 k a0 a3 (!bt112.2)) else (cayleylaw01_WordConjugacy.j0 k a0 a3 false)) else (cayleylaw01_WordConjugacy.j0 k a0 a3 false)))))))))) else (some true))) = some r := by rw [if_pos rfl] at H; exact H
    clear H
    have H := H1
    clear H1
    obtain ⟨y102, hy102⟩ : ∃ y_ : List ByteArray, y_ = (([a0, a1, a2, a3] : List ByteArray)) := ⟨_, rfl⟩
    replace H : ((cayleylaw01_words.f k y102).bind fun t105 => (if t105 = true then ((word_Conjugate.f a0 a1).bind fun bt106 => ((word_Conjugate.f a1 a0).bind fun bt108 => ((word_Conjugate.f a1 a2).bind fun bt110 => ((word_Conjugate.f a0 a2).bind fun bt112 => (if (bt106.2 != bt108.2) = true then (cayleylaw01_WordConjugacy.j0 k a0 a3 true) else ((word_Form.f k a0).bind fun t114 => ((word_Form.f k a1).bind fun t115 => (if (bt106.2 != (t114.toList == t115.toList)) = true then (cayleylaw01_WordConjugacy.j0 k a0 a3 true) else (if bt106.2 = true then (if bt110.2 = true then (cayleylaw01_WordConjugacy.j0 k a0 a3 (!bt112.2)) else (cayleylaw01_WordConjugacy.j0 k a0 a3 false)) else (cayleylaw01_WordConjugacy.j0 k a0 a3 false)))))))))) else (some true))) = some r := by first | (rw [hy102]; with_reducible exact H) | (have H2_ := (Option.bind_some _ _).symm.trans H; rw [hy102]; with_reducible exact H2_) | (have H2_ := (Option.bind_some _ _).symm.trans H; with_reducible exact H2_) | with_reducible exact H | (rw [hy102]; exact H) | exact H
    have Ny102 := Aside0.mk hy102
    clear hy102
    replace H := Option.bind_eq_some_iff.mp H
    obtain ⟨t105, A70, H⟩ := H
    replace H : (if t105 = true then ((word_Conjugate.f a0 a1).bind fun bt106 => ((word_Conjugate.f a1 a0).bind fun bt108 => ((word_Conjugate.f a1 a2).bind fun bt110 => ((word_Conjugate.f a0 a2).bind fun bt112 => (if (bt106.2 != bt108.2) = true then (cayleylaw01_WordConjugacy.j0 k a0 a3 true) else ((word_Form.f k a0).bind fun t114 => ((word_Form.f k a1).bind fun t115 => (if (bt106.2 != (t114.toList == t115.toList)) = true then (cayleylaw01_WordConjugacy.j0 k a0 a3 true) else (if bt106.2 = true then (if bt110.2 = true then (cayleylaw01_WordConjugacy.j0 k a0 a3 (!bt112.2)) else (cayleylaw01_WordConjugacy.j0 k a0 a3 false)) else (cayleylaw01_WordConjugacy.j0 k a0 a3 false)))))))))) else (some true)) = some r := H
    have A7 := Aside0.mk A70
    clear A70
    by_cases c8 : t105 = true
    · subst c8
      have H1 : ((word_Conjugate.f a0 a1).bind fun bt106 => ((word_Conjugate.f a1 a0).bind fun bt108 => ((word_Conjugate.f a1 a2).bind fun bt110 => ((word_Conjugate.f a0 a2).bind fun bt112 => (if (bt106.2 != bt108.2) = true then (cayleylaw01_WordConjugacy.j0 k a0 a3 true) else ((word_Form.f k a0).bind fun t114 => ((word_Form.f k a1).bind fun t115 => (if (bt106.2 != (t114.toList == t115.toList)) = true then (cayleylaw01_WordConjugacy.j0 k a0 a3 true) else (if bt106.2 = true then (if bt110.2 = true then (cayleylaw01_WordConjugacy.j0 k a0 a3 (!bt112.2)) else (cayleylaw01_WordConjugacy.j0 k a0 a3 false)) else (cayleylaw01_WordConjugacy.j0 k a0 a3 false)))))))))) = some r := by rw [if_pos rfl] at H; exact H
      clear H
      have H := H1
      clear H1
      replace H := Option.bind_eq_some_iff.mp H
      obtain ⟨⟨t106, t107⟩, A90, H⟩ := H
      replace H : ((word_Conjugate.f a1 a0).bind fun bt108 => ((word_Conjugate.f a1 a2).bind fun bt110 => ((word_Conjugate.f a0 a2).bind fun bt112 => (if (t107 != bt108.2) = true then (cayleylaw01_WordConjugacy.j0 k a0 a3 true) else ((word_Form.f k a0).bind fun t114 => ((word_Form.f k a1).bind fun t115 => (if (t107 != (t114.toList == t115.toList)) = true then (cayleylaw01_WordConjugacy.j0 k a0 a3 true) else (if t107 = true then (if bt110.2 = true then (cayleylaw01_WordConjugacy.j0 k a0 a3 (!bt112.2)) else (cayleylaw01_WordConjugacy.j0 k a0 a3 false)) else (cayleylaw01_WordConjugacy.j0 k a0 a3 false))))))))) = some r := H
      have A9 := Aside0.mk A90
      clear A90
      replace H := Option.bind_eq_some_iff.mp H
      obtain ⟨⟨t108, t109⟩, A100, H⟩ := H
      replace H : ((word_Conjugate.f a1 a2).bind fun bt110 => ((word_Conjugate.f a0 a2).bind fun bt112 => (if (t107 != t109) = true then (cayleylaw01_WordConjugacy.j0 k a0 a3 true) else ((word_Form.f k a0).bind fun t114 => ((word_Form.f k a1).bind fun t115 => (if (t107 != (t114.toList == t115.toList)) = true then (cayleylaw01_WordConjugacy.j0 k a0 a3 true) else (if t107 = true then (if bt110.2 = true then (cayleylaw01_WordConjugacy.j0 k a0 a3 (!bt112.2)) else (cayleylaw01_WordConjugacy.j0 k a0 a3 false)) else (cayleylaw01_WordConjugacy.j0 k a0 a3 false)))))))) = some r := H
      have A10 := Aside0.mk A100
      clear A100
      replace H := Option.bind_eq_some_iff.mp H
      obtain ⟨⟨t110, t111⟩, A110, H⟩ := H
      replace H : ((word_Conjugate.f a0 a2).bind fun bt112 => (if (t107 != t109) = true then (cayleylaw01_WordConjugacy.j0 k a0 a3 true) else ((word_Form.f k a0).bind fun t114 => ((word_Form.f k a1).bind fun t115 => (if (t107 != (t114.toList == t115.toList)) = true then (cayleylaw01_WordConjugacy.j0 k a0 a3 true) else (if t107 = true then (if t111 = true then (cayleylaw01_WordConjugacy.j0 k a0 a3 (!bt112.2)) else (cayleylaw01_WordConjugacy.j0 k a0 a3 false)) else (cayleylaw01_WordConjugacy.j0 k a0 a3 false))))))) = some r := H
      have A11 := Aside0.mk A110
      clear A110
      replace H := Option.bind_eq_some_iff.mp H
      obtain ⟨⟨t112, t113⟩, A120, H⟩ := H
      replace H : (if (t107 != t109) = true then (cayleylaw01_WordConjugacy.j0 k a0 a3 true) else ((word_Form.f k a0).bind fun t114 => ((word_Form.f k a1).bind fun t115 => (if (t107 != (t114.toList == t115.toList)) = true then (cayleylaw01_WordConjugacy.j0 k a0 a3 true) else (if t107 = true then (if t111 = true then (cayleylaw01_WordConjugacy.j0 k a0 a3 (!t113)) else (cayleylaw01_WordConjugacy.j0 k a0 a3 false)) else (cayleylaw01_WordConjugacy.j0 k a0 a3 false)))))) = some r := H
      have A12 := Aside0.mk A120
      clear A120
      have HC13 := Aside0.mk H
      clear H
      go_enter Tryz.func8, Tryz.ntmps8
      go_upto_region 9 with (first | ((with_reducible refine gate_callee (f := 11) rfl ?_); refine goesL_ (some 19) rfl rfl Tryz.func11 (by kernel_rfl) rfl #[] rfl (by (try simp only [List.map_toArray, List.map_cons, List.map_nil]); first | done | rfl | (simp only [List.length_drop, List.length_take]; rfl)) ?_; (with_reducible refine (cayleylaw01_sane.calls  true _ A5.out (by first | exact hG | exact GL.step hG (by repeat (first | (with_reducible first | exact HB.out | apply below_alloc | apply pw_below_drewN | apply below_drew1) | exact HB.out)))).mono ?_); rintro e w14 ⟨rfl, hb⟩; refine ⟨_, rfl, ?_⟩; have n0_ := Aside0.mk (below_step (by repeat (first | (with_reducible first | exact HB.out | apply below_alloc | apply pw_below_drewN | apply below_drew1) | exact HB.out)) hb); clear HB; have HB := n0_; clear n0_; (try clear hb); (try clear hb2); (try clear hk); (try clear hi)) | ((with_reducible refine gate_dst (N := 25) rfl ?_); refine Kd.R_lit Kd.string _ 9 ?hg (N := 25) ?hd (xs := ([a0, a1, a2, a3] : List ByteArray)) (inner := [.string a0, .string a1, .string a2, .string a3]) (ok := fun _ => True) (okp := fun _ => True) ?hr ?hp (fun _ hk => hk) trivial (Below.refl _ _) (Nat.le_refl _) (by simp) ?_; (case hd => rfl); (case hg => rfl); (case hr => first | (go_simp; done) | (go_simp; rfl)); (case hp => exact (Reps.one (show Kd.M Kd.string _ _ _ a0 [.string a0] from rfl) (Reps.one (show Kd.M Kd.string _ _ _ a1 [.string a1] from rfl) (Reps.one (show Kd.M Kd.string _ _ _ a2 [.string a2] from rfl) (Reps.one (show Kd.M Kd.string _ _ _ a3 [.string a3] from rfl) (Reps.none _ _)))))); intro v103 w15 ho16 hb hg_ hnew_; clear hg_ hnew_; (first | rw [← Ny102.out] at ho16 | (simp only [Int.reduceToNat] at ho16; rw [← Ny102.out] at ho16)); have n0_ := Aside0.mk (Kd.R_lower ho16 (below_size (by repeat (first | (with_reducible first | exact HB.out | apply below_alloc | apply pw_below_drewN | apply below_drew1) | exact HB.out)))); have n1_ := Aside0.mk (below_step (by repeat (first | (with_reducible first | exact HB.out | apply below_alloc | apply pw_below_drewN | apply below_drew1) | exact HB.out)) hb); clear HB; have HO104 := n0_; have HB := n1_; clear n0_ n1_; clear hb ho16; obtain ⟨Ao17, co17, eo17⟩ := Kd.R_slice HO104.out; subst eo17) | ((with_reducible refine gate_callee (f := 40) rfl ?_); refine goesL_ (some 26) rfl rfl Tryz.func40 (by kernel_rfl) rfl #[.slice Ao17 y102.length co17] rfl (by (try simp only [List.map_toArray, List.map_cons, List.map_nil]); first | done | rfl | (simp only [List.length_drop, List.length_take]; rfl)) ?_; (with_reducible refine (cayleylaw01_words.calls k _ _ y102 true _ ?side1 ?side2 A7.out).mono ?_); (case side1 => repeat (first | exact (Kd.R_reads' HO104.out).2.2 | (with_reducible refine Kd.C_alloc ?_ _) | (with_reducible refine Kd.C_drewN ?_ _) | (with_reducible refine Kd.C_drew ?_))); (case side2 => exact (Kd.R_reads' HO104.out).2.1); rintro e w' ⟨rfl, ⟨nd, rfl⟩⟩; refine ⟨_, rfl, ?_⟩) | ((with_reducible refine gate_callee (f := 35) rfl ?_); refine goesL_ (some 31) rfl rfl Tryz.func35 (by kernel_rfl) rfl #[.string a0, .string a1] rfl (by (try simp only [List.map_toArray, List.map_cons, List.map_nil]); first | done | rfl | (simp only [List.length_drop, List.length_take]; rfl)) ?_; (with_reducible refine (word_Conjugate.calls a0 a1 t106 t107 _ A9.out (by first | exact hG | exact GL.step hG (by repeat (first | (with_reducible first | exact HB.out | apply below_alloc | apply pw_below_drewN | apply below_drew1) | exact HB.out)))).mono ?_); rintro e w18 ⟨rfl, hb⟩; refine ⟨_, rfl, ?_⟩; have n0_ := Aside0.mk (Kd.R_below (by (with_reducible repeat (first | apply Kd.R_alloc | apply Kd.R_drewN | apply Kd.R_drew)); exact HO104.out) hb); have n1_ := Aside0.mk (below_step (by repeat (first | (with_reducible first | exact HB.out | apply below_alloc | apply pw_below_drewN | apply below_drew1) | exact HB.out)) hb); clear HO104; clear HB; have HO104 := n0_; have HB := n1_; clear n0_ n1_; (try clear hb); (try clear hb2); (try clear hk); (try clear hi)) | ((with_reducible refine gate_callee (f := 35) rfl ?_); refine goesL_ (some 37) rfl rfl Tryz.func35 (by kernel_rfl) rfl #[.string a1, .string a0] rfl (by (try simp only [List.map_toArray, List.map_cons, List.map_nil]); first | done | rfl | (simp only [List.length_drop, List.length_take]; rfl)) ?_; (with_reducible refine (word_Conjugate.calls a1 a0 t108 t109 _ A10.out (by first | exact hG | exact GL.step hG (by repeat (first | (with_reducible first | exact HB.out | apply below_alloc | apply pw_below_drewN | apply below_drew1) | exact HB.out)))).mono ?_); rintro e w19 ⟨rfl, hb⟩; refine ⟨_, rfl, ?_⟩; have n0_ := Aside0.mk (Kd.R_below (by (with_reducible repeat (first | apply Kd.R_alloc | apply Kd.R_drewN | apply Kd.R_drew)); exact HO104.out) hb); have n1_ := Aside0.mk (below_step (by repeat (first | (with_reducible first | exact HB.out | apply below_alloc | apply pw_below_drewN | apply below_drew1) | exact HB.out)) hb); clear HO104; clear HB; have HO104 := n0_; have HB := n1_; clear n0_ n1_; (try clear hb); (try clear hb2); (try clear hk); (try clear hi)) | ((with_reducible refine gate_callee (f := 35) rfl ?_); refine goesL_ (some 43) rfl rfl Tryz.func35 (by kernel_rfl) rfl #[.string a1, .string a2] rfl (by (try simp only [List.map_toArray, List.map_cons, List.map_nil]); first | done | rfl | (simp only [List.length_drop, List.length_take]; rfl)) ?_; (with_reducible refine (word_Conjugate.calls a1 a2 t110 t111 _ A11.out (by first | exact hG | exact GL.step hG (by repeat (first | (with_reducible first | exact HB.out | apply below_alloc | apply pw_below_drewN | apply below_drew1) | exact HB.out)))).mono ?_); rintro e w20 ⟨rfl, hb⟩; refine ⟨_, rfl, ?_⟩; have n0_ := Aside0.mk (Kd.R_below (by (with_reducible repeat (first | apply Kd.R_alloc | apply Kd.R_drewN | apply Kd.R_drew)); exact HO104.out) hb); have n1_ := Aside0.mk (below_step (by repeat (first | (with_reducible first | exact HB.out | apply below_alloc | apply pw_below_drewN | apply below_drew1) | exact HB.out)) hb); clear HO104; clear HB; have HO104 := n0_; have HB := n1_; clear n0_ n1_; (try clear hb); (try clear hb2); (try clear hk); (try clear hi)) | ((with_reducible refine gate_callee (f := 35) rfl ?_); refine goesL_ (some 49) rfl rfl Tryz.func35 (by kernel_rfl) rfl #[.string a0, .string a2] rfl (by (try simp only [List.map_toArray, List.map_cons, List.map_nil]); first | done | rfl | (simp only [List.length_drop, List.length_take]; rfl)) ?_; (with_reducible refine (word_Conjugate.calls a0 a2 t112 t113 _ A12.out (by first | exact hG | exact GL.step hG (by repeat (first | (with_reducible first | exact HB.out | apply below_alloc | apply pw_below_drewN | apply below_drew1) | exact HB.out)))).mono ?_); rintro e w21 ⟨rfl, hb⟩; refine ⟨_, rfl, ?_⟩; have n0_ := Aside0.mk (Kd.R_below (by (with_reducible repeat (first | apply Kd.R_alloc | apply Kd.R_drewN | apply Kd.R_drew)); exact HO104.out) hb); have n1_ := Aside0.mk (below_step (by repeat (first | (with_reducible first | exact HB.out | apply below_alloc | apply pw_below_drewN | apply below_drew1) | exact HB.out)) hb); clear HO104; clear HB; have HO104 := n0_; have HB := n1_; clear n0_ n1_; (try clear hb); (try clear hb2); (try clear hk); (try clear hi)))
      (try simp only [Act.put, List.setIfInBounds_toArray, List.set_cons_zero, List.set_cons_succ])
      go_cut [73] (fun v73 wc => ∃ (kq : Nat) (x73_12 : Bool), v73 = .bool x73_12 ∧ Aside0 (cayleylaw01_WordConjugacy.j0 kq a0 a3 x73_12 = some r) ∧ Aside0 (kq ≤ k) ∧ Aside0 (Below w.heap.size w wc))
      case first =>
        have H := HC13.out
        clear HC13
        by_cases c22 : (t107 != t109) = true
        · rw [if_pos c22] at H
          have c22b0 : (t107 != t109) = true := c22
          (try (have c22b1 : decide (t107 = t109) = false := by simpa using c22))
          (try (have c22b2 : (t107 == t109) = false := by simpa using c22))
          (try (have c22b3 : ¬ (t107 = t109) := by simpa using c22))
          clear c22
          (first | rw [c22b0] | (simp only [i64_w, i32_w]; rw [c22b0]) | skip)
          have H' := Aside0.mk H
          clear H
          go_wp2
          go_meet
          case rel => exact ⟨_, (true), (by first | rfl | (simp; done) | (simp [*]; done)), H', ⟨by first | omega | exact Nat.le_refl _⟩, ⟨by repeat (first | (with_reducible first | exact HB.out | apply below_alloc | apply pw_below_drewN | apply below_drew1) | exact HB.out)⟩⟩
        · rw [if_neg c22] at H
          have c22b0 : (t107 != t109) = false := by simpa using c22
          (try (have c22b1 : decide (t107 = t109) = true := by simpa using c22))
          (try (have c22b2 : (t107 == t109) = true := by simpa using c22))
          clear c22
          (first | rw [c22b0] | (simp only [i64_w, i32_w]; rw [c22b0]) | skip)
          replace H := Option.bind_eq_some_iff.mp H
          obtain ⟨t114, A230, H⟩ := H
          replace H : ((word_Form.f k a1).bind fun t115 => (if (t107 != (t114.toList == t115.toList)) = true then (cayleylaw01_WordConjugacy.j0 k a0 a3 true) else (if t107 = true then (if t111 = true then (cayleylaw01_WordConjugacy.j0 k a0 a3 (!t113)) else (cayleylaw01_WordConjugacy.j0 k a0 a3 false)) else (cayleylaw01_WordConjugacy.j0 k a0 a3 false)))) = some r := H
          have A23 := Aside0.mk A230
          clear A230
          replace H := Option.bind_eq_some_iff.mp H
          obtain ⟨t115, A240, H⟩ := H
          replace H : (if (t107 != (t114.toList == t115.toList)) = true then (cayleylaw01_WordConjugacy.j0 k a0 a3 true) else (if t107 = true then (if t111 = true then (cayleylaw01_WordConjugacy.j0 k a0 a3 (!t113)) else (cayleylaw01_WordConjugacy.j0 k a0 a3 false)) else (cayleylaw01_WordConjugacy.j0 k a0 a3 false))) = some r := H
          have A24 := Aside0.mk A240
          clear A240
          by_cases c25 : (t107 != (t114.toList == t115.toList)) = true
          · rw [if_pos c25] at H
            have c25b0 : (t107 != (t114.toList == t115.toList)) = true := c25
            (try (have c25b1 : decide (t107 = (t114.toList == t115.toList)) = false := by simpa using c25))
            (try (have c25b2 : (t107 == (t114.toList == t115.toList)) = false := by simpa using c25))
            (try (have c25b3 : ¬ (t107 = (t114.toList == t115.toList)) := by simpa using c25))
            clear c25
            have H' := Aside0.mk H
            clear H
            go_wp2_with (first | (go_at_call 31; (with_reducible refine (word_Form.calls k a0 t114 _ A23.out (by first | exact hG | exact GL.step hG (by repeat (first | (with_reducible first | exact HB.out | apply below_alloc | apply pw_below_drewN | apply below_drew1) | exact HB.out)))).mono ?_); rintro e w26 ⟨rfl, hb⟩; have n0_ := Aside0.mk (Kd.R_below (by (with_reducible repeat (first | apply Kd.R_alloc | apply Kd.R_drewN | apply Kd.R_drew)); exact HO104.out) hb); have n1_ := Aside0.mk (below_step (by repeat (first | (with_reducible first | exact HB.out | apply below_alloc | apply pw_below_drewN | apply below_drew1) | exact HB.out)) hb); clear HO104; clear HB; have HO104 := n0_; have HB := n1_; clear n0_ n1_; (try clear hb); (try clear hb2); (try clear hk); (try clear hi)) | (go_at_call 31; (with_reducible refine (word_Form.calls k a1 t115 _ A24.out (by first | exact hG | exact GL.step hG (by repeat (first | (with_reducible first | exact HB.out | apply below_alloc | apply pw_below_drewN | apply below_drew1) | exact HB.out)))).mono ?_); rintro e w27 ⟨rfl, hb⟩; have n0_ := Aside0.mk (Kd.R_below (by (with_reducible repeat (first | apply Kd.R_alloc | apply Kd.R_drewN | apply Kd.R_drew)); exact HO104.out) hb); have n1_ := Aside0.mk (below_step (by repeat (first | (with_reducible first | exact HB.out | apply below_alloc | apply pw_below_drewN | apply below_drew1) | exact HB.out)) hb); clear HO104; clear HB; have HO104 := n0_; have HB := n1_; clear n0_ n1_; (try clear hb); (try clear hb2); (try clear hk); (try clear hi)))
            go_meet
            case rel => exact ⟨_, (true), (by first | rfl | (simp; done) | (simp [*]; done)), H', ⟨by first | omega | exact Nat.le_refl _⟩, ⟨by repeat (first | (with_reducible first | exact HB.out | apply below_alloc | apply pw_below_drewN | apply below_drew1) | exact HB.out)⟩⟩
          · rw [if_neg c25] at H
            have c25b0 : (t107 != (t114.toList == t115.toList)) = false := by simpa using c25
            (try (have c25b1 : decide (t107 = (t114.toList == t115.toList)) = true := by simpa using c25))
            (try (have c25b2 : (t107 == (t114.toList == t115.toList)) = true := by simpa using c25))
            clear c25
            by_cases c28 : t107 = true
            · subst c28
              have H1 : (if t111 = true then (cayleylaw01_WordConjugacy.j0 k a0 a3 (!t113)) else (cayleylaw01_WordConjugacy.j0 k a0 a3 false)) = some r := by rw [if_pos rfl] at H; exact H
              clear H
              have H := H1
              clear H1
              by_cases c29 : t111 = true
              · subst c29
                have H1 : (cayleylaw01_WordConjugacy.j0 k a0 a3 (!t113)) = some r := by rw [if_pos rfl] at H; exact H
                clear H
                have H := H1
                clear H1
                have H' := Aside0.mk H
                clear H
                go_wp2_with (first | (go_at_call 31; (with_reducible refine (word_Form.calls k a0 t114 _ A23.out (by first | exact hG | exact GL.step hG (by repeat (first | (with_reducible first | exact HB.out | apply below_alloc | apply pw_below_drewN | apply below_drew1) | exact HB.out)))).mono ?_); rintro e w30 ⟨rfl, hb⟩; have n0_ := Aside0.mk (Kd.R_below (by (with_reducible repeat (first | apply Kd.R_alloc | apply Kd.R_drewN | apply Kd.R_drew)); exact HO104.out) hb); have n1_ := Aside0.mk (below_step (by repeat (first | (with_reducible first | exact HB.out | apply below_alloc | apply pw_below_drewN | apply below_drew1) | exact HB.out)) hb); clear HO104; clear HB; have HO104 := n0_; have HB := n1_; clear n0_ n1_; (try clear hb); (try clear hb2); (try clear hk); (try clear hi)) | (go_at_call 31; (with_reducible refine (word_Form.calls k a1 t115 _ A24.out (by first | exact hG | exact GL.step hG (by repeat (first | (with_reducible first | exact HB.out | apply below_alloc | apply pw_below_drewN | apply below_drew1) | exact HB.out)))).mono ?_); rintro e w31 ⟨rfl, hb⟩; have n0_ := Aside0.mk (Kd.R_below (by (with_reducible repeat (first | apply Kd.R_alloc | apply Kd.R_drewN | apply Kd.R_drew)); exact HO104.out) hb); have n1_ := Aside0.mk (below_step (by repeat (first | (with_reducible first | exact HB.out | apply below_alloc | apply pw_below_drewN | apply below_drew1) | exact HB.out)) hb); clear HO104; clear HB; have HO104 := n0_; have HB := n1_; clear n0_ n1_; (try clear hb); (try clear hb2); (try clear hk); (try clear hi)))
                go_meet
                case rel => exact ⟨_, (!t113), (by first | rfl | (simp; done) | (simp [*]; done)), H', ⟨by first | omega | exact Nat.le_refl _⟩, ⟨by repeat (first | (with_reducible first | exact HB.out | apply below_alloc | apply pw_below_drewN | apply below_drew1) | exact HB.out)⟩⟩
              · replace c29 := Bool.eq_false_iff.mpr c29
                subst c29
                have H1 : (cayleylaw01_WordConjugacy.j0 k a0 a3 false) = some r := by rw [if_neg (show ¬ (false = true) by decide)] at H; exact H
                clear H
                have H := H1
                clear H1
                have H' := Aside0.mk H
                clear H
                go_wp2_with (first | (go_at_call 31; (with_reducible refine (word_Form.calls k a0 t114 _ A23.out (by first | exact hG | exact GL.step hG (by repeat (first | (with_reducible first | exact HB.out | apply below_alloc | apply pw_below_drewN | apply below_drew1) | exact HB.out)))).mono ?_); rintro e w32 ⟨rfl, hb⟩; have n0_ := Aside0.mk (Kd.R_below (by (with_reducible repeat (first | apply Kd.R_alloc | apply Kd.R_drewN | apply Kd.R_drew)); exact HO104.out) hb); have n1_ := Aside0.mk (below_step (by repeat (first | (with_reducible first | exact HB.out | apply below_alloc | apply pw_below_drewN | apply below_drew1) | exact HB.out)) hb); clear HO104; clear HB; have HO104 := n0_; have HB := n1_; clear n0_ n1_; (try clear hb); (try clear hb2); (try clear hk); (try clear hi)) | (go_at_call 31; (with_reducible refine (word_Form.calls k a1 t115 _ A24.out (by first | exact hG | exact GL.step hG (by repeat (first | (with_reducible first | exact HB.out | apply below_alloc | apply pw_below_drewN | apply below_drew1) | exact HB.out)))).mono ?_); rintro e w33 ⟨rfl, hb⟩; have n0_ := Aside0.mk (Kd.R_below (by (with_reducible repeat (first | apply Kd.R_alloc | apply Kd.R_drewN | apply Kd.R_drew)); exact HO104.out) hb); have n1_ := Aside0.mk (below_step (by repeat (first | (with_reducible first | exact HB.out | apply below_alloc | apply pw_below_drewN | apply below_drew1) | exact HB.out)) hb); clear HO104; clear HB; have HO104 := n0_; have HB := n1_; clear n0_ n1_; (try clear hb); (try clear hb2); (try clear hk); (try clear hi)))
                go_meet
                case rel => exact ⟨_, (false), (by first | rfl | (simp; done) | (simp [*]; done)), H', ⟨by first | omega | exact Nat.le_refl _⟩, ⟨by repeat (first | (with_reducible first | exact HB.out | apply below_alloc | apply pw_below_drewN | apply below_drew1) | exact HB.out)⟩⟩
            · replace c28 := Bool.eq_false_iff.mpr c28
              subst c28
              have H1 : (cayleylaw01_WordConjugacy.j0 k a0 a3 false) = some r := by rw [if_neg (show ¬ (false = true) by decide)] at H; exact H
              clear H
              have H := H1
              clear H1
              have H' := Aside0.mk H
              clear H
              go_wp2_with (first | (go_at_call 31; (with_reducible refine (word_Form.calls k a0 t114 _ A23.out (by first | exact hG | exact GL.step hG (by repeat (first | (with_reducible first | exact HB.out | apply below_alloc | apply pw_below_drewN | apply below_drew1) | exact HB.out)))).mono ?_); rintro e w34 ⟨rfl, hb⟩; have n0_ := Aside0.mk (Kd.R_below (by (with_reducible repeat (first | apply Kd.R_alloc | apply Kd.R_drewN | apply Kd.R_drew)); exact HO104.out) hb); have n1_ := Aside0.mk (below_step (by repeat (first | (with_reducible first | exact HB.out | apply below_alloc | apply pw_below_drewN | apply below_drew1) | exact HB.out)) hb); clear HO104; clear HB; have HO104 := n0_; have HB := n1_; clear n0_ n1_; (try clear hb); (try clear hb2); (try clear hk); (try clear hi)) | (go_at_call 31; (with_reducible refine (word_Form.calls k a1 t115 _ A24.out (by first | exact hG | exact GL.step hG (by repeat (first | (with_reducible first | exact HB.out | apply below_alloc | apply pw_below_drewN | apply below_drew1) | exact HB.out)))).mono ?_); rintro e w35 ⟨rfl, hb⟩; have n0_ := Aside0.mk (Kd.R_below (by (with_reducible repeat (first | apply Kd.R_alloc | apply Kd.R_drewN | apply Kd.R_drew)); exact HO104.out) hb); have n1_ := Aside0.mk (below_step (by repeat (first | (with_reducible first | exact HB.out | apply below_alloc | apply pw_below_drewN | apply below_drew1) | exact HB.out)) hb); clear HO104; clear HB; have HO104 := n0_; have HB := n1_; clear n0_ n1_; (try clear hb); (try clear hb2); (try clear hk); (try clear hi)))
              go_meet
              case rel => exact ⟨_, (false), (by first | rfl | (simp; done) | (simp [*]; done)), H', ⟨by first | omega | exact Nat.le_refl _⟩, ⟨by repeat (first | (with_reducible first | exact HB.out | apply below_alloc | apply pw_below_drewN | apply below_drew1) | exact HB.out)⟩⟩
      case rest =>
        clear HC13
        try clear c1
        try clear c2
        try clear p2
        try clear c3
        try clear c4
        try clear c6
        try clear c8
        try clear c11
        try clear c22
        try clear c22b0
        try clear c22b1
        try clear c22b2
        try clear c25
        try clear c25b0
        try clear c25b1
        try clear c25b2
        try clear c28
        try clear c29
        try clear c35
        obtain ⟨kq, x73_12, rfl, HA, HJ12, HB⟩ := hcut
        cases kq with
        | zero => exact absurd HA.out (by simp [cayleylaw01_WordConjugacy.j0])
        | succ kj12 =>
          have H := HA.out
          clear HA
          simp only [cayleylaw01_WordConjugacy.j0] at H
          by_cases c36 : x73_12 = true
          · subst c36
            have H1 : (some false) = some r := by rw [if_pos rfl] at H; exact H
            clear H
            have H := H1
            clear H1
            obtain rfl := Option.some.inj H
            go_wp2
            go_ret
            exact ⟨by first | rfl | (simp [errW_none, errW_some] <;> rfl) | (simp [*, errW_none, errW_some] <;> rfl), by repeat (first | (with_reducible first | exact HB.out | apply below_alloc | apply pw_below_drewN | apply below_drew1) | exact HB.out)⟩
          · replace c36 := Bool.eq_false_iff.mpr c36
            subst c36
            have H1 : (if a3.size + a0.size ≤ 9223372036854775807 then ((word_Inverse.f kj12 a3).bind fun t116 => (if (a3 ++ a0).size + t116.size ≤ 9223372036854775807 then ((word_Conjugate.f ((a3 ++ a0) ++ t116) a0).bind fun bt117 => (if bt117.2 = true then (if bt117.1.size + a0.size ≤ 9223372036854775807 then ((word_Inverse.f kj12 bt117.1).bind fun t119 => (if (bt117.1 ++ a0).size + t119.size ≤ 9223372036854775807 then ((word_Reduce.f kj12 ((bt117.1 ++ a0) ++ t119)).bind fun t120 => ((word_Inverse.f kj12 a3).bind fun t121 => (if (a3 ++ a0).size + t121.size ≤ 9223372036854775807 then ((word_Reduce.f kj12 ((a3 ++ a0) ++ t121)).bind fun t122 => (if t120.toList = t122.toList then ((word_Inverse.f kj12 a3).bind fun t123 => (if (a3 ++ a0).size + t123.size ≤ 9223372036854775807 then ((word_Form.f kj12 ((a3 ++ a0) ++ t123)).bind fun t124 => ((word_Form.f kj12 a0).bind fun t125 => (some (t124.toList == t125.toList)))) else (none))) else (some false))) else (none)))) else (none))) else (none)) else (some false))) else (none))) else (none)) = some r := by rw [if_neg (show ¬ (false = true) by decide)] at H; exact H
            clear H
            have H := H1
            clear H1
            by_cases c37 : a3.size + a0.size ≤ 9223372036854775807
            · rw [if_pos c37] at H
              have c37b0 := eq_true c37
              have c37b1 : decide (a3.size + a0.size ≤ 9223372036854775807) = true := decide_eq_true c37
              try have c37b2 : (9223372036854775807 < a3.size + a0.size) = False := eq_false (Nat.not_lt.2 c37)
              replace H := Option.bind_eq_some_iff.mp H
              obtain ⟨t116, A380, H⟩ := H
              replace H : (if (a3 ++ a0).size + t116.size ≤ 9223372036854775807 then ((word_Conjugate.f ((a3 ++ a0) ++ t116) a0).bind fun bt117 => (if bt117.2 = true then (if bt117.1.size + a0.size ≤ 9223372036854775807 then ((word_Inverse.f kj12 bt117.1).bind fun t119 => (if (bt117.1 ++ a0).size + t119.size ≤ 9223372036854775807 then ((word_Reduce.f kj12 ((bt117.1 ++ a0) ++ t119)).bind fun t120 => ((word_Inverse.f kj12 a3).bind fun t121 => (if (a3 ++ a0).size + t121.size ≤ 9223372036854775807 then ((word_Reduce.f kj12 ((a3 ++ a0) ++ t121)).bind fun t122 => (if t120.toList = t122.toList then ((word_Inverse.f kj12 a3).bind fun t123 => (if (a3 ++ a0).size + t123.size ≤ 9223372036854775807 then ((word_Form.f kj12 ((a3 ++ a0) ++ t123)).bind fun t124 => ((word_Form.f kj12 a0).bind fun t125 => (some (t124.toList == t125.toList)))) else (none))) else (some false))) else (none)))) else (none))) else (none)) else (some false))) else (none)) = some r := H
              have A38 := Aside0.mk A380
              clear A380
              by_cases c39 : (a3 ++ a0).size + t116.size ≤ 9223372036854775807
              · rw [if_pos c39] at H
                have c39b0 := eq_true c39
                have c39b1 : decide ((a3 ++ a0).size + t116.size ≤ 9223372036854775807) = true := decide_eq_true c39
                try have c39b2 : (9223372036854775807 < (a3 ++ a0).size + t116.size) = False := eq_false (Nat.not_lt.2 c39)
                try (have c39s := c39; simp [*] at c39s; have c39t := eq_false (Nat.not_lt.2 c39s); clear c39s)
                replace H := Option.bind_eq_some_iff.mp H
                obtain ⟨⟨t117, t118⟩, A400, H⟩ := H
                replace H : (if t118 = true then (if t117.size + a0.size ≤ 9223372036854775807 then ((word_Inverse.f kj12 t117).bind fun t119 => (if (t117 ++ a0).size + t119.size ≤ 9223372036854775807 then ((word_Reduce.f kj12 ((t117 ++ a0) ++ t119)).bind fun t120 => ((word_Inverse.f kj12 a3).bind fun t121 => (if (a3 ++ a0).size + t121.size ≤ 9223372036854775807 then ((word_Reduce.f kj12 ((a3 ++ a0) ++ t121)).bind fun t122 => (if t120.toList = t122.toList then ((word_Inverse.f kj12 a3).bind fun t123 => (if (a3 ++ a0).size + t123.size ≤ 9223372036854775807 then ((word_Form.f kj12 ((a3 ++ a0) ++ t123)).bind fun t124 => ((word_Form.f kj12 a0).bind fun t125 => (some (t124.toList == t125.toList)))) else (none))) else (some false))) else (none)))) else (none))) else (none)) else (some false)) = some r := H
                have A40 := Aside0.mk A400
                clear A400
                by_cases c41 : t118 = true
                · subst c41
                  have H1 : (if t117.size + a0.size ≤ 9223372036854775807 then ((word_Inverse.f kj12 t117).bind fun t119 => (if (t117 ++ a0).size + t119.size ≤ 9223372036854775807 then ((word_Reduce.f kj12 ((t117 ++ a0) ++ t119)).bind fun t120 => ((word_Inverse.f kj12 a3).bind fun t121 => (if (a3 ++ a0).size + t121.size ≤ 9223372036854775807 then ((word_Reduce.f kj12 ((a3 ++ a0) ++ t121)).bind fun t122 => (if t120.toList = t122.toList then ((word_Inverse.f kj12 a3).bind fun t123 => (if (a3 ++ a0).size + t123.size ≤ 9223372036854775807 then ((word_Form.f kj12 ((a3 ++ a0) ++ t123)).bind fun t124 => ((word_Form.f kj12 a0).bind fun t125 => (some (t124.toList == t125.toList)))) else (none))) else (some false))) else (none)))) else (none))) else (none)) = some r := by rw [if_pos rfl] at H; exact H
                  clear H
                  have H := H1
                  clear H1
                  by_cases c42 : t117.size + a0.size ≤ 9223372036854775807
                  · rw [if_pos c42] at H
                    have c42b0 := eq_true c42
                    have c42b1 : decide (t117.size + a0.size ≤ 9223372036854775807) = true := decide_eq_true c42
                    try have c42b2 : (9223372036854775807 < t117.size + a0.size) = False := eq_false (Nat.not_lt.2 c42)
                    replace H := Option.bind_eq_some_iff.mp H
                    obtain ⟨t119, A430, H⟩ := H
                    replace H : (if (t117 ++ a0).size + t119.size ≤ 9223372036854775807 then ((word_Reduce.f kj12 ((t117 ++ a0) ++ t119)).bind fun t120 => ((word_Inverse.f kj12 a3).bind fun t121 => (if (a3 ++ a0).size + t121.size ≤ 9223372036854775807 then ((word_Reduce.f kj12 ((a3 ++ a0) ++ t121)).bind fun t122 => (if t120.toList = t122.toList then ((word_Inverse.f kj12 a3).bind fun t123 => (if (a3 ++ a0).size + t123.size ≤ 9223372036854775807 then ((word_Form.f kj12 ((a3 ++ a0) ++ t123)).bind fun t124 => ((word_Form.f kj12 a0).bind fun t125 => (some (t124.toList == t125.toList)))) else (none))) else (some false))) else (none)))) else (none)) = some r := H
                    have A43 := Aside0.mk A430
                    clear A430
                    by_cases c44 : (t117 ++ a0).size + t119.size ≤ 9223372036854775807
                    · rw [if_pos c44] at H
                      have c44b0 := eq_true c44
                      have c44b1 : decide ((t117 ++ a0).size + t119.size ≤ 9223372036854775807) = true := decide_eq_true c44
                      try have c44b2 : (9223372036854775807 < (t117 ++ a0).size + t119.size) = False := eq_false (Nat.not_lt.2 c44)
                      try (have c44s := c44; simp [*] at c44s; have c44t := eq_false (Nat.not_lt.2 c44s); clear c44s)
                      replace H := Option.bind_eq_some_iff.mp H
                      obtain ⟨t120, A450, H⟩ := H
                      replace H : ((word_Inverse.f kj12 a3).bind fun t121 => (if (a3 ++ a0).size + t121.size ≤ 9223372036854775807 then ((word_Reduce.f kj12 ((a3 ++ a0) ++ t121)).bind fun t122 => (if t120.toList = t122.toList then ((word_Inverse.f kj12 a3).bind fun t123 => (if (a3 ++ a0).size + t123.size ≤ 9223372036854775807 then ((word_Form.f kj12 ((a3 ++ a0) ++ t123)).bind fun t124 => ((word_Form.f kj12 a0).bind fun t125 => (some (t124.toList == t125.toList)))) else (none))) else (some false))) else (none))) = some r := H
                      have A45 := Aside0.mk A450
                      clear A450
                      replace H := Option.bind_eq_some_iff.mp H
                      obtain ⟨t121, A460, H⟩ := H
                      replace H : (if (a3 ++ a0).size + t121.size ≤ 9223372036854775807 then ((word_Reduce.f kj12 ((a3 ++ a0) ++ t121)).bind fun t122 => (if t120.toList = t122.toList then ((word_Inverse.f kj12 a3).bind fun t123 => (if (a3 ++ a0).size + t123.size ≤ 9223372036854775807 then ((word_Form.f kj12 ((a3 ++ a0) ++ t123)).bind fun t124 => ((word_Form.f kj12 a0).bind fun t125 => (some (t124.toList == t125.toList)))) else (none))) else (some false))) else (none)) = some r := H
                      have A46 := Aside0.mk A460
                      clear A460
                      by_cases c47 : (a3 ++ a0).size + t121.size ≤ 9223372036854775807
                      · rw [if_pos c47] at H
                        have c47b0 := eq_true c47
                        have c47b1 : decide ((a3 ++ a0).size + t121.size ≤ 9223372036854775807) = true := decide_eq_true c47
                        try have c47b2 : (9223372036854775807 < (a3 ++ a0).size + t121.size) = False := eq_false (Nat.not_lt.2 c47)
                        try (have c47s := c47; simp [*] at c47s; have c47t := eq_false (Nat.not_lt.2 c47s); clear c47s)
                        replace H := Option.bind_eq_some_iff.mp H
                        obtain ⟨t122, A480, H⟩ := H
                        replace H : (if t120.toList = t122.toList then ((word_Inverse.f kj12 a3).bind fun t123 => (if (a3 ++ a0).size + t123.size ≤ 9223372036854775807 then ((word_Form.f kj12 ((a3 ++ a0) ++ t123)).bind fun t124 => ((word_Form.f kj12 a0).bind fun t125 => (some (t124.toList == t125.toList)))) else (none))) else (some false)) = some r := H
                        have A48 := Aside0.mk A480
                        clear A480
                        by_cases c49 : t120.toList = t122.toList
                        · rw [if_pos c49] at H
                          have c49b0 : (t120.toList == t122.toList) = true := beq_iff_eq.mpr c49
                          have c49b1 : (t120.toList != t122.toList) = false := bne_eq_false_iff_eq.mpr c49
                          clear c49
                          replace H := Option.bind_eq_some_iff.mp H
                          obtain ⟨t123, A500, H⟩ := H
                          replace H : (if (a3 ++ a0).size + t123.size ≤ 9223372036854775807 then ((word_Form.f kj12 ((a3 ++ a0) ++ t123)).bind fun t124 => ((word_Form.f kj12 a0).bind fun t125 => (some (t124.toList == t125.toList)))) else (none)) = some r := H
                          have A50 := Aside0.mk A500
                          clear A500
                          by_cases c51 : (a3 ++ a0).size + t123.size ≤ 9223372036854775807
                          · rw [if_pos c51] at H
                            have c51b0 := eq_true c51
                            have c51b1 : decide ((a3 ++ a0).size + t123.size ≤ 9223372036854775807) = true := decide_eq_true c51
                            try have c51b2 : (9223372036854775807 < (a3 ++ a0).size + t123.size) = False := eq_false (Nat.not_lt.2 c51)
                            try (have c51s := c51; simp [*] at c51s; have c51t := eq_false (Nat.not_lt.2 c51s); clear c51s)
                            replace H := Option.bind_eq_some_iff.mp H
                            obtain ⟨t124, A520, H⟩ := H
                            replace H : ((word_Form.f kj12 a0).bind fun t125 => (some (t124.toList == t125.toList))) = some r := H
                            have A52 := Aside0.mk A520
                            clear A520
                            replace H := Option.bind_eq_some_iff.mp H
                            obtain ⟨t125, A530, H⟩ := H
                            replace H : (some (t124.toList == t125.toList)) = some r := H
                            have A53 := Aside0.mk A530
                            clear A530
                            obtain rfl := Option.some.inj H
                            obtain rfl : t121 = t123 := Option.some.inj (A46.out.symm.trans A50.out)
                            go_wp2_with (first | ((with_reducible refine gate_callee (f := 19) rfl ?_); refine goesL_ (some 79) rfl rfl Tryz.func19 (by kernel_rfl) rfl #[.string a3] rfl (by (try simp only [List.map_toArray, List.map_cons, List.map_nil]); first | done | rfl | (simp only [List.length_drop, List.length_take]; rfl)) ?_; (with_reducible refine (word_Inverse.calls kj12 a3 t116 _ A38.out (by first | exact hG | exact GL.step hG (by repeat (first | (with_reducible first | exact HB.out | apply below_alloc | apply pw_below_drewN | apply below_drew1) | exact HB.out)))).mono ?_); rintro e w54 ⟨rfl, hb⟩; refine ⟨_, rfl, ?_⟩; have n0_ := Aside0.mk (below_step (by repeat (first | (with_reducible first | exact HB.out | apply below_alloc | apply pw_below_drewN | apply below_drew1) | exact HB.out)) hb); clear HB; have HB := n0_; clear n0_; (try clear hb); (try clear hb2); (try clear hk); (try clear hi)) | ((with_reducible refine gate_callee (f := 35) rfl ?_); refine goesL_ (some 82) rfl rfl Tryz.func35 (by kernel_rfl) rfl #[.string ((a3 ++ a0) ++ t116), .string a0] rfl (by (try simp only [List.map_toArray, List.map_cons, List.map_nil]); first | done | rfl | (simp only [List.length_drop, List.length_take]; rfl)) ?_; (with_reducible refine (word_Conjugate.calls ((a3 ++ a0) ++ t116) a0 t117 true _ A40.out (by first | exact hG | exact GL.step hG (by repeat (first | (with_reducible first | exact HB.out | apply below_alloc | apply pw_below_drewN | apply below_drew1) | exact HB.out)))).mono ?_); rintro e w55 ⟨rfl, hb⟩; refine ⟨_, rfl, ?_⟩; have n0_ := Aside0.mk (below_step (by repeat (first | (with_reducible first | exact HB.out | apply below_alloc | apply pw_below_drewN | apply below_drew1) | exact HB.out)) hb); clear HB; have HB := n0_; clear n0_; (try clear hb); (try clear hb2); (try clear hk); (try clear hi)) | (go_at_call 19; (with_reducible refine (word_Inverse.calls kj12 t117 t119 _ A43.out (by first | exact hG | exact GL.step hG (by repeat (first | (with_reducible first | exact HB.out | apply below_alloc | apply pw_below_drewN | apply below_drew1) | exact HB.out)))).mono ?_); rintro e w56 ⟨rfl, hb⟩; have n0_ := Aside0.mk (below_step (by repeat (first | (with_reducible first | exact HB.out | apply below_alloc | apply pw_below_drewN | apply below_drew1) | exact HB.out)) hb); clear HB; have HB := n0_; clear n0_; (try clear hb); (try clear hb2); (try clear hk); (try clear hi)) | (go_at_call 21; (with_reducible refine (word_Reduce.calls kj12 ((t117 ++ a0) ++ t119) t120 _ A45.out (by first | exact hG | exact GL.step hG (by repeat (first | (with_reducible first | exact HB.out | apply below_alloc | apply pw_below_drewN | apply below_drew1) | exact HB.out)))).mono ?_); rintro e w57 ⟨rfl, hb⟩; have n0_ := Aside0.mk (below_step (by repeat (first | (with_reducible first | exact HB.out | apply below_alloc | apply pw_below_drewN | apply below_drew1) | exact HB.out)) hb); clear HB; have HB := n0_; clear n0_; (try clear hb); (try clear hb2); (try clear hk); (try clear hi)) | (go_at_call 19; (with_reducible refine (word_Inverse.calls kj12 a3 t121 _ A46.out (by first | exact hG | exact GL.step hG (by repeat (first | (with_reducible first | exact HB.out | apply below_alloc | apply pw_below_drewN | apply below_drew1) | exact HB.out)))).mono ?_); rintro e w58 ⟨rfl, hb⟩; have n0_ := Aside0.mk (below_step (by repeat (first | (with_reducible first | exact HB.out | apply below_alloc | apply pw_below_drewN | apply below_drew1) | exact HB.out)) hb); clear HB; have HB := n0_; clear n0_; (try clear hb); (try clear hb2); (try clear hk); (try clear hi)) | (go_at_call 21; (with_reducible refine (word_Reduce.calls kj12 ((a3 ++ a0) ++ t121) t122 _ A48.out (by first | exact hG | exact GL.step hG (by repeat (first | (with_reducible first | exact HB.out | apply below_alloc | apply pw_below_drewN | apply below_drew1) | exact HB.out)))).mono ?_); rintro e w59 ⟨rfl, hb⟩; have n0_ := Aside0.mk (below_step (by repeat (first | (with_reducible first | exact HB.out | apply below_alloc | apply pw_below_drewN | apply below_drew1) | exact HB.out)) hb); clear HB; have HB := n0_; clear n0_; (try clear hb); (try clear hb2); (try clear hk); (try clear hi)) | (go_at_call 19; (with_reducible refine (word_Inverse.calls kj12 a3 t121 _ A50.out (by first | exact hG | exact GL.step hG (by repeat (first | (with_reducible first | exact HB.out | apply below_alloc | apply pw_below_drewN | apply below_drew1) | exact HB.out)))).mono ?_); rintro e w60 ⟨rfl, hb⟩; have n0_ := Aside0.mk (below_step (by repeat (first | (with_reducible first | exact HB.out | apply below_alloc | apply pw_below_drewN | apply below_drew1) | exact HB.out)) hb); clear HB; have HB := n0_; clear n0_; (try clear hb); (try clear hb2); (try clear hk); (try clear hi)) | (go_at_call 31; (with_reducible refine (word_Form.calls kj12 ((a3 ++ a0) ++ t121) t124 _ A52.out (by first | exact hG | exact GL.step hG (by repeat (first | (with_reducible first | exact HB.out | apply below_alloc | apply pw_below_drewN | apply below_drew1) | exact HB.out)))).mono ?_); rintro e w61 ⟨rfl, hb⟩; have n0_ := Aside0.mk (below_step (by repeat (first | (with_reducible first | exact HB.out | apply below_alloc | apply pw_below_drewN | apply below_drew1) | exact HB.out)) hb); clear HB; have HB := n0_; clear n0_; (try clear hb); (try clear hb2); (try clear hk); (try clear hi)) | (go_at_call 31; (with_reducible refine (word_Form.calls kj12 a0 t125 _ A53.out (by first | exact hG | exact GL.step hG (by repeat (first | (with_reducible first | exact HB.out | apply below_alloc | apply pw_below_drewN | apply below_drew1) | exact HB.out)))).mono ?_); rintro e w62 ⟨rfl, hb⟩; have n0_ := Aside0.mk (below_step (by repeat (first | (with_reducible first | exact HB.out | apply below_alloc | apply pw_below_drewN | apply below_drew1) | exact HB.out)) hb); clear HB; have HB := n0_; clear n0_; (try clear hb); (try clear hb2); (try clear hk); (try clear hi)))
                            go_ret
                            exact ⟨by first | rfl | (simp [errW_none, errW_some] <;> rfl) | (simp [*, errW_none, errW_some] <;> rfl), by repeat (first | (with_reducible first | exact HB.out | apply below_alloc | apply pw_below_drewN | apply below_drew1) | exact HB.out)⟩
                          · rw [if_neg c51] at H
                            exact absurd H (by simp)
                        · rw [if_neg c49] at H
                          have c49b0 : (t120.toList == t122.toList) = false := beq_eq_false_iff_ne.mpr c49
                          have c49b1 : (t120.toList != t122.toList) = true := bne_iff_ne.mpr c49
                          obtain rfl := Option.some.inj H
                          go_wp2_with (first | ((with_reducible refine gate_callee (f := 19) rfl ?_); refine goesL_ (some 79) rfl rfl Tryz.func19 (by kernel_rfl) rfl #[.string a3] rfl (by (try simp only [List.map_toArray, List.map_cons, List.map_nil]); first | done | rfl | (simp only [List.length_drop, List.length_take]; rfl)) ?_; (with_reducible refine (word_Inverse.calls kj12 a3 t116 _ A38.out (by first | exact hG | exact GL.step hG (by repeat (first | (with_reducible first | exact HB.out | apply below_alloc | apply pw_below_drewN | apply below_drew1) | exact HB.out)))).mono ?_); rintro e w63 ⟨rfl, hb⟩; refine ⟨_, rfl, ?_⟩; have n0_ := Aside0.mk (below_step (by repeat (first | (with_reducible first | exact HB.out | apply below_alloc | apply pw_below_drewN | apply below_drew1) | exact HB.out)) hb); clear HB; have HB := n0_; clear n0_; (try clear hb); (try clear hb2); (try clear hk); (try clear hi)) | ((with_reducible refine gate_callee (f := 35) rfl ?_); refine goesL_ (some 82) rfl rfl Tryz.func35 (by kernel_rfl) rfl #[.string ((a3 ++ a0) ++ t116), .string a0] rfl (by (try simp only [List.map_toArray, List.map_cons, List.map_nil]); first | done | rfl | (simp only [List.length_drop, List.length_take]; rfl)) ?_; (with_reducible refine (word_Conjugate.calls ((a3 ++ a0) ++ t116) a0 t117 true _ A40.out (by first | exact hG | exact GL.step hG (by repeat (first | (with_reducible first | exact HB.out | apply below_alloc | apply pw_below_drewN | apply below_drew1) | exact HB.out)))).mono ?_); rintro e w64 ⟨rfl, hb⟩; refine ⟨_, rfl, ?_⟩; have n0_ := Aside0.mk (below_step (by repeat (first | (with_reducible first | exact HB.out | apply below_alloc | apply pw_below_drewN | apply below_drew1) | exact HB.out)) hb); clear HB; have HB := n0_; clear n0_; (try clear hb); (try clear hb2); (try clear hk); (try clear hi)) | (go_at_call 19; (with_reducible refine (word_Inverse.calls kj12 t117 t119 _ A43.out (by first | exact hG | exact GL.step hG (by repeat (first | (with_reducible first | exact HB.out | apply below_alloc | apply pw_below_drewN | apply below_drew1) | exact HB.out)))).mono ?_); rintro e w65 ⟨rfl, hb⟩; have n0_ := Aside0.mk (below_step (by repeat (first | (with_reducible first | exact HB.out | apply below_alloc | apply pw_below_drewN | apply below_drew1) | exact HB.out)) hb); clear HB; have HB := n0_; clear n0_; (try clear hb); (try clear hb2); (try clear hk); (try clear hi)) | (go_at_call 21; (with_reducible refine (word_Reduce.calls kj12 ((t117 ++ a0) ++ t119) t120 _ A45.out (by first | exact hG | exact GL.step hG (by repeat (first | (with_reducible first | exact HB.out | apply below_alloc | apply pw_below_drewN | apply below_drew1) | exact HB.out)))).mono ?_); rintro e w66 ⟨rfl, hb⟩; have n0_ := Aside0.mk (below_step (by repeat (first | (with_reducible first | exact HB.out | apply below_alloc | apply pw_below_drewN | apply below_drew1) | exact HB.out)) hb); clear HB; have HB := n0_; clear n0_; (try clear hb); (try clear hb2); (try clear hk); (try clear hi)) | (go_at_call 19; (with_reducible refine (word_Inverse.calls kj12 a3 t121 _ A46.out (by first | exact hG | exact GL.step hG (by repeat (first | (with_reducible first | exact HB.out | apply below_alloc | apply pw_below_drewN | apply below_drew1) | exact HB.out)))).mono ?_); rintro e w67 ⟨rfl, hb⟩; have n0_ := Aside0.mk (below_step (by repeat (first | (with_reducible first | exact HB.out | apply below_alloc | apply pw_below_drewN | apply below_drew1) | exact HB.out)) hb); clear HB; have HB := n0_; clear n0_; (try clear hb); (try clear hb2); (try clear hk); (try clear hi)) | (go_at_call 21; (with_reducible refine (word_Reduce.calls kj12 ((a3 ++ a0) ++ t121) t122 _ A48.out (by first | exact hG | exact GL.step hG (by repeat (first | (with_reducible first | exact HB.out | apply below_alloc | apply pw_below_drewN | apply below_drew1) | exact HB.out)))).mono ?_); rintro e w68 ⟨rfl, hb⟩; have n0_ := Aside0.mk (below_step (by repeat (first | (with_reducible first | exact HB.out | apply below_alloc | apply pw_below_drewN | apply below_drew1) | exact HB.out)) hb); clear HB; have HB := n0_; clear n0_; (try clear hb); (try clear hb2); (try clear hk); (try clear hi)))
                          go_ret
                          exact ⟨by first | rfl | (simp [errW_none, errW_some] <;> rfl) | (simp [*, errW_none, errW_some] <;> rfl), by repeat (first | (with_reducible first | exact HB.out | apply below_alloc | apply pw_below_drewN | apply below_drew1) | exact HB.out)⟩
                      · rw [if_neg c47] at H
                        exact absurd H (by simp)
                    · rw [if_neg c44] at H
                      exact absurd H (by simp)
                  · rw [if_neg c42] at H
                    exact absurd H (by simp)
                · replace c41 := Bool.eq_false_iff.mpr c41
                  subst c41
                  have H1 : (some false) = some r := by rw [if_neg (show ¬ (false = true) by decide)] at H; exact H
                  clear H
                  have H := H1
                  clear H1
                  obtain rfl := Option.some.inj H
                  go_wp2_with (first | ((with_reducible refine gate_callee (f := 19) rfl ?_); refine goesL_ (some 79) rfl rfl Tryz.func19 (by kernel_rfl) rfl #[.string a3] rfl (by (try simp only [List.map_toArray, List.map_cons, List.map_nil]); first | done | rfl | (simp only [List.length_drop, List.length_take]; rfl)) ?_; (with_reducible refine (word_Inverse.calls kj12 a3 t116 _ A38.out (by first | exact hG | exact GL.step hG (by repeat (first | (with_reducible first | exact HB.out | apply below_alloc | apply pw_below_drewN | apply below_drew1) | exact HB.out)))).mono ?_); rintro e w69 ⟨rfl, hb⟩; refine ⟨_, rfl, ?_⟩; have n0_ := Aside0.mk (below_step (by repeat (first | (with_reducible first | exact HB.out | apply below_alloc | apply pw_below_drewN | apply below_drew1) | exact HB.out)) hb); clear HB; have HB := n0_; clear n0_; (try clear hb); (try clear hb2); (try clear hk); (try clear hi)) | ((with_reducible refine gate_callee (f := 35) rfl ?_); refine goesL_ (some 82) rfl rfl Tryz.func35 (by kernel_rfl) rfl #[.string ((a3 ++ a0) ++ t116), .string a0] rfl (by (try simp only [List.map_toArray, List.map_cons, List.map_nil]); first | done | rfl | (simp only [List.length_drop, List.length_take]; rfl)) ?_; (with_reducible refine (word_Conjugate.calls ((a3 ++ a0) ++ t116) a0 t117 false _ A40.out (by first | exact hG | exact GL.step hG (by repeat (first | (with_reducible first | exact HB.out | apply below_alloc | apply pw_below_drewN | apply below_drew1) | exact HB.out)))).mono ?_); rintro e w70 ⟨rfl, hb⟩; refine ⟨_, rfl, ?_⟩; have n0_ := Aside0.mk (below_step (by repeat (first | (with_reducible first | exact HB.out | apply below_alloc | apply pw_below_drewN | apply below_drew1) | exact HB.out)) hb); clear HB; have HB := n0_; clear n0_; (try clear hb); (try clear hb2); (try clear hk); (try clear hi)))
                  go_ret
                  exact ⟨by first | rfl | (simp [errW_none, errW_some] <;> rfl) | (simp [*, errW_none, errW_some] <;> rfl), by repeat (first | (with_reducible first | exact HB.out | apply below_alloc | apply pw_below_drewN | apply below_drew1) | exact HB.out)⟩
              · rw [if_neg c39] at H
                exact absurd H (by simp)
            · rw [if_neg c37] at H
              exact absurd H (by simp)
    · replace c8 := Bool.eq_false_iff.mpr c8
      subst c8
      have H1 : (some true) = some r := by rw [if_neg (show ¬ (false = true) by decide)] at H; exact H
      clear H
      have H := H1
      clear H1
      obtain rfl := Option.some.inj H
      go_enter Tryz.func8, Tryz.ntmps8
      go_wp2_with (first | ((with_reducible refine gate_callee (f := 11) rfl ?_); refine goesL_ (some 19) rfl rfl Tryz.func11 (by kernel_rfl) rfl #[] rfl (by (try simp only [List.map_toArray, List.map_cons, List.map_nil]); first | done | rfl | (simp only [List.length_drop, List.length_take]; rfl)) ?_; (with_reducible refine (cayleylaw01_sane.calls  true _ A5.out (by first | exact hG | exact GL.step hG (by repeat (first | (with_reducible first | exact HB.out | apply below_alloc | apply pw_below_drewN | apply below_drew1) | exact HB.out)))).mono ?_); rintro e w71 ⟨rfl, hb⟩; refine ⟨_, rfl, ?_⟩; have n0_ := Aside0.mk (below_step (by repeat (first | (with_reducible first | exact HB.out | apply below_alloc | apply pw_below_drewN | apply below_drew1) | exact HB.out)) hb); clear HB; have HB := n0_; clear n0_; (try clear hb); (try clear hb2); (try clear hk); (try clear hi)) | ((with_reducible refine gate_dst (N := 25) rfl ?_); refine Kd.R_lit Kd.string _ 9 ?hg (N := 25) ?hd (xs := ([a0, a1, a2, a3] : List ByteArray)) (inner := [.string a0, .string a1, .string a2, .string a3]) (ok := fun _ => True) (okp := fun _ => True) ?hr ?hp (fun _ hk => hk) trivial (Below.refl _ _) (Nat.le_refl _) (by simp) ?_; (case hd => rfl); (case hg => rfl); (case hr => first | (go_simp; done) | (go_simp; rfl)); (case hp => exact (Reps.one (show Kd.M Kd.string _ _ _ a0 [.string a0] from rfl) (Reps.one (show Kd.M Kd.string _ _ _ a1 [.string a1] from rfl) (Reps.one (show Kd.M Kd.string _ _ _ a2 [.string a2] from rfl) (Reps.one (show Kd.M Kd.string _ _ _ a3 [.string a3] from rfl) (Reps.none _ _)))))); intro v103 w72 ho73 hb hg_ hnew_; clear hg_ hnew_; (first | rw [← Ny102.out] at ho73 | (simp only [Int.reduceToNat] at ho73; rw [← Ny102.out] at ho73)); have n0_ := Aside0.mk (Kd.R_lower ho73 (below_size (by repeat (first | (with_reducible first | exact HB.out | apply below_alloc | apply pw_below_drewN | apply below_drew1) | exact HB.out)))); have n1_ := Aside0.mk (below_step (by repeat (first | (with_reducible first | exact HB.out | apply below_alloc | apply pw_below_drewN | apply below_drew1) | exact HB.out)) hb); clear HB; have HO104 := n0_; have HB := n1_; clear n0_ n1_; clear hb ho73; obtain ⟨Ao74, co74, eo74⟩ := Kd.R_slice HO104.out; subst eo74) | ((with_reducible refine gate_callee (f := 40) rfl ?_); refine goesL_ (some 26) rfl rfl Tryz.func40 (by kernel_rfl) rfl #[.slice Ao74 y102.length co74] rfl (by (try simp only [List.map_toArray, List.map_cons, List.map_nil]); first | done | rfl | (simp only [List.length_drop, List.length_take]; rfl)) ?_; (with_reducible refine (cayleylaw01_words.calls k _ _ y102 false _ ?side1 ?side2 A7.out).mono ?_); (case side1 => repeat (first | exact (Kd.R_reads' HO104.out).2.2 | (with_reducible refine Kd.C_alloc ?_ _) | (with_reducible refine Kd.C_drewN ?_ _) | (with_reducible refine Kd.C_drew ?_))); (case side2 => exact (Kd.R_reads' HO104.out).2.1); rintro e w' ⟨rfl, ⟨nd, rfl⟩⟩; refine ⟨_, rfl, ?_⟩))
      go_ret
      exact ⟨by first | rfl | (simp [errW_none, errW_some] <;> rfl) | (simp [*, errW_none, errW_some] <;> rfl), by repeat (first | (with_reducible first | exact HB.out | apply below_alloc | apply pw_below_drewN | apply below_drew1) | exact HB.out)⟩
  · replace c6 := Bool.eq_false_iff.mpr c6
    subst c6
    have H1 : (some false) = some r := by rw [if_neg (show ¬ (false = true) by decide)] at H; exact H
    clear H
    have H := H1
    clear H1
    obtain rfl := Option.some.inj H
    go_enter Tryz.func8, Tryz.ntmps8
    go_wp2_with (first | ((with_reducible refine gate_callee (f := 11) rfl ?_); refine goesL_ (some 19) rfl rfl Tryz.func11 (by kernel_rfl) rfl #[] rfl (by (try simp only [List.map_toArray, List.map_cons, List.map_nil]); first | done | rfl | (simp only [List.length_drop, List.length_take]; rfl)) ?_; (with_reducible refine (cayleylaw01_sane.calls  false _ A5.out (by first | exact hG | exact GL.step hG (by repeat (first | (with_reducible first | exact HB.out | apply below_alloc | apply pw_below_drewN | apply below_drew1) | exact HB.out)))).mono ?_); rintro e w75 ⟨rfl, hb⟩; refine ⟨_, rfl, ?_⟩; have n0_ := Aside0.mk (below_step (by repeat (first | (with_reducible first | exact HB.out | apply below_alloc | apply pw_below_drewN | apply below_drew1) | exact HB.out)) hb); clear HB; have HB := n0_; clear n0_; (try clear hb); (try clear hb2); (try clear hk); (try clear hi)))
    go_ret
    exact ⟨by first | rfl | (simp [errW_none, errW_some] <;> rfl) | (simp [*, errW_none, errW_some] <;> rfl), by repeat (first | (with_reducible first | exact HB.out | apply below_alloc | apply pw_below_drewN | apply below_drew1) | exact HB.out)⟩

end Go.Proofs.YthiehmogphknlaaGreatDoor.PJ
