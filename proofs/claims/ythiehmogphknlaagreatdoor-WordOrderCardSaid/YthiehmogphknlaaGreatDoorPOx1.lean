/- Printed by a program of this session (wip/ext.py) out of the translation, after the kit's print. Not trusted: Lean checks it. -/
import Derived.Test.YthiehmogphknlaaGreatDoorPOx0
namespace Go.Proofs.YthiehmogphknlaaGreatDoor.PO
open Go.Proofs.YthiehmogphknlaaGreatDoor.G Go.Proofs.YthiehmogphknlaaGreatDoor.PA Go.RowKit Go.Proofs.YthiehmogphknlaaGreatDoorW.PrintWords Go.Proofs.YthiehmogphknlaaGreatDoorW.PrintLast Go.Proofs.YthiehmogphknlaaGreatDoorW.PrintMore
attribute [local go_sem] max2_int min2_int max_two min_two max_three min_three max_four min_four   -- for this text's walks alone
set_option linter.unusedVariables false
set_option linter.unusedSimpArgs false

/-! ### cayleylaw01_WordOrder: function 9 -/
def cayleylaw01_WordOrder.j0 : Nat → ByteArray → ByteArray → ByteArray → ByteArray → Int → Bool → Option (Bool)
  | 0, _, _, _, _, _, _ => none
  | k + 1, x0, x1, x3, x4, x11, x64 => if x64 = true then (some false) else (if x3.size + x0.size ≤ 9223372036854775807 then (if (x3 ++ x0).size + x4.size ≤ 9223372036854775807 then (if x3.size + x1.size ≤ 9223372036854775807 then (if (x3 ++ x1).size + x4.size ≤ 9223372036854775807 then ((word_Compare.f k ((x3 ++ x0) ++ x4) ((x3 ++ x1) ++ x4)).bind fun t110 => (if t110 = x11 then ((word_Reduce.f k x0).bind fun t111 => ((word_Compare.f k t111 x0).bind fun t112 => (some (decide (t112 ≤ 0))))) else (some false))) else (none)) else (none)) else (none)) else (none))
def cayleylaw01_WordOrder.f (k : Nat) (a0 : ByteArray) (a1 : ByteArray) (a2 : ByteArray) (a3 : ByteArray) (a4 : ByteArray) : Option (Bool) := (cayleylaw01_sane.f).bind fun t101 => (if t101 = true then ((cayleylaw01_words.f k (([a0, a1, a2, a3, a4] : List ByteArray))).bind fun t105 => (if t105 = true then ((word_Compare.f k a0 a1).bind fun t106 => ((word_Compare.f k a1 a2).bind fun t107 => ((word_Compare.f k a1 a0).bind fun t108 => (if t106 = (wrap64 (-t108)) then (if ((t106 == 0) != (a0.toList == a1.toList)) = true then (cayleylaw01_WordOrder.j0 k a0 a1 a3 a4 t106 true) else (if t106 < (-1) then (cayleylaw01_WordOrder.j0 k a0 a1 a3 a4 t106 true) else (if t106 > 1 then (cayleylaw01_WordOrder.j0 k a0 a1 a3 a4 t106 true) else (if t106 ≤ 0 then (if t107 ≤ 0 then ((word_Compare.f k a0 a2).bind fun t109 => (cayleylaw01_WordOrder.j0 k a0 a1 a3 a4 t106 (decide (t109 > 0)))) else (cayleylaw01_WordOrder.j0 k a0 a1 a3 a4 t106 false)) else (cayleylaw01_WordOrder.j0 k a0 a1 a3 a4 t106 false))))) else (cayleylaw01_WordOrder.j0 k a0 a1 a3 a4 t106 true))))) else (some true))) else (some false))
theorem cayleylaw01_WordOrder.mono_l : ∀ k, (∀ y0 y1 y2 y3 y4 y5, LeO (cayleylaw01_WordOrder.j0 k y0 y1 y2 y3 y4 y5) (cayleylaw01_WordOrder.j0 (k + 1) y0 y1 y2 y3 y4 y5))
  | 0 => fun _ _ _ _ _ _ r h => by simp [cayleylaw01_WordOrder.j0] at h
  | k + 1 => by
    have ih0 := cayleylaw01_WordOrder.mono_l k
    · intro y0 y1 y2 y3 y4 y5
      unfold cayleylaw01_WordOrder.j0
      repeat' first
      | (with_reducible exact ih0 _ _ _ _ _ _)
      | (with_reducible exact cayleylaw01_words.mono _ _)
      | (with_reducible exact word_Compare.mono _ _ _)
      | (with_reducible exact word_Reduce.mono _ _)
      | (with_reducible exact LeO.refl _)
      | (with_reducible exact LeO.none _)
      | (with_reducible refine LeO.ite ?_ ?_)
      | (with_reducible refine LeO.bind ?_ (fun _ => ?_))
      | exact ih0 _ _ _ _ _ _
      | exact cayleylaw01_words.mono _ _
      | exact word_Compare.mono _ _ _
      | exact word_Reduce.mono _ _
      | exact LeO.none _
      | refine LeO.ite ?_ ?_
      | refine LeO.bind ?_ (fun _ => ?_)
theorem cayleylaw01_WordOrder.mono : ∀ a0 a1 a2 a3 a4 k, LeO (cayleylaw01_WordOrder.f k a0 a1 a2 a3 a4) (cayleylaw01_WordOrder.f (k + 1) a0 a1 a2 a3 a4) := by
  intro a0 a1 a2 a3 a4 k
  have ih0 := cayleylaw01_WordOrder.mono_l k
  unfold cayleylaw01_WordOrder.f
  repeat' first
      | (with_reducible exact ih0 _ _ _ _ _ _)
      | (with_reducible exact cayleylaw01_words.mono _ _)
      | (with_reducible exact word_Compare.mono _ _ _)
      | (with_reducible exact word_Reduce.mono _ _)
      | (with_reducible exact LeO.refl _)
      | (with_reducible exact LeO.none _)
      | (with_reducible refine LeO.ite ?_ ?_)
      | (with_reducible refine LeO.bind ?_ (fun _ => ?_))
      | exact ih0 _ _ _ _ _ _
      | exact cayleylaw01_words.mono _ _
      | exact word_Compare.mono _ _ _
      | exact word_Reduce.mono _ _
      | exact LeO.none _
      | refine LeO.ite ?_ ?_
      | refine LeO.bind ?_ (fun _ => ?_)
set_option maxHeartbeats 8000000 in
set_option maxRecDepth 100000 in
theorem cayleylaw01_WordOrder.calls (k : Nat) (a0 : ByteArray) (a1 : ByteArray) (a2 : ByteArray) (a3 : ByteArray) (a4 : ByteArray) (r : Bool) (w : World) (h : cayleylaw01_WordOrder.f k a0 a1 a2 a3 a4 = some r) (hG : GL w) :
    Calls Tryz.prog 9 #[.string a0, .string a1, .string a2, .string a3, .string a4] w fun e w' => e = .returned (.bool r) ∧ Below w.heap.size w w' := by
  have HB := Aside0.mk (Below.refl w.heap.size w)
  have H : ((cayleylaw01_sane.f).bind fun t101 => (if t101 = true then ((cayleylaw01_words.f k (([a0, a1, a2, a3, a4] : List ByteArray))).bind fun t105 => (if t105 = true then ((word_Compare.f k a0 a1).bind fun t106 => ((word_Compare.f k a1 a2).bind fun t107 => ((word_Compare.f k a1 a0).bind fun t108 => (if t106 = (wrap64 (-t108)) then (if ((t106 == 0) != (a0.toList == a1.toList)) = true then (cayleylaw01_WordOrder.j0 k a0 a1 a3 a4 t106 true) else (if t106 < (-1) then (cayleylaw01_WordOrder.j0 k a0 a1 a3 a4 t106 true) else (if t106 > 1 then (cayleylaw01_WordOrder.j0 k a0 a1 a3 a4 t106 true) else (if t106 ≤ 0 then (if t107 ≤ 0 then ((word_Compare.f k a0 a2).bind fun t109 => (cayleylaw01_WordOrder.j0 k a0 a1 a3 a4 t106 (decide (t109 > 0)))) else (cayleylaw01_WordOrder.j0 k a0 a1 a3 a4 t106 false)) else (cayleylaw01_WordOrder.j0 k a0 a1 a3 a4 t106 false))))) else (cayleylaw01_WordOrder.j0 k a0 a1 a3 a4 t106 true))))) else (some true))) else (some false))) = some r := h
  clear h
  replace H := Option.bind_eq_some_iff.mp H
  obtain ⟨t101, A60, H⟩ := H
  replace H : (if t101 = true then ((cayleylaw01_words.f k (([a0, a1, a2, a3, a4] : List ByteArray))).bind fun t105 => (if t105 = true then ((word_Compare.f k a0 a1).bind fun t106 => ((word_Compare.f k a1 a2).bind fun t107 => ((word_Compare.f k a1 a0).bind fun t108 => (if t106 = (wrap64 (-t108)) then (if ((t106 == 0) != (a0.toList == a1.toList)) = true then (cayleylaw01_WordOrder.j0 k a0 a1 a3 a4 t106 true) else (if t106 < (-1) then (cayleylaw01_WordOrder.j0 k a0 a1 a3 a4 t106 true) else (if t106 > 1 then (cayleylaw01_WordOrder.j0 k a0 a1 a3 a4 t106 true) else (if t106 ≤ 0 then (if t107 ≤ 0 then ((word_Compare.f k a0 a2).bind fun t109 => (cayleylaw01_WordOrder.j0 k a0 a1 a3 a4 t106 (decide (t109 > 0)))) else (cayleylaw01_WordOrder.j0 k a0 a1 a3 a4 t106 false)) else (cayleylaw01_WordOrder.j0 k a0 a1 a3 a4 t106 false))))) else (cayleylaw01_WordOrder.j0 k a0 a1 a3 a4 t106 true))))) else (some true))) else (some false)) = some r := H
  have A6 := Aside0.mk A60
  clear A60
  by_cases c7 : t101 = true
  · subst c7
    have H1 : ((cayleylaw01_words.f k (([a0, a1, a2, a3, a4] : List ByteArray))).bind fun t105 => (if t105 = true then ((word_Compare.f k a0 a1).bind fun t106 => ((word_Compare.f k a1 a2).bind fun t107 => ((word_Compare.f k a1 a0).bind fun t108 => (if t106 = (wrap64 (-t108)) then (if ((t106 == 0) != (a0.toList == a1.toList)) = true then (cayleylaw01_WordOrder.j0 k a0 a1 a3 a4 t106 true) else (if t106 < (-1) then (cayleylaw01_WordOrder.j0 k a0 a1 a3 a4 t106 true) else (if t106 > 1 then (cayleylaw01_WordOrder.j0 k a0 a1 a3 a4 t106 true) else (if t106 ≤ 0 then (if t107 ≤ 0 then ((word_Compare.f k a0 a2).bind fun t109 => (cayleylaw01_WordOrder.j0 k a0 a1 a3 a4 t106 (decide (t109 > 0)))) else (cayleylaw01_WordOrder.j0 k a0 a1 a3 a4 t106 false)) else (cayleylaw01_WordOrder.j0 k a0 a1 a3 a4 t106 false))))) else (cayleylaw01_WordOrder.j0 k a0 a1 a3 a4 t106 true))))) else (some true))) = some r := by rw [if_pos rfl] at H; exact H
    clear H
    have H := H1
    clear H1
    obtain ⟨y102, hy102⟩ : ∃ y_ : List ByteArray, y_ = (([a0, a1, a2, a3, a4] : List ByteArray)) := ⟨_, rfl⟩
    replace H : ((cayleylaw01_words.f k y102).bind fun t105 => (if t105 = true then ((word_Compare.f k a0 a1).bind fun t106 => ((word_Compare.f k a1 a2).bind fun t107 => ((word_Compare.f k a1 a0).bind fun t108 => (if t106 = (wrap64 (-t108)) then (if ((t106 == 0) != (a0.toList == a1.toList)) = true then (cayleylaw01_WordOrder.j0 k a0 a1 a3 a4 t106 true) else (if t106 < (-1) then (cayleylaw01_WordOrder.j0 k a0 a1 a3 a4 t106 true) else (if t106 > 1 then (cayleylaw01_WordOrder.j0 k a0 a1 a3 a4 t106 true) else (if t106 ≤ 0 then (if t107 ≤ 0 then ((word_Compare.f k a0 a2).bind fun t109 => (cayleylaw01_WordOrder.j0 k a0 a1 a3 a4 t106 (decide (t109 > 0)))) else (cayleylaw01_WordOrder.j0 k a0 a1 a3 a4 t106 false)) else (cayleylaw01_WordOrder.j0 k a0 a1 a3 a4 t106 false))))) else (cayleylaw01_WordOrder.j0 k a0 a1 a3 a4 t106 true))))) else (some true))) = some r := by first | (rw [hy102]; with_reducible exact H) | (have H2_ := (Option.bind_some _ _).symm.trans H; rw [hy102]; with_reducible exact H2_) | (have H2_ := (Option.bind_some _ _).symm.trans H; with_reducible exact H2_) | with_reducible exact H | (rw [hy102]; exact H) | exact H
    have Ny102 := Aside0.mk hy102
    clear hy102
    replace H := Option.bind_eq_some_iff.mp H
    obtain ⟨t105, A80, H⟩ := H
    replace H : (if t105 = true then ((word_Compare.f k a0 a1).bind fun t106 => ((word_Compare.f k a1 a2).bind fun t107 => ((word_Compare.f k a1 a0).bind fun t108 => (if t106 = (wrap64 (-t108)) then (if ((t106 == 0) != (a0.toList == a1.toList)) = true then (cayleylaw01_WordOrder.j0 k a0 a1 a3 a4 t106 true) else (if t106 < (-1) then (cayleylaw01_WordOrder.j0 k a0 a1 a3 a4 t106 true) else (if t106 > 1 then (cayleylaw01_WordOrder.j0 k a0 a1 a3 a4 t106 true) else (if t106 ≤ 0 then (if t107 ≤ 0 then ((word_Compare.f k a0 a2).bind fun t109 => (cayleylaw01_WordOrder.j0 k a0 a1 a3 a4 t106 (decide (t109 > 0)))) else (cayleylaw01_WordOrder.j0 k a0 a1 a3 a4 t106 false)) else (cayleylaw01_WordOrder.j0 k a0 a1 a3 a4 t106 false))))) else (cayleylaw01_WordOrder.j0 k a0 a1 a3 a4 t106 true))))) else (some true)) = some r := H
    have A8 := Aside0.mk A80
    clear A80
    by_cases c9 : t105 = true
    · subst c9
      have H1 : ((word_Compare.f k a0 a1).bind fun t106 => ((word_Compare.f k a1 a2).bind fun t107 => ((word_Compare.f k a1 a0).bind fun t108 => (if t106 = (wrap64 (-t108)) then (if ((t106 == 0) != (a0.toList == a1.toList)) = true then (cayleylaw01_WordOrder.j0 k a0 a1 a3 a4 t106 true) else (if t106 < (-1) then (cayleylaw01_WordOrder.j0 k a0 a1 a3 a4 t106 true) else (if t106 > 1 then (cayleylaw01_WordOrder.j0 k a0 a1 a3 a4 t106 true) else (if t106 ≤ 0 then (if t107 ≤ 0 then ((word_Compare.f k a0 a2).bind fun t109 => (cayleylaw01_WordOrder.j0 k a0 a1 a3 a4 t106 (decide (t109 > 0)))) else (cayleylaw01_WordOrder.j0 k a0 a1 a3 a4 t106 false)) else (cayleylaw01_WordOrder.j0 k a0 a1 a3 a4 t106 false))))) else (cayleylaw01_WordOrder.j0 k a0 a1 a3 a4 t106 true))))) = some r := by rw [if_pos rfl] at H; exact H
      clear H
      have H := H1
      clear H1
      replace H := Option.bind_eq_some_iff.mp H
      obtain ⟨t106, A100, H⟩ := H
      replace H : ((word_Compare.f k a1 a2).bind fun t107 => ((word_Compare.f k a1 a0).bind fun t108 => (if t106 = (wrap64 (-t108)) then (if ((t106 == 0) != (a0.toList == a1.toList)) = true then (cayleylaw01_WordOrder.j0 k a0 a1 a3 a4 t106 true) else (if t106 < (-1) then (cayleylaw01_WordOrder.j0 k a0 a1 a3 a4 t106 true) else (if t106 > 1 then (cayleylaw01_WordOrder.j0 k a0 a1 a3 a4 t106 true) else (if t106 ≤ 0 then (if t107 ≤ 0 then ((word_Compare.f k a0 a2).bind fun t109 => (cayleylaw01_WordOrder.j0 k a0 a1 a3 a4 t106 (decide (t109 > 0)))) else (cayleylaw01_WordOrder.j0 k a0 a1 a3 a4 t106 false)) else (cayleylaw01_WordOrder.j0 k a0 a1 a3 a4 t106 false))))) else (cayleylaw01_WordOrder.j0 k a0 a1 a3 a4 t106 true)))) = some r := H
      have A10 := Aside0.mk A100
      clear A100
      replace H := Option.bind_eq_some_iff.mp H
      obtain ⟨t107, A110, H⟩ := H
      replace H : ((word_Compare.f k a1 a0).bind fun t108 => (if t106 = (wrap64 (-t108)) then (if ((t106 == 0) != (a0.toList == a1.toList)) = true then (cayleylaw01_WordOrder.j0 k a0 a1 a3 a4 t106 true) else (if t106 < (-1) then (cayleylaw01_WordOrder.j0 k a0 a1 a3 a4 t106 true) else (if t106 > 1 then (cayleylaw01_WordOrder.j0 k a0 a1 a3 a4 t106 true) else (if t106 ≤ 0 then (if t107 ≤ 0 then ((word_Compare.f k a0 a2).bind fun t109 => (cayleylaw01_WordOrder.j0 k a0 a1 a3 a4 t106 (decide (t109 > 0)))) else (cayleylaw01_WordOrder.j0 k a0 a1 a3 a4 t106 false)) else (cayleylaw01_WordOrder.j0 k a0 a1 a3 a4 t106 false))))) else (cayleylaw01_WordOrder.j0 k a0 a1 a3 a4 t106 true))) = some r := H
      have A11 := Aside0.mk A110
      clear A110
      have HC12 := Aside0.mk H
      clear H
      go_enter Tryz.func9, Tryz.ntmps9
      go_upto_region 7 with (first | ((with_reducible refine gate_callee (f := 11) rfl ?_); refine goesL_ (some 13) rfl rfl Tryz.func11 (by kernel_rfl) rfl #[] rfl (by (try simp only [List.map_toArray, List.map_cons, List.map_nil]); first | done | rfl | (simp only [List.length_drop, List.length_take]; rfl)) ?_; (with_reducible refine (cayleylaw01_sane.calls  true _ A6.out (by first | exact hG | exact GL.step hG (by repeat (first | (with_reducible first | exact HB.out | apply below_alloc | apply pw_below_drewN | apply below_drew1) | exact HB.out)))).mono ?_); rintro e w13 ⟨rfl, hb⟩; refine ⟨_, rfl, ?_⟩; have n0_ := Aside0.mk (below_step (by repeat (first | (with_reducible first | exact HB.out | apply below_alloc | apply pw_below_drewN | apply below_drew1) | exact HB.out)) hb); clear HB; have HB := n0_; clear n0_; (try clear hb); (try clear hb2); (try clear hk); (try clear hi)) | ((with_reducible refine gate_dst (N := 20) rfl ?_); refine Kd.R_lit Kd.string _ 9 ?hg (N := 20) ?hd (xs := ([a0, a1, a2, a3, a4] : List ByteArray)) (inner := [.string a0, .string a1, .string a2, .string a3, .string a4]) (ok := fun _ => True) (okp := fun _ => True) ?hr ?hp (fun _ hk => hk) trivial (Below.refl _ _) (Nat.le_refl _) (by simp) ?_; (case hd => rfl); (case hg => rfl); (case hr => first | (go_simp; done) | (go_simp; rfl)); (case hp => exact (Reps.one (show Kd.M Kd.string _ _ _ a0 [.string a0] from rfl) (Reps.one (show Kd.M Kd.string _ _ _ a1 [.string a1] from rfl) (Reps.one (show Kd.M Kd.string _ _ _ a2 [.string a2] from rfl) (Reps.one (show Kd.M Kd.string _ _ _ a3 [.string a3] from rfl) (Reps.one (show Kd.M Kd.string _ _ _ a4 [.string a4] from rfl) (Reps.none _ _))))))); intro v103 w14 ho15 hb hg_ hnew_; clear hg_ hnew_; (first | rw [← Ny102.out] at ho15 | (simp only [Int.reduceToNat] at ho15; rw [← Ny102.out] at ho15)); have n0_ := Aside0.mk (Kd.R_lower ho15 (below_size (by repeat (first | (with_reducible first | exact HB.out | apply below_alloc | apply pw_below_drewN | apply below_drew1) | exact HB.out)))); have n1_ := Aside0.mk (below_step (by repeat (first | (with_reducible first | exact HB.out | apply below_alloc | apply pw_below_drewN | apply below_drew1) | exact HB.out)) hb); clear HB; have HO104 := n0_; have HB := n1_; clear n0_ n1_; clear hb ho15; obtain ⟨Ao16, co16, eo16⟩ := Kd.R_slice HO104.out; subst eo16) | ((with_reducible refine gate_callee (f := 40) rfl ?_); refine goesL_ (some 21) rfl rfl Tryz.func40 (by kernel_rfl) rfl #[.slice Ao16 y102.length co16] rfl (by (try simp only [List.map_toArray, List.map_cons, List.map_nil]); first | done | rfl | (simp only [List.length_drop, List.length_take]; rfl)) ?_; (with_reducible refine (cayleylaw01_words.calls k _ _ y102 true _ ?side1 ?side2 A8.out).mono ?_); (case side1 => repeat (first | exact (Kd.R_reads' HO104.out).2.2 | (with_reducible refine Kd.C_alloc ?_ _) | (with_reducible refine Kd.C_drewN ?_ _) | (with_reducible refine Kd.C_drew ?_))); (case side2 => exact (Kd.R_reads' HO104.out).2.1); rintro e w' ⟨rfl, ⟨nd, rfl⟩⟩; refine ⟨_, rfl, ?_⟩) | ((with_reducible refine gate_callee (f := 23) rfl ?_); refine goesL_ (some 25) rfl rfl Tryz.func23 (by kernel_rfl) rfl #[.string a0, .string a1] rfl (by (try simp only [List.map_toArray, List.map_cons, List.map_nil]); first | done | rfl | (simp only [List.length_drop, List.length_take]; rfl)) ?_; (with_reducible refine (word_Compare.calls k a0 a1 t106 _ A10.out (by first | exact hG | exact GL.step hG (by repeat (first | (with_reducible first | exact HB.out | apply below_alloc | apply pw_below_drewN | apply below_drew1) | exact HB.out)))).mono ?_); rintro e w17 ⟨rfl, hb⟩; refine ⟨_, rfl, ?_⟩; have n0_ := Aside0.mk (Kd.R_below (by (with_reducible repeat (first | apply Kd.R_alloc | apply Kd.R_drewN | apply Kd.R_drew)); exact HO104.out) hb); have n1_ := Aside0.mk (below_step (by repeat (first | (with_reducible first | exact HB.out | apply below_alloc | apply pw_below_drewN | apply below_drew1) | exact HB.out)) hb); clear HO104; clear HB; have HO104 := n0_; have HB := n1_; clear n0_ n1_; (try clear hb); (try clear hb2); (try clear hk); (try clear hi)) | ((with_reducible refine gate_callee (f := 23) rfl ?_); refine goesL_ (some 28) rfl rfl Tryz.func23 (by kernel_rfl) rfl #[.string a1, .string a2] rfl (by (try simp only [List.map_toArray, List.map_cons, List.map_nil]); first | done | rfl | (simp only [List.length_drop, List.length_take]; rfl)) ?_; (with_reducible refine (word_Compare.calls k a1 a2 t107 _ A11.out (by first | exact hG | exact GL.step hG (by repeat (first | (with_reducible first | exact HB.out | apply below_alloc | apply pw_below_drewN | apply below_drew1) | exact HB.out)))).mono ?_); rintro e w18 ⟨rfl, hb⟩; refine ⟨_, rfl, ?_⟩; have n0_ := Aside0.mk (Kd.R_below (by (with_reducible repeat (first | apply Kd.R_alloc | apply Kd.R_drewN | apply Kd.R_drew)); exact HO104.out) hb); have n1_ := Aside0.mk (below_step (by repeat (first | (with_reducible first | exact HB.out | apply below_alloc | apply pw_below_drewN | apply below_drew1) | exact HB.out)) hb); clear HO104; clear HB; have HO104 := n0_; have HB := n1_; clear n0_ n1_; (try clear hb); (try clear hb2); (try clear hk); (try clear hi)))
      (try simp only [Act.put, List.setIfInBounds_toArray, List.set_cons_zero, List.set_cons_succ])
      go_cut [64] (fun v64 wc => ∃ (kq : Nat) (x64_11 : Bool), v64 = .bool x64_11 ∧ Aside0 (cayleylaw01_WordOrder.j0 kq a0 a1 a3 a4 t106 x64_11 = some r) ∧ Aside0 (kq ≤ k) ∧ Aside0 (Below w.heap.size w wc))
      case first =>
        have H := HC12.out
        clear HC12
        replace H := Option.bind_eq_some_iff.mp H
        obtain ⟨t108, A190, H⟩ := H
        replace H : (if t106 = (wrap64 (-t108)) then (if ((t106 == 0) != (a0.toList == a1.toList)) = true then (cayleylaw01_WordOrder.j0 k a0 a1 a3 a4 t106 true) else (if t106 < (-1) then (cayleylaw01_WordOrder.j0 k a0 a1 a3 a4 t106 true) else (if t106 > 1 then (cayleylaw01_WordOrder.j0 k a0 a1 a3 a4 t106 true) else (if t106 ≤ 0 then (if t107 ≤ 0 then ((word_Compare.f k a0 a2).bind fun t109 => (cayleylaw01_WordOrder.j0 k a0 a1 a3 a4 t106 (decide (t109 > 0)))) else (cayleylaw01_WordOrder.j0 k a0 a1 a3 a4 t106 false)) else (cayleylaw01_WordOrder.j0 k a0 a1 a3 a4 t106 false))))) else (cayleylaw01_WordOrder.j0 k a0 a1 a3 a4 t106 true)) = some r := H
        have A19 := Aside0.mk A190
        clear A190
        by_cases c20 : t106 = (wrap64 (-t108))
        · rw [if_pos c20] at H
          have c20b0 : (t106 == (wrap64 (-t108))) = true := beq_iff_eq.mpr c20
          have c20b1 : (t106 != (wrap64 (-t108))) = false := bne_eq_false_iff_eq.mpr c20
          clear c20
          (first | rw [c20b0] | (simp only [i64_w, i32_w]; rw [c20b0]) | skip)
          by_cases c21 : ((t106 == 0) != (a0.toList == a1.toList)) = true
          · rw [if_pos c21] at H
            have c21b0 : ((t106 == 0) != (a0.toList == a1.toList)) = true := c21
            (try (have c21b1 : decide ((t106 == 0) = (a0.toList == a1.toList)) = false := by simpa using c21))
            (try (have c21b2 : ((t106 == 0) == (a0.toList == a1.toList)) = false := by simpa using c21))
            (try (have c21b3 : ¬ ((t106 == 0) = (a0.toList == a1.toList)) := by simpa using c21))
            clear c21
            have H' := Aside0.mk H
            clear H
            go_wp2_with (first | ((with_reducible refine gate_callee (f := 23) rfl ?_); refine goesL_ (some 32) rfl rfl Tryz.func23 (by kernel_rfl) rfl #[.string a1, .string a0] rfl (by (try simp only [List.map_toArray, List.map_cons, List.map_nil]); first | done | rfl | (simp only [List.length_drop, List.length_take]; rfl)) ?_; (with_reducible refine (word_Compare.calls k a1 a0 t108 _ A19.out (by first | exact hG | exact GL.step hG (by repeat (first | (with_reducible first | exact HB.out | apply below_alloc | apply pw_below_drewN | apply below_drew1) | exact HB.out)))).mono ?_); rintro e w22 ⟨rfl, hb⟩; refine ⟨_, rfl, ?_⟩; have n0_ := Aside0.mk (Kd.R_below (by (with_reducible repeat (first | apply Kd.R_alloc | apply Kd.R_drewN | apply Kd.R_drew)); exact HO104.out) hb); have n1_ := Aside0.mk (below_step (by repeat (first | (with_reducible first | exact HB.out | apply below_alloc | apply pw_below_drewN | apply below_drew1) | exact HB.out)) hb); clear HO104; clear HB; have HO104 := n0_; have HB := n1_; clear n0_ n1_; (try clear hb); (try clear hb2); (try clear hk); (try clear hi)))
            go_meet
            case rel => exact ⟨_, (true), (by first | rfl | (simp; done) | (simp [*]; done)), H', ⟨by first | omega | exact Nat.le_refl _⟩, ⟨by repeat (first | (with_reducible first | exact HB.out | apply below_alloc | apply pw_below_drewN | apply below_drew1) | exact HB.out)⟩⟩
          · rw [if_neg c21] at H
            have c21b0 : ((t106 == 0) != (a0.toList == a1.toList)) = false := by simpa using c21
            (try (have c21b1 : decide ((t106 == 0) = (a0.toList == a1.toList)) = true := by simpa using c21))
            (try (have c21b2 : ((t106 == 0) == (a0.toList == a1.toList)) = true := by simpa using c21))
            clear c21
            by_cases c23 : t106 < (-1)
            · rw [if_pos c23] at H
              have c23b0 : decide (t106 < (-1)) = true := decide_eq_true c23
              clear c23
              have H' := Aside0.mk H
              clear H
              go_wp2_with (first | ((with_reducible refine gate_callee (f := 23) rfl ?_); refine goesL_ (some 32) rfl rfl Tryz.func23 (by kernel_rfl) rfl #[.string a1, .string a0] rfl (by (try simp only [List.map_toArray, List.map_cons, List.map_nil]); first | done | rfl | (simp only [List.length_drop, List.length_take]; rfl)) ?_; (with_reducible refine (word_Compare.calls k a1 a0 t108 _ A19.out (by first | exact hG | exact GL.step hG (by repeat (first | (with_reducible first | exact HB.out | apply below_alloc | apply pw_below_drewN | apply below_drew1) | exact HB.out)))).mono ?_); rintro e w24 ⟨rfl, hb⟩; refine ⟨_, rfl, ?_⟩; have n0_ := Aside0.mk (Kd.R_below (by (with_reducible repeat (first | apply Kd.R_alloc | apply Kd.R_drewN | apply Kd.R_drew)); exact HO104.out) hb); have n1_ := Aside0.mk (below_step (by repeat (first | (with_reducible first | exact HB.out | apply below_alloc | apply pw_below_drewN | apply below_drew1) | exact HB.out)) hb); clear HO104; clear HB; have HO104 := n0_; have HB := n1_; clear n0_ n1_; (try clear hb); (try clear hb2); (try clear hk); (try clear hi)))
              go_meet
              case rel => exact ⟨_, (true), (by first | rfl | (simp; done) | (simp [*]; done)), H', ⟨by first | omega | exact Nat.le_refl _⟩, ⟨by repeat (first | (with_reducible first | exact HB.out | apply below_alloc | apply pw_below_drewN | apply below_drew1) | exact HB.out)⟩⟩
            · rw [if_neg c23] at H
              have c23b0 : decide (t106 < (-1)) = false := decide_eq_false c23
              clear c23
              by_cases c25 : t106 > 1
              · rw [if_pos c25] at H
                have c25b0 : decide (1 < t106) = true := decide_eq_true c25
                clear c25
                have H' := Aside0.mk H
                clear H
                go_wp2_with (first | ((with_reducible refine gate_callee (f := 23) rfl ?_); refine goesL_ (some 32) rfl rfl Tryz.func23 (by kernel_rfl) rfl #[.string a1, .string a0] rfl (by (try simp only [List.map_toArray, List.map_cons, List.map_nil]); first | done | rfl | (simp only [List.length_drop, List.length_take]; rfl)) ?_; (with_reducible refine (word_Compare.calls k a1 a0 t108 _ A19.out (by first | exact hG | exact GL.step hG (by repeat (first | (with_reducible first | exact HB.out | apply below_alloc | apply pw_below_drewN | apply below_drew1) | exact HB.out)))).mono ?_); rintro e w26 ⟨rfl, hb⟩; refine ⟨_, rfl, ?_⟩; have n0_ := Aside0.mk (Kd.R_below (by (with_reducible repeat (first | apply Kd.R_alloc | apply Kd.R_drewN | apply Kd.R_drew)); exact HO104.out) hb); have n1_ := Aside0.mk (below_step (by repeat (first | (with_reducible first | exact HB.out | apply below_alloc | apply pw_below_drewN | apply below_drew1) | exact HB.out)) hb); clear HO104; clear HB; have HO104 := n0_; have HB := n1_; clear n0_ n1_; (try clear hb); (try clear hb2); (try clear hk); (try clear hi)))
                go_meet
                case rel => exact ⟨_, (true), (by first | rfl | (simp; done) | (simp [*]; done)), H', ⟨by first | omega | exact Nat.le_refl _⟩, ⟨by repeat (first | (with_reducible first | exact HB.out | apply below_alloc | apply pw_below_drewN | apply below_drew1) | exact HB.out)⟩⟩
              · rw [if_neg c25] at H
                have c25b0 : decide (1 < t106) = false := decide_eq_false c25
                clear c25
                by_cases c27 : t106 ≤ 0
                · rw [if_pos c27] at H
                  have c27b0 : decide (t106 ≤ 0) = true := decide_eq_true c27
                  clear c27
                  by_cases c28 : t107 ≤ 0
                  · rw [if_pos c28] at H
                    have c28b0 : decide (t107 ≤ 0) = true := decide_eq_true c28
                    clear c28
                    replace H := Option.bind_eq_some_iff.mp H
                    obtain ⟨t109, A290, H⟩ := H
                    replace H : (cayleylaw01_WordOrder.j0 k a0 a1 a3 a4 t106 (decide (t109 > 0))) = some r := H
                    have A29 := Aside0.mk A290
                    clear A290
                    have H' := Aside0.mk H
                    clear H
                    go_wp2_with (first | ((with_reducible refine gate_callee (f := 23) rfl ?_); refine goesL_ (some 32) rfl rfl Tryz.func23 (by kernel_rfl) rfl #[.string a1, .string a0] rfl (by (try simp only [List.map_toArray, List.map_cons, List.map_nil]); first | done | rfl | (simp only [List.length_drop, List.length_take]; rfl)) ?_; (with_reducible refine (word_Compare.calls k a1 a0 t108 _ A19.out (by first | exact hG | exact GL.step hG (by repeat (first | (with_reducible first | exact HB.out | apply below_alloc | apply pw_below_drewN | apply below_drew1) | exact HB.out)))).mono ?_); rintro e w30 ⟨rfl, hb⟩; refine ⟨_, rfl, ?_⟩; have n0_ := Aside0.mk (Kd.R_below (by (with_reducible repeat (first | apply Kd.R_alloc | apply Kd.R_drewN | apply Kd.R_drew)); exact HO104.out) hb); have n1_ := Aside0.mk (below_step (by repeat (first | (with_reducible first | exact HB.out | apply below_alloc | apply pw_below_drewN | apply below_drew1) | exact HB.out)) hb); clear HO104; clear HB; have HO104 := n0_; have HB := n1_; clear n0_ n1_; (try clear hb); (try clear hb2); (try clear hk); (try clear hi)) | (go_at_call 23; (with_reducible refine (word_Compare.calls k a0 a2 t109 _ A29.out (by first | exact hG | exact GL.step hG (by repeat (first | (with_reducible first | exact HB.out | apply below_alloc | apply pw_below_drewN | apply below_drew1) | exact HB.out)))).mono ?_); rintro e w31 ⟨rfl, hb⟩; have n0_ := Aside0.mk (Kd.R_below (by (with_reducible repeat (first | apply Kd.R_alloc | apply Kd.R_drewN | apply Kd.R_drew)); exact HO104.out) hb); have n1_ := Aside0.mk (below_step (by repeat (first | (with_reducible first | exact HB.out | apply below_alloc | apply pw_below_drewN | apply below_drew1) | exact HB.out)) hb); clear HO104; clear HB; have HO104 := n0_; have HB := n1_; clear n0_ n1_; (try clear hb); (try clear hb2); (try clear hk); (try clear hi)))
                    go_meet
                    case rel => exact ⟨_, (decide (t109 > 0)), (by first | rfl | (simp; done) | (simp [*]; done)), H', ⟨by first | omega | exact Nat.le_refl _⟩, ⟨by repeat (first | (with_reducible first | exact HB.out | apply below_alloc | apply pw_below_drewN | apply below_drew1) | exact HB.out)⟩⟩
                  · rw [if_neg c28] at H
                    have c28b0 : decide (t107 ≤ 0) = false := decide_eq_false c28
                    clear c28
                    have H' := Aside0.mk H
                    clear H
                    go_wp2_with (first | ((with_reducible refine gate_callee (f := 23) rfl ?_); refine goesL_ (some 32) rfl rfl Tryz.func23 (by kernel_rfl) rfl #[.string a1, .string a0] rfl (by (try simp only [List.map_toArray, List.map_cons, List.map_nil]); first | done | rfl | (simp only [List.length_drop, List.length_take]; rfl)) ?_; (with_reducible refine (word_Compare.calls k a1 a0 t108 _ A19.out (by first | exact hG | exact GL.step hG (by repeat (first | (with_reducible first | exact HB.out | apply below_alloc | apply pw_below_drewN | apply below_drew1) | exact HB.out)))).mono ?_); rintro e w32 ⟨rfl, hb⟩; refine ⟨_, rfl, ?_⟩; have n0_ := Aside0.mk (Kd.R_below (by (with_reducible repeat (first | apply Kd.R_alloc | apply Kd.R_drewN | apply Kd.R_drew)); exact HO104.out) hb); have n1_ := Aside0.mk (below_step (by repeat (first | (with_reducible first | exact HB.out | apply below_alloc | apply pw_below_drewN | apply below_drew1) | exact HB.out)) hb); clear HO104; clear HB; have HO104 := n0_; have HB := n1_; clear n0_ n1_; (try clear hb); (try clear hb2); (try clear hk); (try clear hi)))
                    go_meet
                    case rel => exact ⟨_, (false), (by first | rfl | (simp; done) | (simp [*]; done)), H', ⟨by first | omega | exact Nat.le_refl _⟩, ⟨by repeat (first | (with_reducible first | exact HB.out | apply below_alloc | apply pw_below_drewN | apply below_drew1) | exact HB.out)⟩⟩
                · rw [if_neg c27] at H
                  have c27b0 : decide (t106 ≤ 0) = false := decide_eq_false c27
                  clear c27
                  have H' := Aside0.mk H
                  clear H
                  go_wp2_with (first | ((with_reducible refine gate_callee (f := 23) rfl ?_); refine goesL_ (some 32) rfl rfl Tryz.func23 (by kernel_rfl) rfl #[.string a1, .string a0] rfl (by (try simp only [List.map_toArray, List.map_cons, List.map_nil]); first | done | rfl | (simp only [List.length_drop, List.length_take]; rfl)) ?_; (with_reducible refine (word_Compare.calls k a1 a0 t108 _ A19.out (by first | exact hG | exact GL.step hG (by repeat (first | (with_reducible first | exact HB.out | apply below_alloc | apply pw_below_drewN | apply below_drew1) | exact HB.out)))).mono ?_); rintro e w33 ⟨rfl, hb⟩; refine ⟨_, rfl, ?_⟩; have n0_ := Aside0.mk (Kd.R_below (by (with_reducible repeat (first | apply Kd.R_alloc | apply Kd.R_drewN | apply Kd.R_drew)); exact HO104.out) hb); have n1_ := Aside0.mk (below_step (by repeat (first | (with_reducible first | exact HB.out | apply below_alloc | apply pw_below_drewN | apply below_drew1) | exact HB.out)) hb); clear HO104; clear HB; have HO104 := n0_; have HB := n1_; clear n0_ n1_; (try clear hb); (try clear hb2); (try clear hk); (try clear hi)))
                  go_meet
                  case rel => exact ⟨_, (false), (by first | rfl | (simp; done) | (simp [*]; done)), H', ⟨by first | omega | exact Nat.le_refl _⟩, ⟨by repeat (first | (with_reducible first | exact HB.out | apply below_alloc | apply pw_below_drewN | apply below_drew1) | exact HB.out)⟩⟩
        · rw [if_neg c20] at H
          have c20b0 : (t106 == (wrap64 (-t108))) = false := beq_eq_false_iff_ne.mpr c20
          have c20b1 : (t106 != (wrap64 (-t108))) = true := bne_iff_ne.mpr c20
          (first | rw [c20b0] | (simp only [i64_w, i32_w]; rw [c20b0]) | skip)
          have H' := Aside0.mk H
          clear H
          go_wp2_with (first | ((with_reducible refine gate_callee (f := 23) rfl ?_); refine goesL_ (some 32) rfl rfl Tryz.func23 (by kernel_rfl) rfl #[.string a1, .string a0] rfl (by (try simp only [List.map_toArray, List.map_cons, List.map_nil]); first | done | rfl | (simp only [List.length_drop, List.length_take]; rfl)) ?_; (with_reducible refine (word_Compare.calls k a1 a0 t108 _ A19.out (by first | exact hG | exact GL.step hG (by repeat (first | (with_reducible first | exact HB.out | apply below_alloc | apply pw_below_drewN | apply below_drew1) | exact HB.out)))).mono ?_); rintro e w34 ⟨rfl, hb⟩; refine ⟨_, rfl, ?_⟩; have n0_ := Aside0.mk (Kd.R_below (by (with_reducible repeat (first | apply Kd.R_alloc | apply Kd.R_drewN | apply Kd.R_drew)); exact HO104.out) hb); have n1_ := Aside0.mk (below_step (by repeat (first | (with_reducible first | exact HB.out | apply below_alloc | apply pw_below_drewN | apply below_drew1) | exact HB.out)) hb); clear HO104; clear HB; have HO104 := n0_; have HB := n1_; clear n0_ n1_; (try clear hb); (try clear hb2); (try clear hk); (try clear hi)))
          go_meet
          case rel => exact ⟨_, (true), (by first | rfl | (simp; done) | (simp [*]; done)), H', ⟨by first | omega | exact Nat.le_refl _⟩, ⟨by repeat (first | (with_reducible first | exact HB.out | apply below_alloc | apply pw_below_drewN | apply below_drew1) | exact HB.out)⟩⟩
      case rest =>
        clear HC12
        try clear c1
        try clear c2
        try clear p2
        try clear c4
        try clear p6
        try clear c7
        try clear c9
        try clear c11
        try clear c20
        try clear c20b0
        try clear c20b1
        try clear c21
        try clear c21b0
        try clear c21b1
        try clear c21b2
        try clear c23
        try clear c23b0
        try clear c25
        try clear c25b0
        try clear c27
        try clear c27b0
        try clear c28
        try clear c28b0
        obtain ⟨kq, x64_11, rfl, HA, HJ11, HB⟩ := hcut
        cases kq with
        | zero => exact absurd HA.out (by simp [cayleylaw01_WordOrder.j0])
        | succ kj11 =>
          have H := HA.out
          clear HA
          simp only [cayleylaw01_WordOrder.j0] at H
          by_cases c35 : x64_11 = true
          · subst c35
            have H1 : (some false) = some r := by rw [if_pos rfl] at H; exact H
            clear H
            have H := H1
            clear H1
            obtain rfl := Option.some.inj H
            go_wp2
            go_ret
            exact ⟨by first | rfl | (simp [errW_none, errW_some] <;> rfl) | (simp [*, errW_none, errW_some] <;> rfl), by repeat (first | (with_reducible first | exact HB.out | apply below_alloc | apply pw_below_drewN | apply below_drew1) | exact HB.out)⟩
          · replace c35 := Bool.eq_false_iff.mpr c35
            subst c35
            have H1 : (if a3.size + a0.size ≤ 9223372036854775807 then (if (a3 ++ a0).size + a4.size ≤ 9223372036854775807 then (if a3.size + a1.size ≤ 9223372036854775807 then (if (a3 ++ a1).size + a4.size ≤ 9223372036854775807 then ((word_Compare.f kj11 ((a3 ++ a0) ++ a4) ((a3 ++ a1) ++ a4)).bind fun t110 => (if t110 = t106 then ((word_Reduce.f kj11 a0).bind fun t111 => ((word_Compare.f kj11 t111 a0).bind fun t112 => (some (decide (t112 ≤ 0))))) else (some false))) else (none)) else (none)) else (none)) else (none)) = some r := by rw [if_neg (show ¬ (false = true) by decide)] at H; exact H
            clear H
            have H := H1
            clear H1
            by_cases c36 : a3.size + a0.size ≤ 9223372036854775807
            · rw [if_pos c36] at H
              have c36b0 := eq_true c36
              have c36b1 : decide (a3.size + a0.size ≤ 9223372036854775807) = true := decide_eq_true c36
              try have c36b2 : (9223372036854775807 < a3.size + a0.size) = False := eq_false (Nat.not_lt.2 c36)
              by_cases c37 : (a3 ++ a0).size + a4.size ≤ 9223372036854775807
              · rw [if_pos c37] at H
                have c37b0 := eq_true c37
                have c37b1 : decide ((a3 ++ a0).size + a4.size ≤ 9223372036854775807) = true := decide_eq_true c37
                try have c37b2 : (9223372036854775807 < (a3 ++ a0).size + a4.size) = False := eq_false (Nat.not_lt.2 c37)
                try (have c37s := c37; simp [*] at c37s; have c37t := eq_false (Nat.not_lt.2 c37s); clear c37s)
                by_cases c38 : a3.size + a1.size ≤ 9223372036854775807
                · rw [if_pos c38] at H
                  have c38b0 := eq_true c38
                  have c38b1 : decide (a3.size + a1.size ≤ 9223372036854775807) = true := decide_eq_true c38
                  try have c38b2 : (9223372036854775807 < a3.size + a1.size) = False := eq_false (Nat.not_lt.2 c38)
                  by_cases c39 : (a3 ++ a1).size + a4.size ≤ 9223372036854775807
                  · rw [if_pos c39] at H
                    have c39b0 := eq_true c39
                    have c39b1 : decide ((a3 ++ a1).size + a4.size ≤ 9223372036854775807) = true := decide_eq_true c39
                    try have c39b2 : (9223372036854775807 < (a3 ++ a1).size + a4.size) = False := eq_false (Nat.not_lt.2 c39)
                    try (have c39s := c39; simp [*] at c39s; have c39t := eq_false (Nat.not_lt.2 c39s); clear c39s)
                    replace H := Option.bind_eq_some_iff.mp H
                    obtain ⟨t110, A400, H⟩ := H
                    replace H : (if t110 = t106 then ((word_Reduce.f kj11 a0).bind fun t111 => ((word_Compare.f kj11 t111 a0).bind fun t112 => (some (decide (t112 ≤ 0))))) else (some false)) = some r := H
                    have A40 := Aside0.mk A400
                    clear A400
                    by_cases c41 : t110 = t106
                    · rw [if_pos c41] at H
                      have c41b0 : (t110 == t106) = true := beq_iff_eq.mpr c41
                      have c41b1 : (t110 != t106) = false := bne_eq_false_iff_eq.mpr c41
                      clear c41
                      replace H := Option.bind_eq_some_iff.mp H
                      obtain ⟨t111, A420, H⟩ := H
                      replace H : ((word_Compare.f kj11 t111 a0).bind fun t112 => (some (decide (t112 ≤ 0)))) = some r := H
                      have A42 := Aside0.mk A420
                      clear A420
                      replace H := Option.bind_eq_some_iff.mp H
                      obtain ⟨t112, A430, H⟩ := H
                      replace H : (some (decide (t112 ≤ 0))) = some r := H
                      have A43 := Aside0.mk A430
                      clear A430
                      obtain rfl := Option.some.inj H
                      go_wp2_with (first | ((with_reducible refine gate_callee (f := 23) rfl ?_); refine goesL_ (some 75) rfl rfl Tryz.func23 (by kernel_rfl) rfl #[.string ((a3 ++ a0) ++ a4), .string ((a3 ++ a1) ++ a4)] rfl (by (try simp only [List.map_toArray, List.map_cons, List.map_nil]); first | done | rfl | (simp only [List.length_drop, List.length_take]; rfl)) ?_; (with_reducible refine (word_Compare.calls kj11 ((a3 ++ a0) ++ a4) ((a3 ++ a1) ++ a4) t110 _ A40.out (by first | exact hG | exact GL.step hG (by repeat (first | (with_reducible first | exact HB.out | apply below_alloc | apply pw_below_drewN | apply below_drew1) | exact HB.out)))).mono ?_); rintro e w44 ⟨rfl, hb⟩; refine ⟨_, rfl, ?_⟩; have n0_ := Aside0.mk (below_step (by repeat (first | (with_reducible first | exact HB.out | apply below_alloc | apply pw_below_drewN | apply below_drew1) | exact HB.out)) hb); clear HB; have HB := n0_; clear n0_; (try clear hb); (try clear hb2); (try clear hk); (try clear hi)) | (go_at_call 21; (with_reducible refine (word_Reduce.calls kj11 a0 t111 _ A42.out (by first | exact hG | exact GL.step hG (by repeat (first | (with_reducible first | exact HB.out | apply below_alloc | apply pw_below_drewN | apply below_drew1) | exact HB.out)))).mono ?_); rintro e w45 ⟨rfl, hb⟩; have n0_ := Aside0.mk (below_step (by repeat (first | (with_reducible first | exact HB.out | apply below_alloc | apply pw_below_drewN | apply below_drew1) | exact HB.out)) hb); clear HB; have HB := n0_; clear n0_; (try clear hb); (try clear hb2); (try clear hk); (try clear hi)) | (go_at_call 23; (with_reducible refine (word_Compare.calls kj11 t111 a0 t112 _ A43.out (by first | exact hG | exact GL.step hG (by repeat (first | (with_reducible first | exact HB.out | apply below_alloc | apply pw_below_drewN | apply below_drew1) | exact HB.out)))).mono ?_); rintro e w46 ⟨rfl, hb⟩; have n0_ := Aside0.mk (below_step (by repeat (first | (with_reducible first | exact HB.out | apply below_alloc | apply pw_below_drewN | apply below_drew1) | exact HB.out)) hb); clear HB; have HB := n0_; clear n0_; (try clear hb); (try clear hb2); (try clear hk); (try clear hi)))
                      go_ret
                      exact ⟨by first | rfl | (simp [errW_none, errW_some] <;> rfl) | (simp [*, errW_none, errW_some] <;> rfl), by repeat (first | (with_reducible first | exact HB.out | apply below_alloc | apply pw_below_drewN | apply below_drew1) | exact HB.out)⟩
                    · rw [if_neg c41] at H
                      have c41b0 : (t110 == t106) = false := beq_eq_false_iff_ne.mpr c41
                      have c41b1 : (t110 != t106) = true := bne_iff_ne.mpr c41
                      obtain rfl := Option.some.inj H
                      go_wp2_with (first | ((with_reducible refine gate_callee (f := 23) rfl ?_); refine goesL_ (some 75) rfl rfl Tryz.func23 (by kernel_rfl) rfl #[.string ((a3 ++ a0) ++ a4), .string ((a3 ++ a1) ++ a4)] rfl (by (try simp only [List.map_toArray, List.map_cons, List.map_nil]); first | done | rfl | (simp only [List.length_drop, List.length_take]; rfl)) ?_; (with_reducible refine (word_Compare.calls kj11 ((a3 ++ a0) ++ a4) ((a3 ++ a1) ++ a4) t110 _ A40.out (by first | exact hG | exact GL.step hG (by repeat (first | (with_reducible first | exact HB.out | apply below_alloc | apply pw_below_drewN | apply below_drew1) | exact HB.out)))).mono ?_); rintro e w47 ⟨rfl, hb⟩; refine ⟨_, rfl, ?_⟩; have n0_ := Aside0.mk (below_step (by repeat (first | (with_reducible first | exact HB.out | apply below_alloc | apply pw_below_drewN | apply below_drew1) | exact HB.out)) hb); clear HB; have HB := n0_; clear n0_; (try clear hb); (try clear hb2); (try clear hk); (try clear hi)))
                      go_ret
                      exact ⟨by first | rfl | (simp [errW_none, errW_some] <;> rfl) | (simp [*, errW_none, errW_some] <;> rfl), by repeat (first | (with_reducible first | exact HB.out | apply below_alloc | apply pw_below_drewN | apply below_drew1) | exact HB.out)⟩
                  · rw [if_neg c39] at H
                    exact absurd H (by simp)
                · rw [if_neg c38] at H
                  exact absurd H (by simp)
              · rw [if_neg c37] at H
                exact absurd H (by simp)
            · rw [if_neg c36] at H
              exact absurd H (by simp)
    · replace c9 := Bool.eq_false_iff.mpr c9
      subst c9
      have H1 : (some true) = some r := by rw [if_neg (show ¬ (false = true) by decide)] at H; exact H
      clear H
      have H := H1
      clear H1
      obtain rfl := Option.some.inj H
      go_enter Tryz.func9, Tryz.ntmps9
      go_wp2_with (first | ((with_reducible refine gate_callee (f := 11) rfl ?_); refine goesL_ (some 13) rfl rfl Tryz.func11 (by kernel_rfl) rfl #[] rfl (by (try simp only [List.map_toArray, List.map_cons, List.map_nil]); first | done | rfl | (simp only [List.length_drop, List.length_take]; rfl)) ?_; (with_reducible refine (cayleylaw01_sane.calls  true _ A6.out (by first | exact hG | exact GL.step hG (by repeat (first | (with_reducible first | exact HB.out | apply below_alloc | apply pw_below_drewN | apply below_drew1) | exact HB.out)))).mono ?_); rintro e w48 ⟨rfl, hb⟩; refine ⟨_, rfl, ?_⟩; have n0_ := Aside0.mk (below_step (by repeat (first | (with_reducible first | exact HB.out | apply below_alloc | apply pw_below_drewN | apply below_drew1) | exact HB.out)) hb); clear HB; have HB := n0_; clear n0_; (try clear hb); (try clear hb2); (try clear hk); (try clear hi)) | ((with_reducible refine gate_dst (N := 20) rfl ?_); refine Kd.R_lit Kd.string _ 9 ?hg (N := 20) ?hd (xs := ([a0, a1, a2, a3, a4] : List ByteArray)) (inner := [.string a0, .string a1, .string a2, .string a3, .string a4]) (ok := fun _ => True) (okp := fun _ => True) ?hr ?hp (fun _ hk => hk) trivial (Below.refl _ _) (Nat.le_refl _) (by simp) ?_; (case hd => rfl); (case hg => rfl); (case hr => first | (go_simp; done) | (go_simp; rfl)); (case hp => exact (Reps.one (show Kd.M Kd.string _ _ _ a0 [.string a0] from rfl) (Reps.one (show Kd.M Kd.string _ _ _ a1 [.string a1] from rfl) (Reps.one (show Kd.M Kd.string _ _ _ a2 [.string a2] from rfl) (Reps.one (show Kd.M Kd.string _ _ _ a3 [.string a3] from rfl) (Reps.one (show Kd.M Kd.string _ _ _ a4 [.string a4] from rfl) (Reps.none _ _))))))); intro v103 w49 ho50 hb hg_ hnew_; clear hg_ hnew_; (first | rw [← Ny102.out] at ho50 | (simp only [Int.reduceToNat] at ho50; rw [← Ny102.out] at ho50)); have n0_ := Aside0.mk (Kd.R_lower ho50 (below_size (by repeat (first | (with_reducible first | exact HB.out | apply below_alloc | apply pw_below_drewN | apply below_drew1) | exact HB.out)))); have n1_ := Aside0.mk (below_step (by repeat (first | (with_reducible first | exact HB.out | apply below_alloc | apply pw_below_drewN | apply below_drew1) | exact HB.out)) hb); clear HB; have HO104 := n0_; have HB := n1_; clear n0_ n1_; clear hb ho50; obtain ⟨Ao51, co51, eo51⟩ := Kd.R_slice HO104.out; subst eo51) | ((with_reducible refine gate_callee (f := 40) rfl ?_); refine goesL_ (some 21) rfl rfl Tryz.func40 (by kernel_rfl) rfl #[.slice Ao51 y102.length co51] rfl (by (try simp only [List.map_toArray, List.map_cons, List.map_nil]); first | done | rfl | (simp only [List.length_drop, List.length_take]; rfl)) ?_; (with_reducible refine (cayleylaw01_words.calls k _ _ y102 false _ ?side1 ?side2 A8.out).mono ?_); (case side1 => repeat (first | exact (Kd.R_reads' HO104.out).2.2 | (with_reducible refine Kd.C_alloc ?_ _) | (with_reducible refine Kd.C_drewN ?_ _) | (with_reducible refine Kd.C_drew ?_))); (case side2 => exact (Kd.R_reads' HO104.out).2.1); rintro e w' ⟨rfl, ⟨nd, rfl⟩⟩; refine ⟨_, rfl, ?_⟩))
      go_ret
      exact ⟨by first | rfl | (simp [errW_none, errW_some] <;> rfl) | (simp [*, errW_none, errW_some] <;> rfl), by repeat (first | (with_reducible first | exact HB.out | apply below_alloc | apply pw_below_drewN | apply below_drew1) | exact HB.out)⟩
  · replace c7 := Bool.eq_false_iff.mpr c7
    subst c7
    have H1 : (some false) = some r := by rw [if_neg (show ¬ (false = true) by decide)] at H; exact H
    clear H
    have H := H1
    clear H1
    obtain rfl := Option.some.inj H
    go_enter Tryz.func9, Tryz.ntmps9
    go_wp2_with (first | ((with_reducible refine gate_callee (f := 11) rfl ?_); refine goesL_ (some 13) rfl rfl Tryz.func11 (by kernel_rfl) rfl #[] rfl (by (try simp only [List.map_toArray, List.map_cons, List.map_nil]); first | done | rfl | (simp only [List.length_drop, List.length_take]; rfl)) ?_; (with_reducible refine (cayleylaw01_sane.calls  false _ A6.out (by first | exact hG | exact GL.step hG (by repeat (first | (with_reducible first | exact HB.out | apply below_alloc | apply pw_below_drewN | apply below_drew1) | exact HB.out)))).mono ?_); rintro e w52 ⟨rfl, hb⟩; refine ⟨_, rfl, ?_⟩; have n0_ := Aside0.mk (below_step (by repeat (first | (with_reducible first | exact HB.out | apply below_alloc | apply pw_below_drewN | apply below_drew1) | exact HB.out)) hb); clear HB; have HB := n0_; clear n0_; (try clear hb); (try clear hb2); (try clear hk); (try clear hi)))
    go_ret
    exact ⟨by first | rfl | (simp [errW_none, errW_some] <;> rfl) | (simp [*, errW_none, errW_some] <;> rfl), by repeat (first | (with_reducible first | exact HB.out | apply below_alloc | apply pw_below_drewN | apply below_drew1) | exact HB.out)⟩

end Go.Proofs.YthiehmogphknlaaGreatDoor.PO
