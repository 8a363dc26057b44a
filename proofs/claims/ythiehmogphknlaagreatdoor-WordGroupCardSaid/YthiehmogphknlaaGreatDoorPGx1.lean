/- Printed by a program of this session (wip/ext.py) out of the translation, after the kit's print. Not trusted: Lean checks it. -/
import Derived.Test.YthiehmogphknlaaGreatDoorPGx0
namespace Go.Proofs.YthiehmogphknlaaGreatDoor.PG
open Go.Proofs.YthiehmogphknlaaGreatDoor.G Go.Proofs.YthiehmogphknlaaGreatDoor.PA Go.RowKit Go.Proofs.YthiehmogphknlaaGreatDoorW.PrintWords Go.Proofs.YthiehmogphknlaaGreatDoorW.PrintLast Go.Proofs.YthiehmogphknlaaGreatDoorW.PrintMore
attribute [local go_sem] max2_int min2_int max_two min_two max_three min_three max_four min_four   -- for this text's walks alone
set_option linter.unusedVariables false
set_option linter.unusedSimpArgs false

/-! ### cayleylaw01_WordGroup: function 6 -/
def cayleylaw01_WordGroup.j0 : Nat → ByteArray → ByteArray → ByteArray → Bool → Option (Bool)
  | 0, _, _, _, _ => none
  | k + 1, x0, x1, x7, x40 => if x40 = true then (some false) else ((word_Inverse.f k x0).bind fun t112 => (if x0.size + t112.size ≤ 9223372036854775807 then ((word_Reduce.f k (x0 ++ t112)).bind fun t113 => (if t113.toList = ([] : List UInt8) then (if t112.size + x0.size ≤ 9223372036854775807 then ((word_Reduce.f k (t112 ++ x0)).bind fun t114 => (if t114.toList = ([] : List UInt8) then ((word_Inverse.f k t112).bind fun t115 => (if t115.toList = x0.toList then (if x0.size + x1.size ≤ 9223372036854775807 then ((word_Inverse.f k (x0 ++ x1)).bind fun t116 => ((word_Inverse.f k x1).bind fun t117 => (if t117.size + t112.size ≤ 9223372036854775807 then (if t116.toList = (t117 ++ t112).toList then ((word_Inverse.f k x7).bind fun t118 => ((word_Reduce.f k t118).bind fun t119 => ((word_Inverse.f k x1).bind fun t120 => (if t120.size + t112.size ≤ 9223372036854775807 then ((word_Reduce.f k (t120 ++ t112)).bind fun t121 => (some (t119.toList == t121.toList))) else (none))))) else (some false)) else (none)))) else (none)) else (some false))) else (some false))) else (none)) else (some false))) else (none)))
def cayleylaw01_WordGroup.f (k : Nat) (a0 : ByteArray) (a1 : ByteArray) (a2 : ByteArray) : Option (Bool) := (cayleylaw01_sane.f).bind fun t101 => (if t101 = true then ((cayleylaw01_words.f k (([a0, a1, a2] : List ByteArray))).bind fun t105 => (if t105 = true then (if a0.size + a1.size ≤ 9223372036854775807 then ((word_Reduce.f k (a0 ++ a1)).bind fun t106 => (if t106.size + a2.size ≤ 9223372036854775807 then ((word_Reduce.f k (t106 ++ a2)).bind fun t107 => (if a1.size + a2.size ≤ 9223372036854775807 then ((word_Reduce.f k (a1 ++ a2)).bind fun t108 => (if a0.size + t108.size ≤ 9223372036854775807 then ((word_Reduce.f k (a0 ++ t108)).bind fun t109 => (if t107.toList = t109.toList then (if a0.size + 0 ≤ 9223372036854775807 then ((word_Reduce.f k (a0 ++ (⟨#[]⟩ : ByteArray))).bind fun t110 => ((word_Reduce.f k a0).bind fun t111 => (cayleylaw01_WordGroup.j0 k a0 a1 t106 (t110.toList != t111.toList)))) else (none)) else (cayleylaw01_WordGroup.j0 k a0 a1 t106 true))) else (none))) else (none))) else (none))) else (none)) else (some true))) else (some false))
theorem cayleylaw01_WordGroup.mono_l : ∀ k, (∀ y0 y1 y2 y3, LeO (cayleylaw01_WordGroup.j0 k y0 y1 y2 y3) (cayleylaw01_WordGroup.j0 (k + 1) y0 y1 y2 y3))
  | 0 => fun _ _ _ _ r h => by simp [cayleylaw01_WordGroup.j0] at h
  | k + 1 => by
    have ih0 := cayleylaw01_WordGroup.mono_l k
    · intro y0 y1 y2 y3
      unfold cayleylaw01_WordGroup.j0
      repeat' first
      | (with_reducible exact ih0 _ _ _ _)
      | (with_reducible exact cayleylaw01_words.mono _ _)
      | (with_reducible exact word_Inverse.mono _ _)
      | (with_reducible exact word_Reduce.mono _ _)
      | (with_reducible exact LeO.refl _)
      | (with_reducible exact LeO.none _)
      | (with_reducible refine LeO.ite ?_ ?_)
      | (with_reducible refine LeO.bind ?_ (fun _ => ?_))
      | exact ih0 _ _ _ _
      | exact cayleylaw01_words.mono _ _
      | exact word_Inverse.mono _ _
      | exact word_Reduce.mono _ _
      | exact LeO.none _
      | refine LeO.ite ?_ ?_
      | refine LeO.bind ?_ (fun _ => ?_)
theorem cayleylaw01_WordGroup.mono : ∀ a0 a1 a2 k, LeO (cayleylaw01_WordGroup.f k a0 a1 a2) (cayleylaw01_WordGroup.f (k + 1) a0 a1 a2) := by
  intro a0 a1 a2 k
  have ih0 := cayleylaw01_WordGroup.mono_l k
  unfold cayleylaw01_WordGroup.f
  repeat' first
      | (with_reducible exact ih0 _ _ _ _)
      | (with_reducible exact cayleylaw01_words.mono _ _)
      | (with_reducible exact word_Inverse.mono _ _)
      | (with_reducible exact word_Reduce.mono _ _)
      | (with_reducible exact LeO.refl _)
      | (with_reducible exact LeO.none _)
      | (with_reducible refine LeO.ite ?_ ?_)
      | (with_reducible refine LeO.bind ?_ (fun _ => ?_))
      | exact ih0 _ _ _ _
      | exact cayleylaw01_words.mono _ _
      | exact word_Inverse.mono _ _
      | exact word_Reduce.mono _ _
      | exact LeO.none _
      | refine LeO.ite ?_ ?_
      | refine LeO.bind ?_ (fun _ => ?_)
set_option maxHeartbeats 8000000 in
set_option maxRecDepth 100000 in
theorem cayleylaw01_WordGroup.calls (k : Nat) (a0 : ByteArray) (a1 : ByteArray) (a2 : ByteArray) (r : Bool) (w : World) (h : cayleylaw01_WordGroup.f k a0 a1 a2 = some r) (hG : GL w) :
    Calls Tryz.prog 6 #[.string a0, .string a1, .string a2] w fun e w' => e = .returned (.bool r) ∧ Below w.heap.size w w' := by
  have HB := Aside0.mk (Below.refl w.heap.size w)
  have H : ((cayleylaw01_sane.f).bind fun t101 => (if t101 = true then ((cayleylaw01_words.f k (([a0, a1, a2] : List ByteArray))).bind fun t105 => (if t105 = true then (if a0.size + a1.size ≤ 9223372036854775807 then ((word_Reduce.f k (a0 ++ a1)).bind fun t106 => (if t106.size + a2.size ≤ 9223372036854775807 then ((word_Reduce.f k (t106 ++ a2)).bind fun t107 => (if a1.size + a2.size ≤ 9223372036854775807 then ((word_Reduce.f k (a1 ++ a2)).bind fun t108 => (if a0.size + t108.size ≤ 9223372036854775807 then ((word_Reduce.f k (a0 ++ t108)).bind fun t109 => (if t107.toList = t109.toList then (if a0.size + 0 ≤ 9223372036854775807 then ((word_Reduce.f k (a0 ++ (⟨#[]⟩ : ByteArray))).bind fun t110 => ((word_Reduce.f k a0).bind fun t111 => (cayleylaw01_WordGroup.j0 k a0 a1 t106 (t110.toList != t111.toList)))) else (none)) else (cayleylaw01_WordGroup.j0 k a0 a1 t106 true))) else (none))) else (none))) else (none))) else (none)) else (some true))) else (some false))) = some r := h
  clear h
  replace H := Option.bind_eq_some_iff.mp H
  obtain ⟨t101, A40, H⟩ := H
  replace H : (if t101 = true then ((cayleylaw01_words.f k (([a0, a1, a2] : List ByteArray))).bind fun t105 => (if t105 = true then (if a0.size + a1.size ≤ 9223372036854775807 then ((word_Reduce.f k (a0 ++ a1)).bind fun t106 => (if t106.size + a2.size ≤ 9223372036854775807 then ((word_Reduce.f k (t106 ++ a2)).bind fun t107 => (if a1.size + a2.size ≤ 9223372036854775807 then ((word_Reduce.f k (a1 ++ a2)).bind fun t108 => (if a0.size + t108.size ≤ 9223372036854775807 then ((word_Reduce.f k (a0 ++ t108)).bind fun t109 => (if t107.toList = t109.toList then (if a0.size + 0 ≤ 9223372036854775807 then ((word_Reduce.f k (a0 ++ (⟨#[]⟩ : ByteArray))).bind fun t110 => ((word_Reduce.f k a0).bind fun t111 => (cayleylaw01_WordGroup.j0 k a0 a1 t106 (t110.toList != t111.toList)))) else (none)) else (cayleylaw01_WordGroup.j0 k a0 a1 t106 true))) else (none))) else (none))) else (none))) else (none)) else (some true))) else (some false)) = some r := H
  have A4 := Aside0.mk A40
  clear A40
  by_cases c5 : t101 = true
  · subst c5
    have H1 : ((cayleylaw01_words.f k (([a0, a1, a2] : List ByteArray))).bind fun t105 => (if t105 = true then (if a0.size + a1.size ≤ 9223372036854775807 then ((word_Reduce.f k (a0 ++ a1)).bind fun t106 => (if t106.size + a2.size ≤ 9223372036854775807 then ((word_Reduce.f k (t106 ++ a2)).bind fun t107 => (if a1.size + a2.size ≤ 9223372036854775807 then ((word_Reduce.f k (a1 ++ a2)).bind fun t108 => (if a0.size + t108.size ≤ 9223372036854775807 then ((word_Reduce.f k (a0 ++ t108)).bind fun t109 => (if t107.toList = t109.toList then (if a0.size + 0 ≤ 9223372036854775807 then ((word_Reduce.f k (a0 ++ (⟨#[]⟩ : ByteArray))).bind fun t110 => ((word_Reduce.f k a0).bind fun t111 => (cayleylaw01_WordGroup.j0 k a0 a1 t106 (t110.toList != t111.toList)))) else (none)) else (cayleylaw01_WordGroup.j0 k a0 a1 t106 true))) else (none))) else (none))) else (none))) else (none)) else (some true))) = some r := by rw [if_pos rfl] at H; exact H
    clear H
    have H := H1
    clear H1
    obtain ⟨y102, hy102⟩ : ∃ y_ : List ByteArray, y_ = (([a0, a1, a2] : List ByteArray)) := ⟨_, rfl⟩
    replace H : ((cayleylaw01_words.f k y102).bind fun t105 => (if t105 = true then (if a0.size + a1.size ≤ 9223372036854775807 then ((word_Reduce.f k (a0 ++ a1)).bind fun t106 => (if t106.size + a2.size ≤ 9223372036854775807 then ((word_Reduce.f k (t106 ++ a2)).bind fun t107 => (if a1.size + a2.size ≤ 9223372036854775807 then ((word_Reduce.f k (a1 ++ a2)).bind fun t108 => (if a0.size + t108.size ≤ 9223372036854775807 then ((word_Reduce.f k (a0 ++ t108)).bind fun t109 => (if t107.toList = t109.toList then (if a0.size + 0 ≤ 9223372036854775807 then ((word_Reduce.f k (a0 ++ (⟨#[]⟩ : ByteArray))).bind fun t110 => ((word_Reduce.f k a0).bind fun t111 => (cayleylaw01_WordGroup.j0 k a0 a1 t106 (t110.toList != t111.toList)))) else (none)) else (cayleylaw01_WordGroup.j0 k a0 a1 t106 true))) else (none))) else (none))) else (none))) else (none)) else (some true))) = some r := by first | (rw [hy102]; with_reducible exact H) | (have H2_ := (Option.bind_some _ _).symm.trans H; rw [hy102]; with_reducible exact H2_) | (have H2_ := (Option.bind_some _ _).symm.trans H; with_reducible exact H2_) | with_reducible exact H | (rw [hy102]; exact H) | exact H
    have Ny102 := Aside0.mk hy102
    clear hy102
    replace H := Option.bind_eq_some_iff.mp H
    obtain ⟨t105, A60, H⟩ := H
    replace H : (if t105 = true then (if a0.size + a1.size ≤ 9223372036854775807 then ((word_Reduce.f k (a0 ++ a1)).bind fun t106 => (if t106.size + a2.size ≤ 9223372036854775807 then ((word_Reduce.f k (t106 ++ a2)).bind fun t107 => (if a1.size + a2.size ≤ 9223372036854775807 then ((word_Reduce.f k (a1 ++ a2)).bind fun t108 => (if a0.size + t108.size ≤ 9223372036854775807 then ((word_Reduce.f k (a0 ++ t108)).bind fun t109 => (if t107.toList = t109.toList then (if a0.size + 0 ≤ 9223372036854775807 then ((word_Reduce.f k (a0 ++ (⟨#[]⟩ : ByteArray))).bind fun t110 => ((word_Reduce.f k a0).bind fun t111 => (cayleylaw01_WordGroup.j0 k a0 a1 t106 (t110.toList != t111.toList)))) else (none)) else (cayleylaw01_WordGroup.j0 k a0 a1 t106 true))) else (none))) else (none))) else (none))) else (none)) else (some true)) = some r := H
    have A6 := Aside0.mk A60
    clear A60
    by_cases c7 : t105 = true
    · subst c7
      have H1 : (if a0.size + a1.size ≤ 9223372036854775807 then ((word_Reduce.f k (a0 ++ a1)).bind fun t106 => (if t106.size + a2.size ≤ 9223372036854775807 then ((word_Reduce.f k (t106 ++ a2)).bind fun t107 => (if a1.size + a2.size ≤ 9223372036854775807 then ((word_Reduce.f k (a1 ++ a2)).bind fun t108 => (if a0.size + t108.size ≤ 9223372036854775807 then ((word_Reduce.f k (a0 ++ t108)).bind fun t109 => (if t107.toList = t109.toList then (if a0.size + 0 ≤ 9223372036854775807 then ((word_Reduce.f k (a0 ++ (⟨#[]⟩ : ByteArray))).bind fun t110 => ((word_Reduce.f k a0).bind fun t111 => (cayleylaw01_WordGroup.j0 k a0 a1 t106 (t110.toList != t111.toList)))) else (none)) else (cayleylaw01_WordGroup.j0 k a0 a1 t106 true))) else (none))) else (none))) else (none))) else (none)) = some r := by rw [if_pos rfl] at H; exact H
      clear H
      have H := H1
      clear H1
      by_cases c8 : a0.size + a1.size ≤ 9223372036854775807
      · rw [if_pos c8] at H
        have c8b0 := eq_true c8
        have c8b1 : decide (a0.size + a1.size ≤ 9223372036854775807) = true := decide_eq_true c8
        try have c8b2 : (9223372036854775807 < a0.size + a1.size) = False := eq_false (Nat.not_lt.2 c8)
        replace H := Option.bind_eq_some_iff.mp H
        obtain ⟨t106, A90, H⟩ := H
        replace H : (if t106.size + a2.size ≤ 9223372036854775807 then ((word_Reduce.f k (t106 ++ a2)).bind fun t107 => (if a1.size + a2.size ≤ 9223372036854775807 then ((word_Reduce.f k (a1 ++ a2)).bind fun t108 => (if a0.size + t108.size ≤ 9223372036854775807 then ((word_Reduce.f k (a0 ++ t108)).bind fun t109 => (if t107.toList = t109.toList then (if a0.size + 0 ≤ 9223372036854775807 then ((word_Reduce.f k (a0 ++ (⟨#[]⟩ : ByteArray))).bind fun t110 => ((word_Reduce.f k a0).bind fun t111 => (cayleylaw01_WordGroup.j0 k a0 a1 t106 (t110.toList != t111.toList)))) else (none)) else (cayleylaw01_WordGroup.j0 k a0 a1 t106 true))) else (none))) else (none))) else (none)) = some r := H
        have A9 := Aside0.mk A90
        clear A90
        have HC10 := Aside0.mk H
        clear H
        go_enter Tryz.func6, Tryz.ntmps6
        go_upto_region 6 with (first | ((with_reducible refine gate_callee (f := 11) rfl ?_); refine goesL_ (some 9) rfl rfl Tryz.func11 (by kernel_rfl) rfl #[] rfl (by (try simp only [List.map_toArray, List.map_cons, List.map_nil]); first | done | rfl | (simp only [List.length_drop, List.length_take]; rfl)) ?_; (with_reducible refine (cayleylaw01_sane.calls  true _ A4.out (by first | exact hG | exact GL.step hG (by repeat (first | (with_reducible first | exact HB.out | apply below_alloc | apply pw_below_drewN | apply below_drew1) | exact HB.out)))).mono ?_); rintro e w11 ⟨rfl, hb⟩; refine ⟨_, rfl, ?_⟩; have n0_ := Aside0.mk (below_step (by repeat (first | (with_reducible first | exact HB.out | apply below_alloc | apply pw_below_drewN | apply below_drew1) | exact HB.out)) hb); clear HB; have HB := n0_; clear n0_; (try clear hb); (try clear hb2); (try clear hk); (try clear hi)) | ((with_reducible refine gate_dst (N := 14) rfl ?_); refine Kd.R_lit Kd.string _ 9 ?hg (N := 14) ?hd (xs := ([a0, a1, a2] : List ByteArray)) (inner := [.string a0, .string a1, .string a2]) (ok := fun _ => True) (okp := fun _ => True) ?hr ?hp (fun _ hk => hk) trivial (Below.refl _ _) (Nat.le_refl _) (by simp) ?_; (case hd => rfl); (case hg => rfl); (case hr => first | (go_simp; done) | (go_simp; rfl)); (case hp => exact (Reps.one (show Kd.M Kd.string _ _ _ a0 [.string a0] from rfl) (Reps.one (show Kd.M Kd.string _ _ _ a1 [.string a1] from rfl) (Reps.one (show Kd.M Kd.string _ _ _ a2 [.string a2] from rfl) (Reps.none _ _))))); intro v103 w12 ho13 hb hg_ hnew_; clear hg_ hnew_; (first | rw [← Ny102.out] at ho13 | (simp only [Int.reduceToNat] at ho13; rw [← Ny102.out] at ho13)); have n0_ := Aside0.mk (Kd.R_lower ho13 (below_size (by repeat (first | (with_reducible first | exact HB.out | apply below_alloc | apply pw_below_drewN | apply below_drew1) | exact HB.out)))); have n1_ := Aside0.mk (below_step (by repeat (first | (with_reducible first | exact HB.out | apply below_alloc | apply pw_below_drewN | apply below_drew1) | exact HB.out)) hb); clear HB; have HO104 := n0_; have HB := n1_; clear n0_ n1_; clear hb ho13; obtain ⟨Ao14, co14, eo14⟩ := Kd.R_slice HO104.out; subst eo14) | ((with_reducible refine gate_callee (f := 40) rfl ?_); refine goesL_ (some 15) rfl rfl Tryz.func40 (by kernel_rfl) rfl #[.slice Ao14 y102.length co14] rfl (by (try simp only [List.map_toArray, List.map_cons, List.map_nil]); first | done | rfl | (simp only [List.length_drop, List.length_take]; rfl)) ?_; (with_reducible refine (cayleylaw01_words.calls k _ _ y102 true _ ?side1 ?side2 A6.out).mono ?_); (case side1 => repeat (first | exact (Kd.R_reads' HO104.out).2.2 | (with_reducible refine Kd.C_alloc ?_ _) | (with_reducible refine Kd.C_drewN ?_ _) | (with_reducible refine Kd.C_drew ?_))); (case side2 => exact (Kd.R_reads' HO104.out).2.1); rintro e w' ⟨rfl, ⟨nd, rfl⟩⟩; refine ⟨_, rfl, ?_⟩) | ((with_reducible refine gate_callee (f := 21) rfl ?_); refine goesL_ (some 20) rfl rfl Tryz.func21 (by kernel_rfl) rfl #[.string (a0 ++ a1)] rfl (by (try simp only [List.map_toArray, List.map_cons, List.map_nil]); first | done | rfl | (simp only [List.length_drop, List.length_take]; rfl)) ?_; (with_reducible refine (word_Reduce.calls k (a0 ++ a1) t106 _ A9.out (by first | exact hG | exact GL.step hG (by repeat (first | (with_reducible first | exact HB.out | apply below_alloc | apply pw_below_drewN | apply below_drew1) | exact HB.out)))).mono ?_); rintro e w15 ⟨rfl, hb⟩; refine ⟨_, rfl, ?_⟩; have n0_ := Aside0.mk (Kd.R_below (by (with_reducible repeat (first | apply Kd.R_alloc | apply Kd.R_drewN | apply Kd.R_drew)); exact HO104.out) hb); have n1_ := Aside0.mk (below_step (by repeat (first | (with_reducible first | exact HB.out | apply below_alloc | apply pw_below_drewN | apply below_drew1) | exact HB.out)) hb); clear HO104; clear HB; have HO104 := n0_; have HB := n1_; clear n0_ n1_; (try clear hb); (try clear hb2); (try clear hk); (try clear hi)))
        (try simp only [Act.put, List.setIfInBounds_toArray, List.set_cons_zero, List.set_cons_succ])
        go_cut [40] (fun v40 wc => ∃ (kq : Nat) (x40_9 : Bool), v40 = .bool x40_9 ∧ Aside0 (cayleylaw01_WordGroup.j0 kq a0 a1 t106 x40_9 = some r) ∧ Aside0 (kq ≤ k) ∧ Aside0 (Below w.heap.size w wc))
        case first =>
          have H := HC10.out
          clear HC10
          by_cases c16 : t106.size + a2.size ≤ 9223372036854775807
          · rw [if_pos c16] at H
            have c16b0 := eq_true c16
            have c16b1 : decide (t106.size + a2.size ≤ 9223372036854775807) = true := decide_eq_true c16
            try have c16b2 : (9223372036854775807 < t106.size + a2.size) = False := eq_false (Nat.not_lt.2 c16)
            replace H := Option.bind_eq_some_iff.mp H
            obtain ⟨t107, A170, H⟩ := H
            replace H : (if a1.size + a2.size ≤ 9223372036854775807 then ((word_Reduce.f k (a1 ++ a2)).bind fun t108 => (if a0.size + t108.size ≤ 9223372036854775807 then ((word_Reduce.f k (a0 ++ t108)).bind fun t109 => (if t107.toList = t109.toList then (if a0.size + 0 ≤ 9223372036854775807 then ((word_Reduce.f k (a0 ++ (⟨#[]⟩ : ByteArray))).bind fun t110 => ((word_Reduce.f k a0).bind fun t111 => (cayleylaw01_WordGroup.j0 k a0 a1 t106 (t110.toList != t111.toList)))) else (none)) else (cayleylaw01_WordGroup.j0 k a0 a1 t106 true))) else (none))) else (none)) = some r := H
            have A17 := Aside0.mk A170
            clear A170
            by_cases c18 : a1.size + a2.size ≤ 9223372036854775807
            · rw [if_pos c18] at H
              have c18b0 := eq_true c18
              have c18b1 : decide (a1.size + a2.size ≤ 9223372036854775807) = true := decide_eq_true c18
              try have c18b2 : (9223372036854775807 < a1.size + a2.size) = False := eq_false (Nat.not_lt.2 c18)
              replace H := Option.bind_eq_some_iff.mp H
              obtain ⟨t108, A190, H⟩ := H
              replace H : (if a0.size + t108.size ≤ 9223372036854775807 then ((word_Reduce.f k (a0 ++ t108)).bind fun t109 => (if t107.toList = t109.toList then (if a0.size + 0 ≤ 9223372036854775807 then ((word_Reduce.f k (a0 ++ (⟨#[]⟩ : ByteArray))).bind fun t110 => ((word_Reduce.f k a0).bind fun t111 => (cayleylaw01_WordGroup.j0 k a0 a1 t106 (t110.toList != t111.toList)))) else (none)) else (cayleylaw01_WordGroup.j0 k a0 a1 t106 true))) else (none)) = some r := H
              have A19 := Aside0.mk A190
              clear A190
              by_cases c20 : a0.size + t108.size ≤ 9223372036854775807
              · rw [if_pos c20] at H
                have c20b0 := eq_true c20
                have c20b1 : decide (a0.size + t108.size ≤ 9223372036854775807) = true := decide_eq_true c20
                try have c20b2 : (9223372036854775807 < a0.size + t108.size) = False := eq_false (Nat.not_lt.2 c20)
                replace H := Option.bind_eq_some_iff.mp H
                obtain ⟨t109, A210, H⟩ := H
                replace H : (if t107.toList = t109.toList then (if a0.size + 0 ≤ 9223372036854775807 then ((word_Reduce.f k (a0 ++ (⟨#[]⟩ : ByteArray))).bind fun t110 => ((word_Reduce.f k a0).bind fun t111 => (cayleylaw01_WordGroup.j0 k a0 a1 t106 (t110.toList != t111.toList)))) else (none)) else (cayleylaw01_WordGroup.j0 k a0 a1 t106 true)) = some r := H
                have A21 := Aside0.mk A210
                clear A210
                by_cases c22 : t107.toList = t109.toList
                · rw [if_pos c22] at H
                  have c22b0 : (t107.toList == t109.toList) = true := beq_iff_eq.mpr c22
                  have c22b1 : (t107.toList != t109.toList) = false := bne_eq_false_iff_eq.mpr c22
                  clear c22
                  (first | rw [c22b0] | (simp only [i64_w, i32_w]; rw [c22b0]) | skip)
                  by_cases c23 : a0.size + 0 ≤ 9223372036854775807
                  · rw [if_pos c23] at H
                    have c23b0 := eq_true c23
                    have c23b1 : decide (a0.size + 0 ≤ 9223372036854775807) = true := decide_eq_true c23
                    try have c23b2 : (9223372036854775807 < a0.size + 0) = False := eq_false (Nat.not_lt.2 c23)
                    replace H := Option.bind_eq_some_iff.mp H
                    obtain ⟨t110, A240, H⟩ := H
                    replace H : ((word_Reduce.f k a0).bind fun t111 => (cayleylaw01_WordGroup.j0 k a0 a1 t106 (t110.toList != t111.toList))) = some r := H
                    have A24 := Aside0.mk A240
                    clear A240
                    replace H := Option.bind_eq_some_iff.mp H
                    obtain ⟨t111, A250, H⟩ := H
                    replace H : (cayleylaw01_WordGroup.j0 k a0 a1 t106 (t110.toList != t111.toList)) = some r := H
                    have A25 := Aside0.mk A250
                    clear A250
                    have H' := Aside0.mk H
                    clear H
                    go_wp2_with (first | ((with_reducible refine gate_callee (f := 21) rfl ?_); refine goesL_ (some 24) rfl rfl Tryz.func21 (by kernel_rfl) rfl #[.string (t106 ++ a2)] rfl (by (try simp only [List.map_toArray, List.map_cons, List.map_nil]); first | done | rfl | (simp only [List.length_drop, List.length_take]; rfl)) ?_; (with_reducible refine (word_Reduce.calls k (t106 ++ a2) t107 _ A17.out (by first | exact hG | exact GL.step hG (by repeat (first | (with_reducible first | exact HB.out | apply below_alloc | apply pw_below_drewN | apply below_drew1) | exact HB.out)))).mono ?_); rintro e w26 ⟨rfl, hb⟩; refine ⟨_, rfl, ?_⟩; have n0_ := Aside0.mk (Kd.R_below (by (with_reducible repeat (first | apply Kd.R_alloc | apply Kd.R_drewN | apply Kd.R_drew)); exact HO104.out) hb); have n1_ := Aside0.mk (below_step (by repeat (first | (with_reducible first | exact HB.out | apply below_alloc | apply pw_below_drewN | apply below_drew1) | exact HB.out)) hb); clear HO104; clear HB; have HO104 := n0_; have HB := n1_; clear n0_ n1_; (try clear hb); (try clear hb2); (try clear hk); (try clear hi)) | ((with_reducible refine gate_callee (f := 21) rfl ?_); refine goesL_ (some 29) rfl rfl Tryz.func21 (by kernel_rfl) rfl #[.string (a1 ++ a2)] rfl (by (try simp only [List.map_toArray, List.map_cons, List.map_nil]); first | done | rfl | (simp only [List.length_drop, List.length_take]; rfl)) ?_; (with_reducible refine (word_Reduce.calls k (a1 ++ a2) t108 _ A19.out (by first | exact hG | exact GL.step hG (by repeat (first | (with_reducible first | exact HB.out | apply below_alloc | apply pw_below_drewN | apply below_drew1) | exact HB.out)))).mono ?_); rintro e w27 ⟨rfl, hb⟩; refine ⟨_, rfl, ?_⟩; have n0_ := Aside0.mk (Kd.R_below (by (with_reducible repeat (first | apply Kd.R_alloc | apply Kd.R_drewN | apply Kd.R_drew)); exact HO104.out) hb); have n1_ := Aside0.mk (below_step (by repeat (first | (with_reducible first | exact HB.out | apply below_alloc | apply pw_below_drewN | apply below_drew1) | exact HB.out)) hb); clear HO104; clear HB; have HO104 := n0_; have HB := n1_; clear n0_ n1_; (try clear hb); (try clear hb2); (try clear hk); (try clear hi)) | ((with_reducible refine gate_callee (f := 21) rfl ?_); refine goesL_ (some 31) rfl rfl Tryz.func21 (by kernel_rfl) rfl #[.string (a0 ++ t108)] rfl (by (try simp only [List.map_toArray, List.map_cons, List.map_nil]); first | done | rfl | (simp only [List.length_drop, List.length_take]; rfl)) ?_; (with_reducible refine (word_Reduce.calls k (a0 ++ t108) t109 _ A21.out (by first | exact hG | exact GL.step hG (by repeat (first | (with_reducible first | exact HB.out | apply below_alloc | apply pw_below_drewN | apply below_drew1) | exact HB.out)))).mono ?_); rintro e w28 ⟨rfl, hb⟩; refine ⟨_, rfl, ?_⟩; have n0_ := Aside0.mk (Kd.R_below (by (with_reducible repeat (first | apply Kd.R_alloc | apply Kd.R_drewN | apply Kd.R_drew)); exact HO104.out) hb); have n1_ := Aside0.mk (below_step (by repeat (first | (with_reducible first | exact HB.out | apply below_alloc | apply pw_below_drewN | apply below_drew1) | exact HB.out)) hb); clear HO104; clear HB; have HO104 := n0_; have HB := n1_; clear n0_ n1_; (try clear hb); (try clear hb2); (try clear hk); (try clear hi)) | (go_at_call 21; (with_reducible refine (word_Reduce.calls k (a0 ++ (⟨#[]⟩ : ByteArray)) t110 _ A24.out (by first | exact hG | exact GL.step hG (by repeat (first | (with_reducible first | exact HB.out | apply below_alloc | apply pw_below_drewN | apply below_drew1) | exact HB.out)))).mono ?_); rintro e w29 ⟨rfl, hb⟩; have n0_ := Aside0.mk (Kd.R_below (by (with_reducible repeat (first | apply Kd.R_alloc | apply Kd.R_drewN | apply Kd.R_drew)); exact HO104.out) hb); have n1_ := Aside0.mk (below_step (by repeat (first | (with_reducible first | exact HB.out | apply below_alloc | apply pw_below_drewN | apply below_drew1) | exact HB.out)) hb); clear HO104; clear HB; have HO104 := n0_; have HB := n1_; clear n0_ n1_; (try clear hb); (try clear hb2); (try clear hk); (try clear hi)) | (go_at_call 21; (with_reducible refine (word_Reduce.calls k a0 t111 _ A25.out (by first | exact hG | exact GL.step hG (by repeat (first | (with_reducible first | exact HB.out | apply below_alloc | apply pw_below_drewN | apply below_drew1) | exact HB.out)))).mono ?_); rintro e w30 ⟨rfl, hb⟩; have n0_ := Aside0.mk (Kd.R_below (by (with_reducible repeat (first | apply Kd.R_alloc | apply Kd.R_drewN | apply Kd.R_drew)); exact HO104.out) hb); have n1_ := Aside0.mk (below_step (by repeat (first | (with_reducible first | exact HB.out | apply below_alloc | apply pw_below_drewN | apply below_drew1) | exact HB.out)) hb); clear HO104; clear HB; have HO104 := n0_; have HB := n1_; clear n0_ n1_; (try clear hb); (try clear hb2); (try clear hk); (try clear hi)))
                    go_meet
                    case rel => exact ⟨_, ((t110.toList != t111.toList)), (by first | rfl | (simp; done) | (simp [*]; done)), H', ⟨by first | omega | exact Nat.le_refl _⟩, ⟨by repeat (first | (with_reducible first | exact HB.out | apply below_alloc | apply pw_below_drewN | apply below_drew1) | exact HB.out)⟩⟩
                  · rw [if_neg c23] at H
                    exact absurd H (by simp)
                · rw [if_neg c22] at H
                  have c22b0 : (t107.toList == t109.toList) = false := beq_eq_false_iff_ne.mpr c22
                  have c22b1 : (t107.toList != t109.toList) = true := bne_iff_ne.mpr c22
                  (first | rw [c22b0] | (simp only [i64_w, i32_w]; rw [c22b0]) | skip)
                  have H' := Aside0.mk H
                  clear H
                  go_wp2_with (first | ((with_reducible refine gate_callee (f := 21) rfl ?_); refine goesL_ (some 24) rfl rfl Tryz.func21 (by kernel_rfl) rfl #[.string (t106 ++ a2)] rfl (by (try simp only [List.map_toArray, List.map_cons, List.map_nil]); first | done | rfl | (simp only [List.length_drop, List.length_take]; rfl)) ?_; (with_reducible refine (word_Reduce.calls k (t106 ++ a2) t107 _ A17.out (by first | exact hG | exact GL.step hG (by repeat (first | (with_reducible first | exact HB.out | apply below_alloc | apply pw_below_drewN | apply below_drew1) | exact HB.out)))).mono ?_); rintro e w31 ⟨rfl, hb⟩; refine ⟨_, rfl, ?_⟩; have n0_ := Aside0.mk (Kd.R_below (by (with_reducible repeat (first | apply Kd.R_alloc | apply Kd.R_drewN | apply Kd.R_drew)); exact HO104.out) hb); have n1_ := Aside0.mk (below_step (by repeat (first | (with_reducible first | exact HB.out | apply below_alloc | apply pw_below_drewN | apply below_drew1) | exact HB.out)) hb); clear HO104; clear HB; have HO104 := n0_; have HB := n1_; clear n0_ n1_; (try clear hb); (try clear hb2); (try clear hk); (try clear hi)) | ((with_reducible refine gate_callee (f := 21) rfl ?_); refine goesL_ (some 29) rfl rfl Tryz.func21 (by kernel_rfl) rfl #[.string (a1 ++ a2)] rfl (by (try simp only [List.map_toArray, List.map_cons, List.map_nil]); first | done | rfl | (simp only [List.length_drop, List.length_take]; rfl)) ?_; (with_reducible refine (word_Reduce.calls k (a1 ++ a2) t108 _ A19.out (by first | exact hG | exact GL.step hG (by repeat (first | (with_reducible first | exact HB.out | apply below_alloc | apply pw_below_drewN | apply below_drew1) | exact HB.out)))).mono ?_); rintro e w32 ⟨rfl, hb⟩; refine ⟨_, rfl, ?_⟩; have n0_ := Aside0.mk (Kd.R_below (by (with_reducible repeat (first | apply Kd.R_alloc | apply Kd.R_drewN | apply Kd.R_drew)); exact HO104.out) hb); have n1_ := Aside0.mk (below_step (by repeat (first | (with_reducible first | exact HB.out | apply below_alloc | apply pw_below_drewN | apply below_drew1) | exact HB.out)) hb); clear HO104; clear HB; have HO104 := n0_; have HB := n1_; clear n0_ n1_; (try clear hb); (try clear hb2); (try clear hk); (try clear hi)) | ((with_reducible refine gate_callee (f := 21) rfl ?_); refine goesL_ (some 31) rfl rfl Tryz.func21 (by kernel_rfl) rfl #[.string (a0 ++ t108)] rfl (by (try simp only [List.map_toArray, List.map_cons, List.map_nil]); first | done | rfl | (simp only [List.length_drop, List.length_take]; rfl)) ?_; (with_reducible refine (word_Reduce.calls k (a0 ++ t108) t109 _ A21.out (by first | exact hG | exact GL.step hG (by repeat (first | (with_reducible first | exact HB.out | apply below_alloc | apply pw_below_drewN | apply below_drew1) | exact HB.out)))).mono ?_); rintro e w33 ⟨rfl, hb⟩; refine ⟨_, rfl, ?_⟩; have n0_ := Aside0.mk (Kd.R_below (by (with_reducible repeat (first | apply Kd.R_alloc | apply Kd.R_drewN | apply Kd.R_drew)); exact HO104.out) hb); have n1_ := Aside0.mk (below_step (by repeat (first | (with_reducible first | exact HB.out | apply below_alloc | apply pw_below_drewN | apply below_drew1) | exact HB.out)) hb); clear HO104; clear HB; have HO104 := n0_; have HB := n1_; clear n0_ n1_; (try clear hb); (try clear hb2); (try clear hk); (try clear hi)))
                  go_meet
                  case rel => exact ⟨_, (true), (by first | rfl | (simp; done) | (simp [*]; done)), H', ⟨by first | omega | exact Nat.le_refl _⟩, ⟨by repeat (first | (with_reducible first | exact HB.out | apply below_alloc | apply pw_below_drewN | apply below_drew1) | exact HB.out)⟩⟩
              · rw [if_neg c20] at H
                exact absurd H (by simp)
            · rw [if_neg c18] at H
              exact absurd H (by simp)
          · rw [if_neg c16] at H
            exact absurd H (by simp)
        case rest =>
          clear HC10
          try clear c1
          try clear c2
          try clear p2
          try clear c4
          try clear c5
          try clear c6
          try clear c7
          try clear c8
          try clear c8b0
          try clear c8b1
          try clear c8b2
          try clear c11
          try clear c16
          try clear c16b0
          try clear c16b1
          try clear c16b2
          try clear c18
          try clear c18b0
          try clear c18b1
          try clear c18b2
          try clear c20
          try clear c20b0
          try clear c20b1
          try clear c20b2
          try clear c21
          try clear c22
          try clear c22b0
          try clear c22b1
          try clear c23
          try clear c23b0
          try clear c23b1
          try clear c23b2
          obtain ⟨kq, x40_9, rfl, HA, HJ9, HB⟩ := hcut
          cases kq with
          | zero => exact absurd HA.out (by simp [cayleylaw01_WordGroup.j0])
          | succ kj9 =>
            have H := HA.out
            clear HA
            simp only [cayleylaw01_WordGroup.j0] at H
            by_cases c34 : x40_9 = true
            · subst c34
              have H1 : (some false) = some r := by rw [if_pos rfl] at H; exact H
              clear H
              have H := H1
              clear H1
              obtain rfl := Option.some.inj H
              go_wp2
              go_ret
              exact ⟨by first | rfl | (simp [errW_none, errW_some] <;> rfl) | (simp [*, errW_none, errW_some] <;> rfl), by repeat (first | (with_reducible first | exact HB.out | apply below_alloc | apply pw_below_drewN | apply below_drew1) | exact HB.out)⟩
            · replace c34 := Bool.eq_false_iff.mpr c34
              subst c34
              have H1 : ((word_Inverse.f kj9 a0).bind fun t112 => (if a0.size + t112.size ≤ 9223372036854775807 then ((word_Reduce.f kj9 (a0 ++ t112)).bind fun t113 => (if t113.toList = ([] : List UInt8) then (if t112.size + a0.size ≤ 9223372036854775807 then ((word_Reduce.f kj9 (t112 ++ a0)).bind fun t114 => (if t114.toList = ([] : List UInt8) then ((word_Inverse.f kj9 t112).bind fun t115 => (if t115.toList = a0.toList then (if a0.size + a1.size ≤ 9223372036854775807 then ((word_Inverse.f kj9 (a0 ++ a1)).bind fun t116 => ((word_Inverse.f kj9 a1).bind fun t117 => (if t117.size + t112.size ≤ 9223372036854775807 then (if t116.toList = (t117 ++ t112).toList then ((word_Inverse.f kj9 t106).bind fun t118 => ((word_Reduce.f kj9 t118).bind fun t119 => ((word_Inverse.f kj9 a1).bind fun t120 => (if t120.size + t112.size ≤ 9223372036854775807 then ((word_Reduce.f kj9 (t120 ++ t112)).bind fun t121 => (some (t119.toList == t121.toList))) else (none))))) else (some false)) else (none)))) else (none)) else (some false))) else (some false))) else (none)) else (some false))) else (none))) = some r := by rw [if_neg (show ¬ (false = true) by decide)] at H; exact H
              clear H
              have H := H1
              clear H1
              replace H := Option.bind_eq_some_iff.mp H
              obtain ⟨t112, A350, H⟩ := H
              replace H : (if a0.size + t112.size ≤ 9223372036854775807 then ((word_Reduce.f kj9 (a0 ++ t112)).bind fun t113 => (if t113.toList = ([] : List UInt8) then (if t112.size + a0.size ≤ 9223372036854775807 then ((word_Reduce.f kj9 (t112 ++ a0)).bind fun t114 => (if t114.toList = ([] : List UInt8) then ((word_Inverse.f kj9 t112).bind fun t115 => (if t115.toList = a0.toList then (if a0.size + a1.size ≤ 9223372036854775807 then ((word_Inverse.f kj9 (a0 ++ a1)).bind fun t116 => ((word_Inverse.f kj9 a1).bind fun t117 => (if t117.size + t112.size ≤ 9223372036854775807 then (if t116.toList = (t117 ++ t112).toList then ((word_Inverse.f kj9 t106).bind fun t118 => ((word_Reduce.f kj9 t118).bind fun t119 => ((word_Inverse.f kj9 a1).bind fun t120 => (if t120.size + t112.size ≤ 9223372036854775807 then ((word_Reduce.f kj9 (t120 ++ t112)).bind fun t121 => (some (t119.toList == t121.toList))) else (none))))) else (some false)) else (none)))) else (none)) else (some false))) else (some false))) else (none)) else (some false))) else (none)) = some r := H
              have A35 := Aside0.mk A350
              clear A350
              by_cases c36 : a0.size + t112.size ≤ 9223372036854775807
              · rw [if_pos c36] at H
                have c36b0 := eq_true c36
                have c36b1 : decide (a0.size + t112.size ≤ 9223372036854775807) = true := decide_eq_true c36
                try have c36b2 : (9223372036854775807 < a0.size + t112.size) = False := eq_false (Nat.not_lt.2 c36)
                replace H := Option.bind_eq_some_iff.mp H
                obtain ⟨t113, A370, H⟩ := H
                replace H : (if t113.toList = ([] : List UInt8) then (if t112.size + a0.size ≤ 9223372036854775807 then ((word_Reduce.f kj9 (t112 ++ a0)).bind fun t114 => (if t114.toList = ([] : List UInt8) then ((word_Inverse.f kj9 t112).bind fun t115 => (if t115.toList = a0.toList then (if a0.size + a1.size ≤ 9223372036854775807 then ((word_Inverse.f kj9 (a0 ++ a1)).bind fun t116 => ((word_Inverse.f kj9 a1).bind fun t117 => (if t117.size + t112.size ≤ 9223372036854775807 then (if t116.toList = (t117 ++ t112).toList then ((word_Inverse.f kj9 t106).bind fun t118 => ((word_Reduce.f kj9 t118).bind fun t119 => ((word_Inverse.f kj9 a1).bind fun t120 => (if t120.size + t112.size ≤ 9223372036854775807 then ((word_Reduce.f kj9 (t120 ++ t112)).bind fun t121 => (some (t119.toList == t121.toList))) else (none))))) else (some false)) else (none)))) else (none)) else (some false))) else (some false))) else (none)) else (some false)) = some r := H
                have A37 := Aside0.mk A370
                clear A370
                by_cases c38 : t113.toList = ([] : List UInt8)
                · rw [if_pos c38] at H
                  have c38b0 : (t113.toList == ([] : List UInt8)) = true := beq_iff_eq.mpr c38
                  have c38b1 : (t113.toList != ([] : List UInt8)) = false := bne_eq_false_iff_eq.mpr c38
                  clear c38
                  by_cases c39 : t112.size + a0.size ≤ 9223372036854775807
                  · rw [if_pos c39] at H
                    have c39b0 := eq_true c39
                    have c39b1 : decide (t112.size + a0.size ≤ 9223372036854775807) = true := decide_eq_true c39
                    try have c39b2 : (9223372036854775807 < t112.size + a0.size) = False := eq_false (Nat.not_lt.2 c39)
                    replace H := Option.bind_eq_some_iff.mp H
                    obtain ⟨t114, A400, H⟩ := H
                    replace H : (if t114.toList = ([] : List UInt8) then ((word_Inverse.f kj9 t112).bind fun t115 => (if t115.toList = a0.toList then (if a0.size + a1.size ≤ 9223372036854775807 then ((word_Inverse.f kj9 (a0 ++ a1)).bind fun t116 => ((word_Inverse.f kj9 a1).bind fun t117 => (if t117.size + t112.size ≤ 9223372036854775807 then (if t116.toList = (t117 ++ t112).toList then ((word_Inverse.f kj9 t106).bind fun t118 => ((word_Reduce.f kj9 t118).bind fun t119 => ((word_Inverse.f kj9 a1).bind fun t120 => (if t120.size + t112.size ≤ 9223372036854775807 then ((word_Reduce.f kj9 (t120 ++ t112)).bind fun t121 => (some (t119.toList == t121.toList))) else (none))))) else (some false)) else (none)))) else (none)) else (some false))) else (some false)) = some r := H
                    have A40 := Aside0.mk A400
                    clear A400
                    by_cases c41 : t114.toList = ([] : List UInt8)
                    · rw [if_pos c41] at H
                      have c41b0 : (t114.toList == ([] : List UInt8)) = true := beq_iff_eq.mpr c41
                      have c41b1 : (t114.toList != ([] : List UInt8)) = false := bne_eq_false_iff_eq.mpr c41
                      clear c41
                      replace H := Option.bind_eq_some_iff.mp H
                      obtain ⟨t115, A420, H⟩ := H
                      replace H : (if t115.toList = a0.toList then (if a0.size + a1.size ≤ 9223372036854775807 then ((word_Inverse.f kj9 (a0 ++ a1)).bind fun t116 => ((word_Inverse.f kj9 a1).bind fun t117 => (if t117.size + t112.size ≤ 9223372036854775807 then (if t116.toList = (t117 ++ t112).toList then ((word_Inverse.f kj9 t106).bind fun t118 => ((word_Reduce.f kj9 t118).bind fun t119 => ((word_Inverse.f kj9 a1).bind fun t120 => (if t120.size + t112.size ≤ 9223372036854775807 then ((word_Reduce.f kj9 (t120 ++ t112)).bind fun t121 => (some (t119.toList == t121.toList))) else (none))))) else (some false)) else (none)))) else (none)) else (some false)) = some r := H
                      have A42 := Aside0.mk A420
                      clear A420
                      by_cases c43 : t115.toList = a0.toList
                      · rw [if_pos c43] at H
                        have c43b0 : (t115.toList == a0.toList) = true := beq_iff_eq.mpr c43
                        have c43b1 : (t115.toList != a0.toList) = false := bne_eq_false_iff_eq.mpr c43
                        clear c43
                        by_cases c44 : a0.size + a1.size ≤ 9223372036854775807
                        · rw [if_pos c44] at H
                          have c44b0 := eq_true c44
                          have c44b1 : decide (a0.size + a1.size ≤ 9223372036854775807) = true := decide_eq_true c44
                          try have c44b2 : (9223372036854775807 < a0.size + a1.size) = False := eq_false (Nat.not_lt.2 c44)
                          replace H := Option.bind_eq_some_iff.mp H
                          obtain ⟨t116, A450, H⟩ := H
                          replace H : ((word_Inverse.f kj9 a1).bind fun t117 => (if t117.size + t112.size ≤ 9223372036854775807 then (if t116.toList = (t117 ++ t112).toList then ((word_Inverse.f kj9 t106).bind fun t118 => ((word_Reduce.f kj9 t118).bind fun t119 => ((word_Inverse.f kj9 a1).bind fun t120 => (if t120.size + t112.size ≤ 9223372036854775807 then ((word_Reduce.f kj9 (t120 ++ t112)).bind fun t121 => (some (t119.toList == t121.toList))) else (none))))) else (some false)) else (none))) = some r := H
                          have A45 := Aside0.mk A450
                          clear A450
                          replace H := Option.bind_eq_some_iff.mp H
                          obtain ⟨t117, A460, H⟩ := H
                          replace H : (if t117.size + t112.size ≤ 9223372036854775807 then (if t116.toList = (t117 ++ t112).toList then ((word_Inverse.f kj9 t106).bind fun t118 => ((word_Reduce.f kj9 t118).bind fun t119 => ((word_Inverse.f kj9 a1).bind fun t120 => (if t120.size + t112.size ≤ 9223372036854775807 then ((word_Reduce.f kj9 (t120 ++ t112)).bind fun t121 => (some (t119.toList == t121.toList))) else (none))))) else (some false)) else (none)) = some r := H
                          have A46 := Aside0.mk A460
                          clear A460
                          by_cases c47 : t117.size + t112.size ≤ 9223372036854775807
                          · rw [if_pos c47] at H
                            have c47b0 := eq_true c47
                            have c47b1 : decide (t117.size + t112.size ≤ 9223372036854775807) = true := decide_eq_true c47
                            try have c47b2 : (9223372036854775807 < t117.size + t112.size) = False := eq_false (Nat.not_lt.2 c47)
                            by_cases c48 : t116.toList = (t117 ++ t112).toList
                            · rw [if_pos c48] at H
                              have c48b0 : (t116.toList == (t117 ++ t112).toList) = true := beq_iff_eq.mpr c48
                              have c48b1 : (t116.toList != (t117 ++ t112).toList) = false := bne_eq_false_iff_eq.mpr c48
                              clear c48
                              replace H := Option.bind_eq_some_iff.mp H
                              obtain ⟨t118, A490, H⟩ := H
                              replace H : ((word_Reduce.f kj9 t118).bind fun t119 => ((word_Inverse.f kj9 a1).bind fun t120 => (if t120.size + t112.size ≤ 9223372036854775807 then ((word_Reduce.f kj9 (t120 ++ t112)).bind fun t121 => (some (t119.toList == t121.toList))) else (none)))) = some r := H
                              have A49 := Aside0.mk A490
                              clear A490
                              replace H := Option.bind_eq_some_iff.mp H
                              obtain ⟨t119, A500, H⟩ := H
                              replace H : ((word_Inverse.f kj9 a1).bind fun t120 => (if t120.size + t112.size ≤ 9223372036854775807 then ((word_Reduce.f kj9 (t120 ++ t112)).bind fun t121 => (some (t119.toList == t121.toList))) else (none))) = some r := H
                              have A50 := Aside0.mk A500
                              clear A500
                              replace H := Option.bind_eq_some_iff.mp H
                              obtain ⟨t120, A510, H⟩ := H
                              replace H : (if t120.size + t112.size ≤ 9223372036854775807 then ((word_Reduce.f kj9 (t120 ++ t112)).bind fun t121 => (some (t119.toList == t121.toList))) else (none)) = some r := H
                              have A51 := Aside0.mk A510
                              clear A510
                              by_cases c52 : t120.size + t112.size ≤ 9223372036854775807
                              · rw [if_pos c52] at H
                                have c52b0 := eq_true c52
                                have c52b1 : decide (t120.size + t112.size ≤ 9223372036854775807) = true := decide_eq_true c52
                                try have c52b2 : (9223372036854775807 < t120.size + t112.size) = False := eq_false (Nat.not_lt.2 c52)
                                replace H := Option.bind_eq_some_iff.mp H
                                obtain ⟨t121, A530, H⟩ := H
                                replace H : (some (t119.toList == t121.toList)) = some r := H
                                have A53 := Aside0.mk A530
                                clear A530
                                obtain rfl := Option.some.inj H
                                obtain rfl : t117 = t120 := Option.some.inj (A46.out.symm.trans A51.out)
                                go_wp2_with (first | ((with_reducible refine gate_callee (f := 19) rfl ?_); refine goesL_ (some 42) rfl rfl Tryz.func19 (by kernel_rfl) rfl #[.string a0] rfl (by (try simp only [List.map_toArray, List.map_cons, List.map_nil]); first | done | rfl | (simp only [List.length_drop, List.length_take]; rfl)) ?_; (with_reducible refine (word_Inverse.calls kj9 a0 t112 _ A35.out (by first | exact hG | exact GL.step hG (by repeat (first | (with_reducible first | exact HB.out | apply below_alloc | apply pw_below_drewN | apply below_drew1) | exact HB.out)))).mono ?_); rintro e w54 ⟨rfl, hb⟩; refine ⟨_, rfl, ?_⟩; have n0_ := Aside0.mk (below_step (by repeat (first | (with_reducible first | exact HB.out | apply below_alloc | apply pw_below_drewN | apply below_drew1) | exact HB.out)) hb); clear HB; have HB := n0_; clear n0_; (try clear hb); (try clear hb2); (try clear hk); (try clear hi)) | ((with_reducible refine gate_callee (f := 21) rfl ?_); refine goesL_ (some 46) rfl rfl Tryz.func21 (by kernel_rfl) rfl #[.string (a0 ++ t112)] rfl (by (try simp only [List.map_toArray, List.map_cons, List.map_nil]); first | done | rfl | (simp only [List.length_drop, List.length_take]; rfl)) ?_; (with_reducible refine (word_Reduce.calls kj9 (a0 ++ t112) t113 _ A37.out (by first | exact hG | exact GL.step hG (by repeat (first | (with_reducible first | exact HB.out | apply below_alloc | apply pw_below_drewN | apply below_drew1) | exact HB.out)))).mono ?_); rintro e w55 ⟨rfl, hb⟩; refine ⟨_, rfl, ?_⟩; have n0_ := Aside0.mk (below_step (by repeat (first | (with_reducible first | exact HB.out | apply below_alloc | apply pw_below_drewN | apply below_drew1) | exact HB.out)) hb); clear HB; have HB := n0_; clear n0_; (try clear hb); (try clear hb2); (try clear hk); (try clear hi)) | (go_at_call 21; (with_reducible refine (word_Reduce.calls kj9 (t112 ++ a0) t114 _ A40.out (by first | exact hG | exact GL.step hG (by repeat (first | (with_reducible first | exact HB.out | apply below_alloc | apply pw_below_drewN | apply below_drew1) | exact HB.out)))).mono ?_); rintro e w56 ⟨rfl, hb⟩; have n0_ := Aside0.mk (below_step (by repeat (first | (with_reducible first | exact HB.out | apply below_alloc | apply pw_below_drewN | apply below_drew1) | exact HB.out)) hb); clear HB; have HB := n0_; clear n0_; (try clear hb); (try clear hb2); (try clear hk); (try clear hi)) | (go_at_call 19; (with_reducible refine (word_Inverse.calls kj9 t112 t115 _ A42.out (by first | exact hG | exact GL.step hG (by repeat (first | (with_reducible first | exact HB.out | apply below_alloc | apply pw_below_drewN | apply below_drew1) | exact HB.out)))).mono ?_); rintro e w57 ⟨rfl, hb⟩; have n0_ := Aside0.mk (below_step (by repeat (first | (with_reducible first | exact HB.out | apply below_alloc | apply pw_below_drewN | apply below_drew1) | exact HB.out)) hb); clear HB; have HB := n0_; clear n0_; (try clear hb); (try clear hb2); (try clear hk); (try clear hi)) | (go_at_call 19; (with_reducible refine (word_Inverse.calls kj9 (a0 ++ a1) t116 _ A45.out (by first | exact hG | exact GL.step hG (by repeat (first | (with_reducible first | exact HB.out | apply below_alloc | apply pw_below_drewN | apply below_drew1) | exact HB.out)))).mono ?_); rintro e w58 ⟨rfl, hb⟩; have n0_ := Aside0.mk (below_step (by repeat (first | (with_reducible first | exact HB.out | apply below_alloc | apply pw_below_drewN | apply below_drew1) | exact HB.out)) hb); clear HB; have HB := n0_; clear n0_; (try clear hb); (try clear hb2); (try clear hk); (try clear hi)) | (go_at_call 19; (with_reducible refine (word_Inverse.calls kj9 a1 t117 _ A46.out (by first | exact hG | exact GL.step hG (by repeat (first | (with_reducible first | exact HB.out | apply below_alloc | apply pw_below_drewN | apply below_drew1) | exact HB.out)))).mono ?_); rintro e w59 ⟨rfl, hb⟩; have n0_ := Aside0.mk (below_step (by repeat (first | (with_reducible first | exact HB.out | apply below_alloc | apply pw_below_drewN | apply below_drew1) | exact HB.out)) hb); clear HB; have HB := n0_; clear n0_; (try clear hb); (try clear hb2); (try clear hk); (try clear hi)) | (go_at_call 19; (with_reducible refine (word_Inverse.calls kj9 t106 t118 _ A49.out (by first | exact hG | exact GL.step hG (by repeat (first | (with_reducible first | exact HB.out | apply below_alloc | apply pw_below_drewN | apply below_drew1) | exact HB.out)))).mono ?_); rintro e w60 ⟨rfl, hb⟩; have n0_ := Aside0.mk (below_step (by repeat (first | (with_reducible first | exact HB.out | apply below_alloc | apply pw_below_drewN | apply below_drew1) | exact HB.out)) hb); clear HB; have HB := n0_; clear n0_; (try clear hb); (try clear hb2); (try clear hk); (try clear hi)) | (go_at_call 21; (with_reducible refine (word_Reduce.calls kj9 t118 t119 _ A50.out (by first | exact hG | exact GL.step hG (by repeat (first | (with_reducible first | exact HB.out | apply below_alloc | apply pw_below_drewN | apply below_drew1) | exact HB.out)))).mono ?_); rintro e w61 ⟨rfl, hb⟩; have n0_ := Aside0.mk (below_step (by repeat (first | (with_reducible first | exact HB.out | apply below_alloc | apply pw_below_drewN | apply below_drew1) | exact HB.out)) hb); clear HB; have HB := n0_; clear n0_; (try clear hb); (try clear hb2); (try clear hk); (try clear hi)) | (go_at_call 19; (with_reducible refine (word_Inverse.calls kj9 a1 t117 _ A51.out (by first | exact hG | exact GL.step hG (by repeat (first | (with_reducible first | exact HB.out | apply below_alloc | apply pw_below_drewN | apply below_drew1) | exact HB.out)))).mono ?_); rintro e w62 ⟨rfl, hb⟩; have n0_ := Aside0.mk (below_step (by repeat (first | (with_reducible first | exact HB.out | apply below_alloc | apply pw_below_drewN | apply below_drew1) | exact HB.out)) hb); clear HB; have HB := n0_; clear n0_; (try clear hb); (try clear hb2); (try clear hk); (try clear hi)) | (go_at_call 21; (with_reducible refine (word_Reduce.calls kj9 (t117 ++ t112) t121 _ A53.out (by first | exact hG | exact GL.step hG (by repeat (first | (with_reducible first | exact HB.out | apply below_alloc | apply pw_below_drewN | apply below_drew1) | exact HB.out)))).mono ?_); rintro e w63 ⟨rfl, hb⟩; have n0_ := Aside0.mk (below_step (by repeat (first | (with_reducible first | exact HB.out | apply below_alloc | apply pw_below_drewN | apply below_drew1) | exact HB.out)) hb); clear HB; have HB := n0_; clear n0_; (try clear hb); (try clear hb2); (try clear hk); (try clear hi)))
                                go_ret
                                exact ⟨by first | rfl | (simp [errW_none, errW_some] <;> rfl) | (simp [*, errW_none, errW_some] <;> rfl), by repeat (first | (with_reducible first | exact HB.out | apply below_alloc | apply pw_below_drewN | apply below_drew1) | exact HB.out)⟩
                              · rw [if_neg c52] at H
                                exact absurd H (by simp)
                            · rw [if_neg c48] at H
                              have c48b0 : (t116.toList == (t117 ++ t112).toList) = false := beq_eq_false_iff_ne.mpr c48
                              have c48b1 : (t116.toList != (t117 ++ t112).toList) = true := bne_iff_ne.mpr c48
                              obtain rfl := Option.some.inj H
                              go_wp2_with (first | ((with_reducible refine gate_callee (f := 19) rfl ?_); refine goesL_ (some 42) rfl rfl Tryz.func19 (by kernel_rfl) rfl #[.string a0] rfl (by (try simp only [List.map_toArray, List.map_cons, List.map_nil]); first | done | rfl | (simp only [List.length_drop, List.length_take]; rfl)) ?_; (with_reducible refine (word_Inverse.calls kj9 a0 t112 _ A35.out (by first | exact hG | exact GL.step hG (by repeat (first | (with_reducible first | exact HB.out | apply below_alloc | apply pw_below_drewN | apply below_drew1) | exact HB.out)))).mono ?_); rintro e w64 ⟨rfl, hb⟩; refine ⟨_, rfl, ?_⟩; have n0_ := Aside0.mk (below_step (by repeat (first | (with_reducible first | exact HB.out | apply below_alloc | apply pw_below_drewN | apply below_drew1) | exact HB.out)) hb); clear HB; have HB := n0_; clear n0_; (try clear hb); (try clear hb2); (try clear hk); (try clear hi)) | ((with_reducible refine gate_callee (f := 21) rfl ?_); refine goesL_ (some 46) rfl rfl Tryz.func21 (by kernel_rfl) rfl #[.string (a0 ++ t112)] rfl (by (try simp only [List.map_toArray, List.map_cons, List.map_nil]); first | done | rfl | (simp only [List.length_drop, List.length_take]; rfl)) ?_; (with_reducible refine (word_Reduce.calls kj9 (a0 ++ t112) t113 _ A37.out (by first | exact hG | exact GL.step hG (by repeat (first | (with_reducible first | exact HB.out | apply below_alloc | apply pw_below_drewN | apply below_drew1) | exact HB.out)))).mono ?_); rintro e w65 ⟨rfl, hb⟩; refine ⟨_, rfl, ?_⟩; have n0_ := Aside0.mk (below_step (by repeat (first | (with_reducible first | exact HB.out | apply below_alloc | apply pw_below_drewN | apply below_drew1) | exact HB.out)) hb); clear HB; have HB := n0_; clear n0_; (try clear hb); (try clear hb2); (try clear hk); (try clear hi)) | (go_at_call 21; (with_reducible refine (word_Reduce.calls kj9 (t112 ++ a0) t114 _ A40.out (by first | exact hG | exact GL.step hG (by repeat (first | (with_reducible first | exact HB.out | apply below_alloc | apply pw_below_drewN | apply below_drew1) | exact HB.out)))).mono ?_); rintro e w66 ⟨rfl, hb⟩; have n0_ := Aside0.mk (below_step (by repeat (first | (with_reducible first | exact HB.out | apply below_alloc | apply pw_below_drewN | apply below_drew1) | exact HB.out)) hb); clear HB; have HB := n0_; clear n0_; (try clear hb); (try clear hb2); (try clear hk); (try clear hi)) | (go_at_call 19; (with_reducible refine (word_Inverse.calls kj9 t112 t115 _ A42.out (by first | exact hG | exact GL.step hG (by repeat (first | (with_reducible first | exact HB.out | apply below_alloc | apply pw_below_drewN | apply below_drew1) | exact HB.out)))).mono ?_); rintro e w67 ⟨rfl, hb⟩; have n0_ := Aside0.mk (below_step (by repeat (first | (with_reducible first | exact HB.out | apply below_alloc | apply pw_below_drewN | apply below_drew1) | exact HB.out)) hb); clear HB; have HB := n0_; clear n0_; (try clear hb); (try clear hb2); (try clear hk); (try clear hi)) | (go_at_call 19; (with_reducible refine (word_Inverse.calls kj9 (a0 ++ a1) t116 _ A45.out (by first | exact hG | exact GL.step hG (by repeat (first | (with_reducible first | exact HB.out | apply below_alloc | apply pw_below_drewN | apply below_drew1) | exact HB.out)))).mono ?_); rintro e w68 ⟨rfl, hb⟩; have n0_ := Aside0.mk (below_step (by repeat (first | (with_reducible first | exact HB.out | apply below_alloc | apply pw_below_drewN | apply below_drew1) | exact HB.out)) hb); clear HB; have HB := n0_; clear n0_; (try clear hb); (try clear hb2); (try clear hk); (try clear hi)) | (go_at_call 19; (with_reducible refine (word_Inverse.calls kj9 a1 t117 _ A46.out (by first | exact hG | exact GL.step hG (by repeat (first | (with_reducible first | exact HB.out | apply below_alloc | apply pw_below_drewN | apply below_drew1) | exact HB.out)))).mono ?_); rintro e w69 ⟨rfl, hb⟩; have n0_ := Aside0.mk (below_step (by repeat (first | (with_reducible first | exact HB.out | apply below_alloc | apply pw_below_drewN | apply below_drew1) | exact HB.out)) hb); clear HB; have HB := n0_; clear n0_; (try clear hb); (try clear hb2); (try clear hk); (try clear hi)))
                              go_ret
                              exact ⟨by first | rfl | (simp [errW_none, errW_some] <;> rfl) | (simp [*, errW_none, errW_some] <;> rfl), by repeat (first | (with_reducible first | exact HB.out | apply below_alloc | apply pw_below_drewN | apply below_drew1) | exact HB.out)⟩
                          · rw [if_neg c47] at H
                            exact absurd H (by simp)
                        · rw [if_neg c44] at H
                          exact absurd H (by simp)
                      · rw [if_neg c43] at H
                        have c43b0 : (t115.toList == a0.toList) = false := beq_eq_false_iff_ne.mpr c43
                        have c43b1 : (t115.toList != a0.toList) = true := bne_iff_ne.mpr c43
                        obtain rfl := Option.some.inj H
                        go_wp2_with (first | ((with_reducible refine gate_callee (f := 19) rfl ?_); refine goesL_ (some 42) rfl rfl Tryz.func19 (by kernel_rfl) rfl #[.string a0] rfl (by (try simp only [List.map_toArray, List.map_cons, List.map_nil]); first | done | rfl | (simp only [List.length_drop, List.length_take]; rfl)) ?_; (with_reducible refine (word_Inverse.calls kj9 a0 t112 _ A35.out (by first | exact hG | exact GL.step hG (by repeat (first | (with_reducible first | exact HB.out | apply below_alloc | apply pw_below_drewN | apply below_drew1) | exact HB.out)))).mono ?_); rintro e w70 ⟨rfl, hb⟩; refine ⟨_, rfl, ?_⟩; have n0_ := Aside0.mk (below_step (by repeat (first | (with_reducible first | exact HB.out | apply below_alloc | apply pw_below_drewN | apply below_drew1) | exact HB.out)) hb); clear HB; have HB := n0_; clear n0_; (try clear hb); (try clear hb2); (try clear hk); (try clear hi)) | ((with_reducible refine gate_callee (f := 21) rfl ?_); refine goesL_ (some 46) rfl rfl Tryz.func21 (by kernel_rfl) rfl #[.string (a0 ++ t112)] rfl (by (try simp only [List.map_toArray, List.map_cons, List.map_nil]); first | done | rfl | (simp only [List.length_drop, List.length_take]; rfl)) ?_; (with_reducible refine (word_Reduce.calls kj9 (a0 ++ t112) t113 _ A37.out (by first | exact hG | exact GL.step hG (by repeat (first | (with_reducible first | exact HB.out | apply below_alloc | apply pw_below_drewN | apply below_drew1) | exact HB.out)))).mono ?_); rintro e w71 ⟨rfl, hb⟩; refine ⟨_, rfl, ?_⟩; have n0_ := Aside0.mk (below_step (by repeat (first | (with_reducible first | exact HB.out | apply below_alloc | apply pw_below_drewN | apply below_drew1) | exact HB.out)) hb); clear HB; have HB := n0_; clear n0_; (try clear hb); (try clear hb2); (try clear hk); (try clear hi)) | (go_at_call 21; (with_reducible refine (word_Reduce.calls kj9 (t112 ++ a0) t114 _ A40.out (by first | exact hG | exact GL.step hG (by repeat (first | (with_reducible first | exact HB.out | apply below_alloc | apply pw_below_drewN | apply below_drew1) | exact HB.out)))).mono ?_); rintro e w72 ⟨rfl, hb⟩; have n0_ := Aside0.mk (below_step (by repeat (first | (with_reducible first | exact HB.out | apply below_alloc | apply pw_below_drewN | apply below_drew1) | exact HB.out)) hb); clear HB; have HB := n0_; clear n0_; (try clear hb); (try clear hb2); (try clear hk); (try clear hi)) | (go_at_call 19; (with_reducible refine (word_Inverse.calls kj9 t112 t115 _ A42.out (by first | exact hG | exact GL.step hG (by repeat (first | (with_reducible first | exact HB.out | apply below_alloc | apply pw_below_drewN | apply below_drew1) | exact HB.out)))).mono ?_); rintro e w73 ⟨rfl, hb⟩; have n0_ := Aside0.mk (below_step (by repeat (first | (with_reducible first | exact HB.out | apply below_alloc | apply pw_below_drewN | apply below_drew1) | exact HB.out)) hb); clear HB; have HB := n0_; clear n0_; (try clear hb); (try clear hb2); (try clear hk); (try clear hi)))
                        go_ret
                        exact ⟨by first | rfl | (simp [errW_none, errW_some] <;> rfl) | (simp [*, errW_none, errW_some] <;> rfl), by repeat (first | (with_reducible first | exact HB.out | apply below_alloc | apply pw_below_drewN | apply below_drew1) | exact HB.out)⟩
                    · rw [if_neg c41] at H
                      have c41b0 : (t114.toList == ([] : List UInt8)) = false := beq_eq_false_iff_ne.mpr c41
                      have c41b1 : (t114.toList != ([] : List UInt8)) = true := bne_iff_ne.mpr c41
                      obtain rfl := Option.some.inj H
                      go_wp2_with (first | ((with_reducible refine gate_callee (f := 19) rfl ?_); refine goesL_ (some 42) rfl rfl Tryz.func19 (by kernel_rfl) rfl #[.string a0] rfl (by (try simp only [List.map_toArray, List.map_cons, List.map_nil]); first | done | rfl | (simp only [List.length_drop, List.length_take]; rfl)) ?_; (with_reducible refine (word_Inverse.calls kj9 a0 t112 _ A35.out (by first | exact hG | exact GL.step hG (by repeat (first | (with_reducible first | exact HB.out | apply below_alloc | apply pw_below_drewN | apply below_drew1) | exact HB.out)))).mono ?_); rintro e w74 ⟨rfl, hb⟩; refine ⟨_, rfl, ?_⟩; have n0_ := Aside0.mk (below_step (by repeat (first | (with_reducible first | exact HB.out | apply below_alloc | apply pw_below_drewN | apply below_drew1) | exact HB.out)) hb); clear HB; have HB := n0_; clear n0_; (try clear hb); (try clear hb2); (try clear hk); (try clear hi)) | ((with_reducible refine gate_callee (f := 21) rfl ?_); refine goesL_ (some 46) rfl rfl Tryz.func21 (by kernel_rfl) rfl #[.string (a0 ++ t112)] rfl (by (try simp only [List.map_toArray, List.map_cons, List.map_nil]); first | done | rfl | (simp only [List.length_drop, List.length_take]; rfl)) ?_; (with_reducible refine (word_Reduce.calls kj9 (a0 ++ t112) t113 _ A37.out (by first | exact hG | exact GL.step hG (by repeat (first | (with_reducible first | exact HB.out | apply below_alloc | apply pw_below_drewN | apply below_drew1) | exact HB.out)))).mono ?_); rintro e w75 ⟨rfl, hb⟩; refine ⟨_, rfl, ?_⟩; have n0_ := Aside0.mk (below_step (by repeat (first | (with_reducible first | exact HB.out | apply below_alloc | apply pw_below_drewN | apply below_drew1) | exact HB.out)) hb); clear HB; have HB := n0_; clear n0_; (try clear hb); (try clear hb2); (try clear hk); (try clear hi)) | (go_at_call 21; (with_reducible refine (word_Reduce.calls kj9 (t112 ++ a0) t114 _ A40.out (by first | exact hG | exact GL.step hG (by repeat (first | (with_reducible first | exact HB.out | apply below_alloc | apply pw_below_drewN | apply below_drew1) | exact HB.out)))).mono ?_); rintro e w76 ⟨rfl, hb⟩; have n0_ := Aside0.mk (below_step (by repeat (first | (with_reducible first | exact HB.out | apply below_alloc | apply pw_below_drewN | apply below_drew1) | exact HB.out)) hb); clear HB; have HB := n0_; clear n0_; (try clear hb); (try clear hb2); (try clear hk); (try clear hi)))
                      go_ret
                      exact ⟨by first | rfl | (simp [errW_none, errW_some] <;> rfl) | (simp [*, errW_none, errW_some] <;> rfl), by repeat (first | (with_reducible first | exact HB.out | apply below_alloc | apply pw_below_drewN | apply below_drew1) | exact HB.out)⟩
                  · rw [if_neg c39] at H
                    exact absurd H (by simp)
                · rw [if_neg c38] at H
                  have c38b0 : (t113.toList == ([] : List UInt8)) = false := beq_eq_false_iff_ne.mpr c38
                  have c38b1 : (t113.toList != ([] : List UInt8)) = true := bne_iff_ne.mpr c38
                  obtain rfl := Option.some.inj H
                  go_wp2_with (first | ((with_reducible refine gate_callee (f := 19) rfl ?_); refine goesL_ (some 42) rfl rfl Tryz.func19 (by kernel_rfl) rfl #[.string a0] rfl (by (try simp only [List.map_toArray, List.map_cons, List.map_nil]); first | done | rfl | (simp only [List.length_drop, List.length_take]; rfl)) ?_; (with_reducible refine (word_Inverse.calls kj9 a0 t112 _ A35.out (by first | exact hG | exact GL.step hG (by repeat (first | (with_reducible first | exact HB.out | apply below_alloc | apply pw_below_drewN | apply below_drew1) | exact HB.out)))).mono ?_); rintro e w77 ⟨rfl, hb⟩; refine ⟨_, rfl, ?_⟩; have n0_ := Aside0.mk (below_step (by repeat (first | (with_reducible first | exact HB.out | apply below_alloc | apply pw_below_drewN | apply below_drew1) | exact HB.out)) hb); clear HB; have HB := n0_; clear n0_; (try clear hb); (try clear hb2); (try clear hk); (try clear hi)) | ((with_reducible refine gate_callee (f := 21) rfl ?_); refine goesL_ (some 46) rfl rfl Tryz.func21 (by kernel_rfl) rfl #[.string (a0 ++ t112)] rfl (by (try simp only [List.map_toArray, List.map_cons, List.map_nil]); first | done | rfl | (simp only [List.length_drop, List.length_take]; rfl)) ?_; (with_reducible refine (word_Reduce.calls kj9 (a0 ++ t112) t113 _ A37.out (by first | exact hG | exact GL.step hG (by repeat (first | (with_reducible first | exact HB.out | apply below_alloc | apply pw_below_drewN | apply below_drew1) | exact HB.out)))).mono ?_); rintro e w78 ⟨rfl, hb⟩; refine ⟨_, rfl, ?_⟩; have n0_ := Aside0.mk (below_step (by repeat (first | (with_reducible first | exact HB.out | apply below_alloc | apply pw_below_drewN | apply below_drew1) | exact HB.out)) hb); clear HB; have HB := n0_; clear n0_; (try clear hb); (try clear hb2); (try clear hk); (try clear hi)))
                  go_ret
                  exact ⟨by first | rfl | (simp [errW_none, errW_some] <;> rfl) | (simp [*, errW_none, errW_some] <;> rfl), by repeat (first | (with_reducible first | exact HB.out | apply below_alloc | apply pw_below_drewN | apply below_drew1) | exact HB.out)⟩
              · rw [if_neg c36] at H
                exact absurd H (by simp)
      · rw [if_neg c8] at H
        exact absurd H (by simp)
    · replace c7 := Bool.eq_false_iff.mpr c7
      subst c7
      have H1 : (some true) = some r := by rw [if_neg (show ¬ (false = true) by decide)] at H; exact H
      clear H
      have H := H1
      clear H1
      obtain rfl := Option.some.inj H
      go_enter Tryz.func6, Tryz.ntmps6
      go_wp2_with (first | ((with_reducible refine gate_callee (f := 11) rfl ?_); refine goesL_ (some 9) rfl rfl Tryz.func11 (by kernel_rfl) rfl #[] rfl (by (try simp only [List.map_toArray, List.map_cons, List.map_nil]); first | done | rfl | (simp only [List.length_drop, List.length_take]; rfl)) ?_; (with_reducible refine (cayleylaw01_sane.calls  true _ A4.out (by first | exact hG | exact GL.step hG (by repeat (first | (with_reducible first | exact HB.out | apply below_alloc | apply pw_below_drewN | apply below_drew1) | exact HB.out)))).mono ?_); rintro e w79 ⟨rfl, hb⟩; refine ⟨_, rfl, ?_⟩; have n0_ := Aside0.mk (below_step (by repeat (first | (with_reducible first | exact HB.out | apply below_alloc | apply pw_below_drewN | apply below_drew1) | exact HB.out)) hb); clear HB; have HB := n0_; clear n0_; (try clear hb); (try clear hb2); (try clear hk); (try clear hi)) | ((with_reducible refine gate_dst (N := 14) rfl ?_); refine Kd.R_lit Kd.string _ 9 ?hg (N := 14) ?hd (xs := ([a0, a1, a2] : List ByteArray)) (inner := [.string a0, .string a1, .string a2]) (ok := fun _ => True) (okp := fun _ => True) ?hr ?hp (fun _ hk => hk) trivial (Below.refl _ _) (Nat.le_refl _) (by simp) ?_; (case hd => rfl); (case hg => rfl); (case hr => first | (go_simp; done) | (go_simp; rfl)); (case hp => exact (Reps.one (show Kd.M Kd.string _ _ _ a0 [.string a0] from rfl) (Reps.one (show Kd.M Kd.string _ _ _ a1 [.string a1] from rfl) (Reps.one (show Kd.M Kd.string _ _ _ a2 [.string a2] from rfl) (Reps.none _ _))))); intro v103 w80 ho81 hb hg_ hnew_; clear hg_ hnew_; (first | rw [← Ny102.out] at ho81 | (simp only [Int.reduceToNat] at ho81; rw [← Ny102.out] at ho81)); have n0_ := Aside0.mk (Kd.R_lower ho81 (below_size (by repeat (first | (with_reducible first | exact HB.out | apply below_alloc | apply pw_below_drewN | apply below_drew1) | exact HB.out)))); have n1_ := Aside0.mk (below_step (by repeat (first | (with_reducible first | exact HB.out | apply below_alloc | apply pw_below_drewN | apply below_drew1) | exact HB.out)) hb); clear HB; have HO104 := n0_; have HB := n1_; clear n0_ n1_; clear hb ho81; obtain ⟨Ao82, co82, eo82⟩ := Kd.R_slice HO104.out; subst eo82) | ((with_reducible refine gate_callee (f := 40) rfl ?_); refine goesL_ (some 15) rfl rfl Tryz.func40 (by kernel_rfl) rfl #[.slice Ao82 y102.length co82] rfl (by (try simp only [List.map_toArray, List.map_cons, List.map_nil]); first | done | rfl | (simp only [List.length_drop, List.length_take]; rfl)) ?_; (with_reducible refine (cayleylaw01_words.calls k _ _ y102 false _ ?side1 ?side2 A6.out).mono ?_); (case side1 => repeat (first | exact (Kd.R_reads' HO104.out).2.2 | (with_reducible refine Kd.C_alloc ?_ _) | (with_reducible refine Kd.C_drewN ?_ _) | (with_reducible refine Kd.C_drew ?_))); (case side2 => exact (Kd.R_reads' HO104.out).2.1); rintro e w' ⟨rfl, ⟨nd, rfl⟩⟩; refine ⟨_, rfl, ?_⟩))
      go_ret
      exact ⟨by first | rfl | (simp [errW_none, errW_some] <;> rfl) | (simp [*, errW_none, errW_some] <;> rfl), by repeat (first | (with_reducible first | exact HB.out | apply below_alloc | apply pw_below_drewN | apply below_drew1) | exact HB.out)⟩
  · replace c5 := Bool.eq_false_iff.mpr c5
    subst c5
    have H1 : (some false) = some r := by rw [if_neg (show ¬ (false = true) by decide)] at H; exact H
    clear H
    have H := H1
    clear H1
    obtain rfl := Option.some.inj H
    go_enter Tryz.func6, Tryz.ntmps6
    go_wp2_with (first | ((with_reducible refine gate_callee (f := 11) rfl ?_); refine goesL_ (some 9) rfl rfl Tryz.func11 (by kernel_rfl) rfl #[] rfl (by (try simp only [List.map_toArray, List.map_cons, List.map_nil]); first | done | rfl | (simp only [List.length_drop, List.length_take]; rfl)) ?_; (with_reducible refine (cayleylaw01_sane.calls  false _ A4.out (by first | exact hG | exact GL.step hG (by repeat (first | (with_reducible first | exact HB.out | apply below_alloc | apply pw_below_drewN | apply below_drew1) | exact HB.out)))).mono ?_); rintro e w83 ⟨rfl, hb⟩; refine ⟨_, rfl, ?_⟩; have n0_ := Aside0.mk (below_step (by repeat (first | (with_reducible first | exact HB.out | apply below_alloc | apply pw_below_drewN | apply below_drew1) | exact HB.out)) hb); clear HB; have HB := n0_; clear n0_; (try clear hb); (try clear hb2); (try clear hk); (try clear hi)))
    go_ret
    exact ⟨by first | rfl | (simp [errW_none, errW_some] <;> rfl) | (simp [*, errW_none, errW_some] <;> rfl), by repeat (first | (with_reducible first | exact HB.out | apply below_alloc | apply pw_below_drewN | apply below_drew1) | exact HB.out)⟩

end Go.Proofs.YthiehmogphknlaaGreatDoor.PG
