/- Printed by a program of this session (wip/ext.py) out of the translation, after the kit's print. Not trusted: Lean checks it. -/
import Derived.Test.YthiehmogphknlaaGreatDoorPKx0
namespace Go.Proofs.YthiehmogphknlaaGreatDoor.PK
open Go.Proofs.YthiehmogphknlaaGreatDoor.G Go.Proofs.YthiehmogphknlaaGreatDoor.PA Go.RowKit Go.Proofs.YthiehmogphknlaaGreatDoorW.PrintWords Go.Proofs.YthiehmogphknlaaGreatDoorW.PrintLast Go.Proofs.YthiehmogphknlaaGreatDoorW.PrintMore
attribute [local go_sem] max2_int min2_int max_two min_two max_three min_three max_four min_four   -- for this text's walks alone
set_option linter.unusedVariables false
set_option linter.unusedSimpArgs false

/-! ### cayleylaw01_WordBack: function 10 -/
mutual
def cayleylaw01_WordBack.j0 : Nat → ByteArray → Int → Int → Bool → Option (Bool)
  | 0, _, _, _, _ => none
  | k + 1, x0, x1, x2, x40 => if x40 = true then (some true) else ((word_Text.f k x0).bind fun t106 => ((word_Parse.f 8 t106).bind fun bt107 => ((word_Root.f k x0).bind fun bt109 => ((word_Power.f k bt109.1 bt109.2).bind fun bt111 => ((word_Root.f k bt109.1).bind fun bt113 => (if bt107.2 = 0 then ((word_Reduce.f k x0).bind fun t115 => (if bt107.1.toList = t115.toList then (if bt111.2 = 0 then ((word_Reduce.f k x0).bind fun t116 => (if bt111.1.toList = t116.toList then (cayleylaw01_WordBack.j1 k x0 x1 x2 ((bt113.2 != 1) != (bt109.1.toList == ([] : List UInt8)))) else (cayleylaw01_WordBack.j1 k x0 x1 x2 true))) else (cayleylaw01_WordBack.j1 k x0 x1 x2 true)) else (cayleylaw01_WordBack.j1 k x0 x1 x2 true))) else (cayleylaw01_WordBack.j1 k x0 x1 x2 true)))))))
def cayleylaw01_WordBack.j1 : Nat → ByteArray → Int → Int → Bool → Option (Bool)
  | 0, _, _, _, _ => none
  | k + 1, x0, x1, x2, x87 => if x87 = true then (some false) else ((word_Power.f k x0 x1).bind fun bt117 => ((word_Power.f k x0 x2).bind fun bt119 => ((word_Power.f k x0 (wrap64 (x1 + x2))).bind fun bt121 => (if bt117.2 = 0 then (if bt119.2 = 0 then (if bt121.2 = 0 then (if bt117.1.size + bt119.1.size ≤ 9223372036854775807 then ((word_Reduce.f k (bt117.1 ++ bt119.1)).bind fun t123 => (some (t123.toList == bt121.1.toList))) else (none)) else (some false)) else (some false)) else (some false)))))
end
def cayleylaw01_WordBack.f (k : Nat) (a0 : ByteArray) (a1 : Int) (a2 : Int) : Option (Bool) := (cayleylaw01_sane.f).bind fun t101 => (if t101 = true then ((cayleylaw01_words.f k (([a0] : List ByteArray))).bind fun t105 => (if t105 = true then (if a1 < (-20) then (cayleylaw01_WordBack.j0 k a0 a1 a2 true) else (if a1 > 20 then (cayleylaw01_WordBack.j0 k a0 a1 a2 true) else (if a2 < (-20) then (cayleylaw01_WordBack.j0 k a0 a1 a2 true) else (cayleylaw01_WordBack.j0 k a0 a1 a2 (decide (a2 > 20)))))) else (cayleylaw01_WordBack.j0 k a0 a1 a2 true))) else (some false))
theorem cayleylaw01_WordBack.mono_l : ∀ k, (∀ y0 y1 y2 y3, LeO (cayleylaw01_WordBack.j0 k y0 y1 y2 y3) (cayleylaw01_WordBack.j0 (k + 1) y0 y1 y2 y3)) ∧ (∀ y0 y1 y2 y3, LeO (cayleylaw01_WordBack.j1 k y0 y1 y2 y3) (cayleylaw01_WordBack.j1 (k + 1) y0 y1 y2 y3))
  | 0 => ⟨fun _ _ _ _ r h => by simp [cayleylaw01_WordBack.j0] at h, fun _ _ _ _ r h => by simp [cayleylaw01_WordBack.j1] at h⟩
  | k + 1 => by
    obtain ⟨ih0, ih1⟩ := cayleylaw01_WordBack.mono_l k
    refine ⟨?_, ?_⟩
    · intro y0 y1 y2 y3
      unfold cayleylaw01_WordBack.j0
      repeat' first
      | (with_reducible exact ih0 _ _ _ _)
      | (with_reducible exact ih1 _ _ _ _)
      | (with_reducible exact cayleylaw01_words.mono _ _)
      | (with_reducible exact word_Power.mono _ _ _)
      | (with_reducible exact word_Reduce.mono _ _)
      | (with_reducible exact word_Root.mono _ _)
      | (with_reducible exact word_Text.mono _ _)
      | (with_reducible exact LeO.refl _)
      | (with_reducible exact LeO.none _)
      | (with_reducible refine LeO.ite ?_ ?_)
      | (with_reducible refine LeO.bind ?_ (fun _ => ?_))
      | exact ih0 _ _ _ _
      | exact ih1 _ _ _ _
      | exact cayleylaw01_words.mono _ _
      | exact word_Power.mono _ _ _
      | exact word_Reduce.mono _ _
      | exact word_Root.mono _ _
      | exact word_Text.mono _ _
      | exact LeO.none _
      | refine LeO.ite ?_ ?_
      | refine LeO.bind ?_ (fun _ => ?_)
    · intro y0 y1 y2 y3
      unfold cayleylaw01_WordBack.j1
      repeat' first
      | (with_reducible exact ih0 _ _ _ _)
      | (with_reducible exact ih1 _ _ _ _)
      | (with_reducible exact cayleylaw01_words.mono _ _)
      | (with_reducible exact word_Power.mono _ _ _)
      | (with_reducible exact word_Reduce.mono _ _)
      | (with_reducible exact word_Root.mono _ _)
      | (with_reducible exact word_Text.mono _ _)
      | (with_reducible exact LeO.refl _)
      | (with_reducible exact LeO.none _)
      | (with_reducible refine LeO.ite ?_ ?_)
      | (with_reducible refine LeO.bind ?_ (fun _ => ?_))
      | exact ih0 _ _ _ _
      | exact ih1 _ _ _ _
      | exact cayleylaw01_words.mono _ _
      | exact word_Power.mono _ _ _
      | exact word_Reduce.mono _ _
      | exact word_Root.mono _ _
      | exact word_Text.mono _ _
      | exact LeO.none _
      | refine LeO.ite ?_ ?_
      | refine LeO.bind ?_ (fun _ => ?_)
theorem cayleylaw01_WordBack.mono : ∀ a0 a1 a2 k, LeO (cayleylaw01_WordBack.f k a0 a1 a2) (cayleylaw01_WordBack.f (k + 1) a0 a1 a2) := by
  intro a0 a1 a2 k
  obtain ⟨ih0, ih1⟩ := cayleylaw01_WordBack.mono_l k
  unfold cayleylaw01_WordBack.f
  repeat' first
      | (with_reducible exact ih0 _ _ _ _)
      | (with_reducible exact ih1 _ _ _ _)
      | (with_reducible exact cayleylaw01_words.mono _ _)
      | (with_reducible exact word_Power.mono _ _ _)
      | (with_reducible exact word_Reduce.mono _ _)
      | (with_reducible exact word_Root.mono _ _)
      | (with_reducible exact word_Text.mono _ _)
      | (with_reducible exact LeO.refl _)
      | (with_reducible exact LeO.none _)
      | (with_reducible refine LeO.ite ?_ ?_)
      | (with_reducible refine LeO.bind ?_ (fun _ => ?_))
      | exact ih0 _ _ _ _
      | exact ih1 _ _ _ _
      | exact cayleylaw01_words.mono _ _
      | exact word_Power.mono _ _ _
      | exact word_Reduce.mono _ _
      | exact word_Root.mono _ _
      | exact word_Text.mono _ _
      | exact LeO.none _
      | refine LeO.ite ?_ ?_
      | refine LeO.bind ?_ (fun _ => ?_)
set_option maxHeartbeats 8000000 in
set_option maxRecDepth 100000 in
theorem cayleylaw01_WordBack.calls (k : Nat) (a0 : ByteArray) (a1 : Int) (a2 : Int) (r : Bool) (w : World) (h : cayleylaw01_WordBack.f k a0 a1 a2 = some r) (hG : GL w) :
    Calls Tryz.prog 10 #[.string a0, .int .i64 a1, .int .i64 a2] w fun e w' => e = .returned (.bool r) ∧ Below w.heap.size w w' := by
  have HB := Aside0.mk (Below.refl w.heap.size w)
  have H : ((cayleylaw01_sane.f).bind fun t101 => (if t101 = true then ((cayleylaw01_words.f k (([a0] : List ByteArray))).bind fun t105 => (if t105 = true then (if a1 < (-20) then (cayleylaw01_WordBack.j0 k a0 a1 a2 true) else (if a1 > 20 then (cayleylaw01_WordBack.j0 k a0 a1 a2 true) else (if a2 < (-20) then (cayleylaw01_WordBack.j0 k a0 a1 a2 true) else (cayleylaw01_WordBack.j0 k a0 a1 a2 (decide (a2 > 20)))))) else (cayleylaw01_WordBack.j0 k a0 a1 a2 true))) else (some false))) = some r := h
  clear h
  replace H := Option.bind_eq_some_iff.mp H
  obtain ⟨t101, A40, H⟩ := H
  replace H : (if t101 = true then ((cayleylaw01_words.f k (([a0] : List ByteArray))).bind fun t105 => (if t105 = true then (if a1 < (-20) then (cayleylaw01_WordBack.j0 k a0 a1 a2 true) else (if a1 > 20 then (cayleylaw01_WordBack.j0 k a0 a1 a2 true) else (if a2 < (-20) then (cayleylaw01_WordBack.j0 k a0 a1 a2 true) else (cayleylaw01_WordBack.j0 k a0 a1 a2 (decide (a2 > 20)))))) else (cayleylaw01_WordBack.j0 k a0 a1 a2 true))) else (some false)) = some r := H
  have A4 := Aside0.mk A40
  clear A40
  by_cases c5 : t101 = true
  · subst c5
    have H1 : ((cayleylaw01_words.f k (([a0] : List ByteArray))).bind fun t105 => (if t105 = true then (if a1 < (-20) then (cayleylaw01_WordBack.j0 k a0 a1 a2 true) else (if a1 > 20 then (cayleylaw01_WordBack.j0 k a0 a1 a2 true) else (if a2 < (-20) then (cayleylaw01_WordBack.j0 k a0 a1 a2 true) else (cayleylaw01_WordBack.j0 k a0 a1 a2 (decide (a2 > 20)))))) else (cayleylaw01_WordBack.j0 k a0 a1 a2 true))) = some r := by rw [if_pos rfl] at H; exact H
    clear H
    have H := H1
    clear H1
    have HC6 := Aside0.mk H
    clear H
    go_enter Tryz.func10, Tryz.ntmps10
    go_upto_region 3 with (first | ((with_reducible refine gate_callee (f := 11) rfl ?_); refine goesL_ (some 19) rfl rfl Tryz.func11 (by kernel_rfl) rfl #[] rfl (by (try simp only [List.map_toArray, List.map_cons, List.map_nil]); first | done | rfl | (simp only [List.length_drop, List.length_take]; rfl)) ?_; (with_reducible refine (cayleylaw01_sane.calls  true _ A4.out (by first | exact hG | exact GL.step hG (by repeat (first | (with_reducible first | exact HB.out | apply below_alloc | apply pw_below_drewN | apply below_drew1) | exact HB.out)))).mono ?_); rintro e w7 ⟨rfl, hb⟩; refine ⟨_, rfl, ?_⟩; have n0_ := Aside0.mk (below_step (by repeat (first | (with_reducible first | exact HB.out | apply below_alloc | apply pw_below_drewN | apply below_drew1) | exact HB.out)) hb); clear HB; have HB := n0_; clear n0_; (try clear hb); (try clear hb2); (try clear hk); (try clear hi)))
    (try simp only [Act.put, List.setIfInBounds_toArray, List.set_cons_zero, List.set_cons_succ])
    go_cut [40] (fun v40 wc => ∃ (kq : Nat) (x40_5 : Bool), v40 = .bool x40_5 ∧ Aside0 (cayleylaw01_WordBack.j0 kq a0 a1 a2 x40_5 = some r) ∧ Aside0 (kq ≤ k) ∧ Aside0 (Below w.heap.size w wc))
    case first =>
      have H := HC6.out
      clear HC6
      obtain ⟨y102, hy102⟩ : ∃ y_ : List ByteArray, y_ = (([a0] : List ByteArray)) := ⟨_, rfl⟩
      replace H : ((cayleylaw01_words.f k y102).bind fun t105 => (if t105 = true then (if a1 < (-20) then (cayleylaw01_WordBack.j0 k a0 a1 a2 true) else (if a1 > 20 then (cayleylaw01_WordBack.j0 k a0 a1 a2 true) else (if a2 < (-20) then (cayleylaw01_WordBack.j0 k a0 a1 a2 true) else (cayleylaw01_WordBack.j0 k a0 a1 a2 (decide (a2 > 20)))))) else (cayleylaw01_WordBack.j0 k a0 a1 a2 true))) = some r := by first | (rw [hy102]; with_reducible exact H) | (have H2_ := (Option.bind_some _ _).symm.trans H; rw [hy102]; with_reducible exact H2_) | (have H2_ := (Option.bind_some _ _).symm.trans H; with_reducible exact H2_) | with_reducible exact H | (rw [hy102]; exact H) | exact H
      have Ny102 := Aside0.mk hy102
      clear hy102
      replace H := Option.bind_eq_some_iff.mp H
      obtain ⟨t105, A80, H⟩ := H
      replace H : (if t105 = true then (if a1 < (-20) then (cayleylaw01_WordBack.j0 k a0 a1 a2 true) else (if a1 > 20 then (cayleylaw01_WordBack.j0 k a0 a1 a2 true) else (if a2 < (-20) then (cayleylaw01_WordBack.j0 k a0 a1 a2 true) else (cayleylaw01_WordBack.j0 k a0 a1 a2 (decide (a2 > 20)))))) else (cayleylaw01_WordBack.j0 k a0 a1 a2 true)) = some r := H
      have A8 := Aside0.mk A80
      clear A80
      by_cases c9 : t105 = true
      · subst c9
        have H1 : (if a1 < (-20) then (cayleylaw01_WordBack.j0 k a0 a1 a2 true) else (if a1 > 20 then (cayleylaw01_WordBack.j0 k a0 a1 a2 true) else (if a2 < (-20) then (cayleylaw01_WordBack.j0 k a0 a1 a2 true) else (cayleylaw01_WordBack.j0 k a0 a1 a2 (decide (a2 > 20)))))) = some r := by rw [if_pos rfl] at H; exact H
        clear H
        have H := H1
        clear H1
        by_cases c10 : a1 < (-20)
        · rw [if_pos c10] at H
          have c10b0 : decide (a1 < (-20)) = true := decide_eq_true c10
          clear c10
          (first | rw [c10b0] | (simp only [i64_w, i32_w]; rw [c10b0]) | skip)
          have H' := Aside0.mk H
          clear H
          go_wp2_with (first | ((with_reducible refine gate_dst (N := 22) rfl ?_); refine Kd.R_lit Kd.string _ 9 ?hg (N := 22) ?hd (xs := ([a0] : List ByteArray)) (inner := [.string a0]) (ok := fun _ => True) (okp := fun _ => True) ?hr ?hp (fun _ hk => hk) trivial (Below.refl _ _) (Nat.le_refl _) (by simp) ?_; (case hd => rfl); (case hg => rfl); (case hr => first | (go_simp; done) | (go_simp; rfl)); (case hp => exact (Reps.one (show Kd.M Kd.string _ _ _ a0 [.string a0] from rfl) (Reps.none _ _))); intro v103 w11 ho12 hb hg_ hnew_; clear hg_ hnew_; (first | rw [← Ny102.out] at ho12 | (simp only [Int.reduceToNat] at ho12; rw [← Ny102.out] at ho12)); have n0_ := Aside0.mk (Kd.R_lower ho12 (below_size (by repeat (first | (with_reducible first | exact HB.out | apply below_alloc | apply pw_below_drewN | apply below_drew1) | exact HB.out)))); have n1_ := Aside0.mk (below_step (by repeat (first | (with_reducible first | exact HB.out | apply below_alloc | apply pw_below_drewN | apply below_drew1) | exact HB.out)) hb); clear HB; have HO104 := n0_; have HB := n1_; clear n0_ n1_; clear hb ho12; obtain ⟨Ao13, co13, eo13⟩ := Kd.R_slice HO104.out; subst eo13) | ((with_reducible refine gate_callee (f := 40) rfl ?_); refine goesL_ (some 23) rfl rfl Tryz.func40 (by kernel_rfl) rfl #[.slice Ao13 y102.length co13] rfl (by (try simp only [List.map_toArray, List.map_cons, List.map_nil]); first | done | rfl | (simp only [List.length_drop, List.length_take]; rfl)) ?_; (with_reducible refine (cayleylaw01_words.calls k _ _ y102 true _ ?side1 ?side2 A8.out).mono ?_); (case side1 => repeat (first | exact (Kd.R_reads' HO104.out).2.2 | (with_reducible refine Kd.C_alloc ?_ _) | (with_reducible refine Kd.C_drewN ?_ _) | (with_reducible refine Kd.C_drew ?_))); (case side2 => exact (Kd.R_reads' HO104.out).2.1); rintro e w' ⟨rfl, ⟨nd, rfl⟩⟩; refine ⟨_, rfl, ?_⟩))
          go_meet
          case rel => exact ⟨_, (true), (by first | rfl | (simp; done) | (simp [*]; done) | (simp; exact (fun (a b : Bool) => (by cases a <;> cases b <;> rfl : (a == b) = !(a != b))) _ _)), H', ⟨by first | omega | exact Nat.le_refl _⟩, ⟨by repeat (first | (with_reducible first | exact HB.out | apply below_alloc | apply pw_below_drewN | apply below_drew1) | exact HB.out)⟩⟩
        · rw [if_neg c10] at H
          have c10b0 : decide (a1 < (-20)) = false := decide_eq_false c10
          clear c10
          (first | rw [c10b0] | (simp only [i64_w, i32_w]; rw [c10b0]) | skip)
          by_cases c14 : a1 > 20
          · rw [if_pos c14] at H
            have c14b0 : decide (20 < a1) = true := decide_eq_true c14
            clear c14
            have H' := Aside0.mk H
            clear H
            go_wp2_with (first | ((with_reducible refine gate_dst (N := 22) rfl ?_); refine Kd.R_lit Kd.string _ 9 ?hg (N := 22) ?hd (xs := ([a0] : List ByteArray)) (inner := [.string a0]) (ok := fun _ => True) (okp := fun _ => True) ?hr ?hp (fun _ hk => hk) trivial (Below.refl _ _) (Nat.le_refl _) (by simp) ?_; (case hd => rfl); (case hg => rfl); (case hr => first | (go_simp; done) | (go_simp; rfl)); (case hp => exact (Reps.one (show Kd.M Kd.string _ _ _ a0 [.string a0] from rfl) (Reps.none _ _))); intro v103 w15 ho16 hb hg_ hnew_; clear hg_ hnew_; (first | rw [← Ny102.out] at ho16 | (simp only [Int.reduceToNat] at ho16; rw [← Ny102.out] at ho16)); have n0_ := Aside0.mk (Kd.R_lower ho16 (below_size (by repeat (first | (with_reducible first | exact HB.out | apply below_alloc | apply pw_below_drewN | apply below_drew1) | exact HB.out)))); have n1_ := Aside0.mk (below_step (by repeat (first | (with_reducible first | exact HB.out | apply below_alloc | apply pw_below_drewN | apply below_drew1) | exact HB.out)) hb); clear HB; have HO104 := n0_; have HB := n1_; clear n0_ n1_; clear hb ho16; obtain ⟨Ao17, co17, eo17⟩ := Kd.R_slice HO104.out; subst eo17) | ((with_reducible refine gate_callee (f := 40) rfl ?_); refine goesL_ (some 23) rfl rfl Tryz.func40 (by kernel_rfl) rfl #[.slice Ao17 y102.length co17] rfl (by (try simp only [List.map_toArray, List.map_cons, List.map_nil]); first | done | rfl | (simp only [List.length_drop, List.length_take]; rfl)) ?_; (with_reducible refine (cayleylaw01_words.calls k _ _ y102 true _ ?side1 ?side2 A8.out).mono ?_); (case side1 => repeat (first | exact (Kd.R_reads' HO104.out).2.2 | (with_reducible refine Kd.C_alloc ?_ _) | (with_reducible refine Kd.C_drewN ?_ _) | (with_reducible refine Kd.C_drew ?_))); (case side2 => exact (Kd.R_reads' HO104.out).2.1); rintro e w' ⟨rfl, ⟨nd, rfl⟩⟩; refine ⟨_, rfl, ?_⟩))
            go_meet
            case rel => exact ⟨_, (true), (by first | rfl | (simp; done) | (simp [*]; done) | (simp; exact (fun (a b : Bool) => (by cases a <;> cases b <;> rfl : (a == b) = !(a != b))) _ _)), H', ⟨by first | omega | exact Nat.le_refl _⟩, ⟨by repeat (first | (with_reducible first | exact HB.out | apply below_alloc | apply pw_below_drewN | apply below_drew1) | exact HB.out)⟩⟩
          · rw [if_neg c14] at H
            have c14b0 : decide (20 < a1) = false := decide_eq_false c14
            clear c14
            by_cases c18 : a2 < (-20)
            · rw [if_pos c18] at H
              have c18b0 : decide (a2 < (-20)) = true := decide_eq_true c18
              clear c18
              have H' := Aside0.mk H
              clear H
              go_wp2_with (first | ((with_reducible refine gate_dst (N := 22) rfl ?_); refine Kd.R_lit Kd.string _ 9 ?hg (N := 22) ?hd (xs := ([a0] : List ByteArray)) (inner := [.string a0]) (ok := fun _ => True) (okp := fun _ => True) ?hr ?hp (fun _ hk => hk) trivial (Below.refl _ _) (Nat.le_refl _) (by simp) ?_; (case hd => rfl); (case hg => rfl); (case hr => first | (go_simp; done) | (go_simp; rfl)); (case hp => exact (Reps.one (show Kd.M Kd.string _ _ _ a0 [.string a0] from rfl) (Reps.none _ _))); intro v103 w19 ho20 hb hg_ hnew_; clear hg_ hnew_; (first | rw [← Ny102.out] at ho20 | (simp only [Int.reduceToNat] at ho20; rw [← Ny102.out] at ho20)); have n0_ := Aside0.mk (Kd.R_lower ho20 (below_size (by repeat (first | (with_reducible first | exact HB.out | apply below_alloc | apply pw_below_drewN | apply below_drew1) | exact HB.out)))); have n1_ := Aside0.mk (below_step (by repeat (first | (with_reducible first | exact HB.out | apply below_alloc | apply pw_below_drewN | apply below_drew1) | exact HB.out)) hb); clear HB; have HO104 := n0_; have HB := n1_; clear n0_ n1_; clear hb ho20; obtain ⟨Ao21, co21, eo21⟩ := Kd.R_slice HO104.out; subst eo21) | ((with_reducible refine gate_callee (f := 40) rfl ?_); refine goesL_ (some 23) rfl rfl Tryz.func40 (by kernel_rfl) rfl #[.slice Ao21 y102.length co21] rfl (by (try simp only [List.map_toArray, List.map_cons, List.map_nil]); first | done | rfl | (simp only [List.length_drop, List.length_take]; rfl)) ?_; (with_reducible refine (cayleylaw01_words.calls k _ _ y102 true _ ?side1 ?side2 A8.out).mono ?_); (case side1 => repeat (first | exact (Kd.R_reads' HO104.out).2.2 | (with_reducible refine Kd.C_alloc ?_ _) | (with_reducible refine Kd.C_drewN ?_ _) | (with_reducible refine Kd.C_drew ?_))); (case side2 => exact (Kd.R_reads' HO104.out).2.1); rintro e w' ⟨rfl, ⟨nd, rfl⟩⟩; refine ⟨_, rfl, ?_⟩))
              go_meet
              case rel => exact ⟨_, (true), (by first | rfl | (simp; done) | (simp [*]; done) | (simp; exact (fun (a b : Bool) => (by cases a <;> cases b <;> rfl : (a == b) = !(a != b))) _ _)), H', ⟨by first | omega | exact Nat.le_refl _⟩, ⟨by repeat (first | (with_reducible first | exact HB.out | apply below_alloc | apply pw_below_drewN | apply below_drew1) | exact HB.out)⟩⟩
            · rw [if_neg c18] at H
              have c18b0 : decide (a2 < (-20)) = false := decide_eq_false c18
              clear c18
              have H' := Aside0.mk H
              clear H
              go_wp2_with (first | ((with_reducible refine gate_dst (N := 22) rfl ?_); refine Kd.R_lit Kd.string _ 9 ?hg (N := 22) ?hd (xs := ([a0] : List ByteArray)) (inner := [.string a0]) (ok := fun _ => True) (okp := fun _ => True) ?hr ?hp (fun _ hk => hk) trivial (Below.refl _ _) (Nat.le_refl _) (by simp) ?_; (case hd => rfl); (case hg => rfl); (case hr => first | (go_simp; done) | (go_simp; rfl)); (case hp => exact (Reps.one (show Kd.M Kd.string _ _ _ a0 [.string a0] from rfl) (Reps.none _ _))); intro v103 w22 ho23 hb hg_ hnew_; clear hg_ hnew_; (first | rw [← Ny102.out] at ho23 | (simp only [Int.reduceToNat] at ho23; rw [← Ny102.out] at ho23)); have n0_ := Aside0.mk (Kd.R_lower ho23 (below_size (by repeat (first | (with_reducible first | exact HB.out | apply below_alloc | apply pw_below_drewN | apply below_drew1) | exact HB.out)))); have n1_ := Aside0.mk (below_step (by repeat (first | (with_reducible first | exact HB.out | apply below_alloc | apply pw_below_drewN | apply below_drew1) | exact HB.out)) hb); clear HB; have HO104 := n0_; have HB := n1_; clear n0_ n1_; clear hb ho23; obtain ⟨Ao24, co24, eo24⟩ := Kd.R_slice HO104.out; subst eo24) | ((with_reducible refine gate_callee (f := 40) rfl ?_); refine goesL_ (some 23) rfl rfl Tryz.func40 (by kernel_rfl) rfl #[.slice Ao24 y102.length co24] rfl (by (try simp only [List.map_toArray, List.map_cons, List.map_nil]); first | done | rfl | (simp only [List.length_drop, List.length_take]; rfl)) ?_; (with_reducible refine (cayleylaw01_words.calls k _ _ y102 true _ ?side1 ?side2 A8.out).mono ?_); (case side1 => repeat (first | exact (Kd.R_reads' HO104.out).2.2 | (with_reducible refine Kd.C_alloc ?_ _) | (with_reducible refine Kd.C_drewN ?_ _) | (with_reducible refine Kd.C_drew ?_))); (case side2 => exact (Kd.R_reads' HO104.out).2.1); rintro e w' ⟨rfl, ⟨nd, rfl⟩⟩; refine ⟨_, rfl, ?_⟩))
              go_meet
              case rel => exact ⟨_, (decide (a2 > 20)), (by first | rfl | (simp; done) | (simp [*]; done) | (simp; exact (fun (a b : Bool) => (by cases a <;> cases b <;> rfl : (a == b) = !(a != b))) _ _)), H', ⟨by first | omega | exact Nat.le_refl _⟩, ⟨by repeat (first | (with_reducible first | exact HB.out | apply below_alloc | apply pw_below_drewN | apply below_drew1) | exact HB.out)⟩⟩
      · replace c9 := Bool.eq_false_iff.mpr c9
        subst c9
        have H1 : (cayleylaw01_WordBack.j0 k a0 a1 a2 true) = some r := by rw [if_neg (show ¬ (false = true) by decide)] at H; exact H
        clear H
        have H := H1
        clear H1
        have H' := Aside0.mk H
        clear H
        go_wp2_with (first | ((with_reducible refine gate_dst (N := 22) rfl ?_); refine Kd.R_lit Kd.string _ 9 ?hg (N := 22) ?hd (xs := ([a0] : List ByteArray)) (inner := [.string a0]) (ok := fun _ => True) (okp := fun _ => True) ?hr ?hp (fun _ hk => hk) trivial (Below.refl _ _) (Nat.le_refl _) (by simp) ?_; (case hd => rfl); (case hg => rfl); (case hr => first | (go_simp; done) | (go_simp; rfl)); (case hp => exact (Reps.one (show Kd.M Kd.string _ _ _ a0 [.string a0] from rfl) (Reps.none _ _))); intro v103 w25 ho26 hb hg_ hnew_; clear hg_ hnew_; (first | rw [← Ny102.out] at ho26 | (simp only [Int.reduceToNat] at ho26; rw [← Ny102.out] at ho26)); have n0_ := Aside0.mk (Kd.R_lower ho26 (below_size (by repeat (first | (with_reducible first | exact HB.out | apply below_alloc | apply pw_below_drewN | apply below_drew1) | exact HB.out)))); have n1_ := Aside0.mk (below_step (by repeat (first | (with_reducible first | exact HB.out | apply below_alloc | apply pw_below_drewN | apply below_drew1) | exact HB.out)) hb); clear HB; have HO104 := n0_; have HB := n1_; clear n0_ n1_; clear hb ho26; obtain ⟨Ao27, co27, eo27⟩ := Kd.R_slice HO104.out; subst eo27) | ((with_reducible refine gate_callee (f := 40) rfl ?_); refine goesL_ (some 23) rfl rfl Tryz.func40 (by kernel_rfl) rfl #[.slice Ao27 y102.length co27] rfl (by (try simp only [List.map_toArray, List.map_cons, List.map_nil]); first | done | rfl | (simp only [List.length_drop, List.length_take]; rfl)) ?_; (with_reducible refine (cayleylaw01_words.calls k _ _ y102 false _ ?side1 ?side2 A8.out).mono ?_); (case side1 => repeat (first | exact (Kd.R_reads' HO104.out).2.2 | (with_reducible refine Kd.C_alloc ?_ _) | (with_reducible refine Kd.C_drewN ?_ _) | (with_reducible refine Kd.C_drew ?_))); (case side2 => exact (Kd.R_reads' HO104.out).2.1); rintro e w' ⟨rfl, ⟨nd, rfl⟩⟩; refine ⟨_, rfl, ?_⟩))
        go_meet
        case rel => exact ⟨_, (true), (by first | rfl | (simp; done) | (simp [*]; done) | (simp; exact (fun (a b : Bool) => (by cases a <;> cases b <;> rfl : (a == b) = !(a != b))) _ _)), H', ⟨by first | omega | exact Nat.le_refl _⟩, ⟨by repeat (first | (with_reducible first | exact HB.out | apply below_alloc | apply pw_below_drewN | apply below_drew1) | exact HB.out)⟩⟩
    case rest =>
      clear HC6
      try clear c1
      try clear p2
      try clear c4
      try clear c5
      try clear c9
      try clear c10
      try clear c10b0
      try clear c11
      try clear c14
      try clear c14b0
      try clear c18
      try clear c18b0
      obtain ⟨kq, x40_5, rfl, HA, HJ5, HB⟩ := hcut
      cases kq with
      | zero => exact absurd HA.out (by simp [cayleylaw01_WordBack.j0])
      | succ kj5 =>
        have H := HA.out
        clear HA
        simp only [cayleylaw01_WordBack.j0] at H
        by_cases c28 : x40_5 = true
        · subst c28
          have H1 : (some true) = some r := by rw [if_pos rfl] at H; exact H
          clear H
          have H := H1
          clear H1
          obtain rfl := Option.some.inj H
          go_wp2
          go_ret
          exact ⟨by first | rfl | (simp [errW_none, errW_some] <;> rfl) | (simp [*, errW_none, errW_some] <;> rfl), by repeat (first | (with_reducible first | exact HB.out | apply below_alloc | apply pw_below_drewN | apply below_drew1) | exact HB.out)⟩
        · replace c28 := Bool.eq_false_iff.mpr c28
          subst c28
          have H1 : ((word_Text.f kj5 a0).bind fun t106 => ((word_Parse.f 8 t106).bind fun bt107 => ((word_Root.f kj5 a0).bind fun bt109 => ((word_Power.f kj5 bt109.1 bt109.2).bind fun bt111 => ((word_Root.f kj5 bt109.1).bind fun bt113 => (if bt107.2 = 0 then ((word_Reduce.f kj5 a0).bind fun t115 => (if bt107.1.toList = t115.toList then (if bt111.2 = 0 then ((word_Reduce.f kj5 a0).bind fun t116 => (if bt111.1.toList = t116.toList then (cayleylaw01_WordBack.j1 kj5 a0 a1 a2 ((bt113.2 != 1) != (bt109.1.toList == ([] : List UInt8)))) else (cayleylaw01_WordBack.j1 kj5 a0 a1 a2 true))) else (cayleylaw01_WordBack.j1 kj5 a0 a1 a2 true)) else (cayleylaw01_WordBack.j1 kj5 a0 a1 a2 true))) else (cayleylaw01_WordBack.j1 kj5 a0 a1 a2 true))))))) = some r := by rw [if_neg (show ¬ (false = true) by decide)] at H; exact H
          clear H
          have H := H1
          clear H1
          replace H := Option.bind_eq_some_iff.mp H
          obtain ⟨t106, A290, H⟩ := H
          replace H : ((word_Parse.f 8 t106).bind fun bt107 => ((word_Root.f kj5 a0).bind fun bt109 => ((word_Power.f kj5 bt109.1 bt109.2).bind fun bt111 => ((word_Root.f kj5 bt109.1).bind fun bt113 => (if bt107.2 = 0 then ((word_Reduce.f kj5 a0).bind fun t115 => (if bt107.1.toList = t115.toList then (if bt111.2 = 0 then ((word_Reduce.f kj5 a0).bind fun t116 => (if bt111.1.toList = t116.toList then (cayleylaw01_WordBack.j1 kj5 a0 a1 a2 ((bt113.2 != 1) != (bt109.1.toList == ([] : List UInt8)))) else (cayleylaw01_WordBack.j1 kj5 a0 a1 a2 true))) else (cayleylaw01_WordBack.j1 kj5 a0 a1 a2 true)) else (cayleylaw01_WordBack.j1 kj5 a0 a1 a2 true))) else (cayleylaw01_WordBack.j1 kj5 a0 a1 a2 true)))))) = some r := H
          have A29 := Aside0.mk A290
          clear A290
          replace H := Option.bind_eq_some_iff.mp H
          obtain ⟨⟨t107, t108⟩, A300, H⟩ := H
          replace H : ((word_Root.f kj5 a0).bind fun bt109 => ((word_Power.f kj5 bt109.1 bt109.2).bind fun bt111 => ((word_Root.f kj5 bt109.1).bind fun bt113 => (if t108 = 0 then ((word_Reduce.f kj5 a0).bind fun t115 => (if t107.toList = t115.toList then (if bt111.2 = 0 then ((word_Reduce.f kj5 a0).bind fun t116 => (if bt111.1.toList = t116.toList then (cayleylaw01_WordBack.j1 kj5 a0 a1 a2 ((bt113.2 != 1) != (bt109.1.toList == ([] : List UInt8)))) else (cayleylaw01_WordBack.j1 kj5 a0 a1 a2 true))) else (cayleylaw01_WordBack.j1 kj5 a0 a1 a2 true)) else (cayleylaw01_WordBack.j1 kj5 a0 a1 a2 true))) else (cayleylaw01_WordBack.j1 kj5 a0 a1 a2 true))))) = some r := H
          have A30 := Aside0.mk A300
          clear A300
          replace H := Option.bind_eq_some_iff.mp H
          obtain ⟨⟨t109, t110⟩, A310, H⟩ := H
          replace H : ((word_Power.f kj5 t109 t110).bind fun bt111 => ((word_Root.f kj5 t109).bind fun bt113 => (if t108 = 0 then ((word_Reduce.f kj5 a0).bind fun t115 => (if t107.toList = t115.toList then (if bt111.2 = 0 then ((word_Reduce.f kj5 a0).bind fun t116 => (if bt111.1.toList = t116.toList then (cayleylaw01_WordBack.j1 kj5 a0 a1 a2 ((bt113.2 != 1) != (t109.toList == ([] : List UInt8)))) else (cayleylaw01_WordBack.j1 kj5 a0 a1 a2 true))) else (cayleylaw01_WordBack.j1 kj5 a0 a1 a2 true)) else (cayleylaw01_WordBack.j1 kj5 a0 a1 a2 true))) else (cayleylaw01_WordBack.j1 kj5 a0 a1 a2 true)))) = some r := H
          have A31 := Aside0.mk A310
          clear A310
          replace H := Option.bind_eq_some_iff.mp H
          obtain ⟨⟨t111, t112⟩, A320, H⟩ := H
          replace H : ((word_Root.f kj5 t109).bind fun bt113 => (if t108 = 0 then ((word_Reduce.f kj5 a0).bind fun t115 => (if t107.toList = t115.toList then (if t112 = 0 then ((word_Reduce.f kj5 a0).bind fun t116 => (if t111.toList = t116.toList then (cayleylaw01_WordBack.j1 kj5 a0 a1 a2 ((bt113.2 != 1) != (t109.toList == ([] : List UInt8)))) else (cayleylaw01_WordBack.j1 kj5 a0 a1 a2 true))) else (cayleylaw01_WordBack.j1 kj5 a0 a1 a2 true)) else (cayleylaw01_WordBack.j1 kj5 a0 a1 a2 true))) else (cayleylaw01_WordBack.j1 kj5 a0 a1 a2 true))) = some r := H
          have A32 := Aside0.mk A320
          clear A320
          replace H := Option.bind_eq_some_iff.mp H
          obtain ⟨⟨t113, t114⟩, A330, H⟩ := H
          replace H : (if t108 = 0 then ((word_Reduce.f kj5 a0).bind fun t115 => (if t107.toList = t115.toList then (if t112 = 0 then ((word_Reduce.f kj5 a0).bind fun t116 => (if t111.toList = t116.toList then (cayleylaw01_WordBack.j1 kj5 a0 a1 a2 ((t114 != 1) != (t109.toList == ([] : List UInt8)))) else (cayleylaw01_WordBack.j1 kj5 a0 a1 a2 true))) else (cayleylaw01_WordBack.j1 kj5 a0 a1 a2 true)) else (cayleylaw01_WordBack.j1 kj5 a0 a1 a2 true))) else (cayleylaw01_WordBack.j1 kj5 a0 a1 a2 true)) = some r := H
          have A33 := Aside0.mk A330
          clear A330
          have HC34 := Aside0.mk H
          clear H
          go_upto_region 9 with (first | ((with_reducible refine gate_callee (f := 25) rfl ?_); refine goesL_ (some 43) rfl rfl Tryz.func25 (by kernel_rfl) rfl #[.string a0] rfl (by (try simp only [List.map_toArray, List.map_cons, List.map_nil]); first | done | rfl | (simp only [List.length_drop, List.length_take]; rfl)) ?_; (with_reducible refine (word_Text.calls kj5 a0 t106 _ A29.out (by first | exact hG | exact GL.step hG (by repeat (first | (with_reducible first | exact HB.out | apply below_alloc | apply pw_below_drewN | apply below_drew1) | exact HB.out)))).mono ?_); rintro e w35 ⟨rfl, hb⟩; refine ⟨_, rfl, ?_⟩; have n0_ := Aside0.mk (below_step (by repeat (first | (with_reducible first | exact HB.out | apply below_alloc | apply pw_below_drewN | apply below_drew1) | exact HB.out)) hb); clear HB; have HB := n0_; clear n0_; (try clear hb); (try clear hb2); (try clear hk); (try clear hi)) | ((with_reducible refine gate_callee (f := 39) rfl ?_); refine goesL_ (some 44) rfl rfl Tryz.func39 (by kernel_rfl) rfl #[.int .i64 8, .string t106] rfl (by (try simp only [List.map_toArray, List.map_cons, List.map_nil]); first | done | rfl | (simp only [List.length_drop, List.length_take]; rfl)) ?_; (with_reducible refine (word_Parse.calls 8 t106 t107 t108 _ A30.out (by first | exact hG | exact GL.step hG (by repeat (first | (with_reducible first | exact HB.out | apply below_alloc | apply pw_below_drewN | apply below_drew1) | exact HB.out)))).mono ?_); rintro e w36 ⟨rfl, hb⟩; refine ⟨_, rfl, ?_⟩; have n0_ := Aside0.mk (below_step (by repeat (first | (with_reducible first | exact HB.out | apply below_alloc | apply pw_below_drewN | apply below_drew1) | exact HB.out)) hb); clear HB; have HB := n0_; clear n0_; (try clear hb); (try clear hb2); (try clear hk); (try clear hi)) | ((with_reducible refine gate_callee (f := 30) rfl ?_); refine goesL_ (some 49) rfl rfl Tryz.func30 (by kernel_rfl) rfl #[.string a0] rfl (by (try simp only [List.map_toArray, List.map_cons, List.map_nil]); first | done | rfl | (simp only [List.length_drop, List.length_take]; rfl)) ?_; (with_reducible refine (word_Root.calls kj5 a0 t109 t110 _ A31.out (by first | exact hG | exact GL.step hG (by repeat (first | (with_reducible first | exact HB.out | apply below_alloc | apply pw_below_drewN | apply below_drew1) | exact HB.out)))).mono ?_); rintro e w37 ⟨rfl, hb⟩; refine ⟨_, rfl, ?_⟩; have n0_ := Aside0.mk (below_step (by repeat (first | (with_reducible first | exact HB.out | apply below_alloc | apply pw_below_drewN | apply below_drew1) | exact HB.out)) hb); clear HB; have HB := n0_; clear n0_; (try clear hb); (try clear hb2); (try clear hk); (try clear hi)) | ((with_reducible refine gate_callee (f := 34) rfl ?_); refine goesL_ (some 55) rfl rfl Tryz.func34 (by kernel_rfl) rfl #[.string t109, .int .i64 t110] rfl (by (try simp only [List.map_toArray, List.map_cons, List.map_nil]); first | done | rfl | (simp only [List.length_drop, List.length_take]; rfl)) ?_; (with_reducible refine (word_Power.calls kj5 t109 t110 t111 t112 _ A32.out (by first | exact hG | exact GL.step hG (by repeat (first | (with_reducible first | exact HB.out | apply below_alloc | apply pw_below_drewN | apply below_drew1) | exact HB.out)))).mono ?_); rintro e w38 ⟨rfl, hb⟩; refine ⟨_, rfl, ?_⟩; have n0_ := Aside0.mk (below_step (by repeat (first | (with_reducible first | exact HB.out | apply below_alloc | apply pw_below_drewN | apply below_drew1) | exact HB.out)) hb); clear HB; have HB := n0_; clear n0_; (try clear hb); (try clear hb2); (try clear hk); (try clear hi)) | ((with_reducible refine gate_callee (f := 30) rfl ?_); refine goesL_ (some 60) rfl rfl Tryz.func30 (by kernel_rfl) rfl #[.string t109] rfl (by (try simp only [List.map_toArray, List.map_cons, List.map_nil]); first | done | rfl | (simp only [List.length_drop, List.length_take]; rfl)) ?_; (with_reducible refine (word_Root.calls kj5 t109 t113 t114 _ A33.out (by first | exact hG | exact GL.step hG (by repeat (first | (with_reducible first | exact HB.out | apply below_alloc | apply pw_below_drewN | apply below_drew1) | exact HB.out)))).mono ?_); rintro e w39 ⟨rfl, hb⟩; refine ⟨_, rfl, ?_⟩; have n0_ := Aside0.mk (below_step (by repeat (first | (with_reducible first | exact HB.out | apply below_alloc | apply pw_below_drewN | apply below_drew1) | exact HB.out)) hb); clear HB; have HB := n0_; clear n0_; (try clear hb); (try clear hb2); (try clear hk); (try clear hi)))
          (try simp only [Act.put, List.setIfInBounds_toArray, List.set_cons_zero, List.set_cons_succ])
          go_cut [87] (fun v87 wc => ∃ (kq : Nat) (x87_33 : Bool), v87 = .bool x87_33 ∧ Aside0 (cayleylaw01_WordBack.j1 kq a0 a1 a2 x87_33 = some r) ∧ Aside0 (kq ≤ kj5) ∧ Aside0 (Below w.heap.size w wc))
          case first =>
            have H := HC34.out
            clear HC34
            by_cases c40 : t108 = 0
            · rw [if_pos c40] at H
              have c40b0 : (t108 == 0) = true := beq_iff_eq.mpr c40
              have c40b1 : (t108 != 0) = false := bne_eq_false_iff_eq.mpr c40
              clear c40
              (first | rw [c40b0] | (simp only [i64_w, i32_w]; rw [c40b0]) | skip)
              replace H := Option.bind_eq_some_iff.mp H
              obtain ⟨t115, A410, H⟩ := H
              replace H : (if t107.toList = t115.toList then (if t112 = 0 then ((word_Reduce.f kj5 a0).bind fun t116 => (if t111.toList = t116.toList then (cayleylaw01_WordBack.j1 kj5 a0 a1 a2 ((t114 != 1) != (t109.toList == ([] : List UInt8)))) else (cayleylaw01_WordBack.j1 kj5 a0 a1 a2 true))) else (cayleylaw01_WordBack.j1 kj5 a0 a1 a2 true)) else (cayleylaw01_WordBack.j1 kj5 a0 a1 a2 true)) = some r := H
              have A41 := Aside0.mk A410
              clear A410
              by_cases c42 : t107.toList = t115.toList
              · rw [if_pos c42] at H
                have c42b0 : (t107.toList == t115.toList) = true := beq_iff_eq.mpr c42
                have c42b1 : (t107.toList != t115.toList) = false := bne_eq_false_iff_eq.mpr c42
                clear c42
                by_cases c43 : t112 = 0
                · rw [if_pos c43] at H
                  have c43b0 : (t112 == 0) = true := beq_iff_eq.mpr c43
                  have c43b1 : (t112 != 0) = false := bne_eq_false_iff_eq.mpr c43
                  clear c43
                  replace H := Option.bind_eq_some_iff.mp H
                  obtain ⟨t116, A440, H⟩ := H
                  replace H : (if t111.toList = t116.toList then (cayleylaw01_WordBack.j1 kj5 a0 a1 a2 ((t114 != 1) != (t109.toList == ([] : List UInt8)))) else (cayleylaw01_WordBack.j1 kj5 a0 a1 a2 true)) = some r := H
                  have A44 := Aside0.mk A440
                  clear A440
                  by_cases c45 : t111.toList = t116.toList
                  · rw [if_pos c45] at H
                    have c45b0 : (t111.toList == t116.toList) = true := beq_iff_eq.mpr c45
                    have c45b1 : (t111.toList != t116.toList) = false := bne_eq_false_iff_eq.mpr c45
                    clear c45
                    have H' := Aside0.mk H
                    clear H
                    obtain rfl : t115 = t116 := Option.some.inj (A41.out.symm.trans A44.out)
                    go_wp2_with (first | (go_at_call 21; (with_reducible refine (word_Reduce.calls kj5 a0 t115 _ A41.out (by first | exact hG | exact GL.step hG (by repeat (first | (with_reducible first | exact HB.out | apply below_alloc | apply pw_below_drewN | apply below_drew1) | exact HB.out)))).mono ?_); rintro e w46 ⟨rfl, hb⟩; have n0_ := Aside0.mk (below_step (by repeat (first | (with_reducible first | exact HB.out | apply below_alloc | apply pw_below_drewN | apply below_drew1) | exact HB.out)) hb); clear HB; have HB := n0_; clear n0_; (try clear hb); (try clear hb2); (try clear hk); (try clear hi)) | (go_at_call 21; (with_reducible refine (word_Reduce.calls kj5 a0 t115 _ A44.out (by first | exact hG | exact GL.step hG (by repeat (first | (with_reducible first | exact HB.out | apply below_alloc | apply pw_below_drewN | apply below_drew1) | exact HB.out)))).mono ?_); rintro e w47 ⟨rfl, hb⟩; have n0_ := Aside0.mk (below_step (by repeat (first | (with_reducible first | exact HB.out | apply below_alloc | apply pw_below_drewN | apply below_drew1) | exact HB.out)) hb); clear HB; have HB := n0_; clear n0_; (try clear hb); (try clear hb2); (try clear hk); (try clear hi)))
                    go_meet
                    case rel => exact ⟨_, (((t114 != 1) != (t109.toList == ([] : List UInt8)))), (by first | rfl | (simp; done) | (simp [*]; done) | (simp; exact (fun (a b : Bool) => (by cases a <;> cases b <;> rfl : (a == b) = !(a != b))) _ _)), H', ⟨by have := HJ5.out; first | omega | exact Nat.le_refl _⟩, ⟨by repeat (first | (with_reducible first | exact HB.out | apply below_alloc | apply pw_below_drewN | apply below_drew1) | exact HB.out)⟩⟩
                  · rw [if_neg c45] at H
                    have c45b0 : (t111.toList == t116.toList) = false := beq_eq_false_iff_ne.mpr c45
                    have c45b1 : (t111.toList != t116.toList) = true := bne_iff_ne.mpr c45
                    have H' := Aside0.mk H
                    clear H
                    obtain rfl : t115 = t116 := Option.some.inj (A41.out.symm.trans A44.out)
                    go_wp2_with (first | (go_at_call 21; (with_reducible refine (word_Reduce.calls kj5 a0 t115 _ A41.out (by first | exact hG | exact GL.step hG (by repeat (first | (with_reducible first | exact HB.out | apply below_alloc | apply pw_below_drewN | apply below_drew1) | exact HB.out)))).mono ?_); rintro e w48 ⟨rfl, hb⟩; have n0_ := Aside0.mk (below_step (by repeat (first | (with_reducible first | exact HB.out | apply below_alloc | apply pw_below_drewN | apply below_drew1) | exact HB.out)) hb); clear HB; have HB := n0_; clear n0_; (try clear hb); (try clear hb2); (try clear hk); (try clear hi)) | (go_at_call 21; (with_reducible refine (word_Reduce.calls kj5 a0 t115 _ A44.out (by first | exact hG | exact GL.step hG (by repeat (first | (with_reducible first | exact HB.out | apply below_alloc | apply pw_below_drewN | apply below_drew1) | exact HB.out)))).mono ?_); rintro e w49 ⟨rfl, hb⟩; have n0_ := Aside0.mk (below_step (by repeat (first | (with_reducible first | exact HB.out | apply below_alloc | apply pw_below_drewN | apply below_drew1) | exact HB.out)) hb); clear HB; have HB := n0_; clear n0_; (try clear hb); (try clear hb2); (try clear hk); (try clear hi)))
                    go_meet
                    case rel => exact ⟨_, (true), (by first | rfl | (simp; done) | (simp [*]; done) | (simp; exact (fun (a b : Bool) => (by cases a <;> cases b <;> rfl : (a == b) = !(a != b))) _ _)), H', ⟨by have := HJ5.out; first | omega | exact Nat.le_refl _⟩, ⟨by repeat (first | (with_reducible first | exact HB.out | apply below_alloc | apply pw_below_drewN | apply below_drew1) | exact HB.out)⟩⟩
                · rw [if_neg c43] at H
                  have c43b0 : (t112 == 0) = false := beq_eq_false_iff_ne.mpr c43
                  have c43b1 : (t112 != 0) = true := bne_iff_ne.mpr c43
                  have H' := Aside0.mk H
                  clear H
                  go_wp2_with (first | (go_at_call 21; (with_reducible refine (word_Reduce.calls kj5 a0 t115 _ A41.out (by first | exact hG | exact GL.step hG (by repeat (first | (with_reducible first | exact HB.out | apply below_alloc | apply pw_below_drewN | apply below_drew1) | exact HB.out)))).mono ?_); rintro e w50 ⟨rfl, hb⟩; have n0_ := Aside0.mk (below_step (by repeat (first | (with_reducible first | exact HB.out | apply below_alloc | apply pw_below_drewN | apply below_drew1) | exact HB.out)) hb); clear HB; have HB := n0_; clear n0_; (try clear hb); (try clear hb2); (try clear hk); (try clear hi)))
                  go_meet
                  case rel => exact ⟨_, (true), (by first | rfl | (simp; done) | (simp [*]; done) | (simp; exact (fun (a b : Bool) => (by cases a <;> cases b <;> rfl : (a == b) = !(a != b))) _ _)), H', ⟨by have := HJ5.out; first | omega | exact Nat.le_refl _⟩, ⟨by repeat (first | (with_reducible first | exact HB.out | apply below_alloc | apply pw_below_drewN | apply below_drew1) | exact HB.out)⟩⟩
              · rw [if_neg c42] at H
                have c42b0 : (t107.toList == t115.toList) = false := beq_eq_false_iff_ne.mpr c42
                have c42b1 : (t107.toList != t115.toList) = true := bne_iff_ne.mpr c42
                have H' := Aside0.mk H
                clear H
                go_wp2_with (first | (go_at_call 21; (with_reducible refine (word_Reduce.calls kj5 a0 t115 _ A41.out (by first | exact hG | exact GL.step hG (by repeat (first | (with_reducible first | exact HB.out | apply below_alloc | apply pw_below_drewN | apply below_drew1) | exact HB.out)))).mono ?_); rintro e w51 ⟨rfl, hb⟩; have n0_ := Aside0.mk (below_step (by repeat (first | (with_reducible first | exact HB.out | apply below_alloc | apply pw_below_drewN | apply below_drew1) | exact HB.out)) hb); clear HB; have HB := n0_; clear n0_; (try clear hb); (try clear hb2); (try clear hk); (try clear hi)))
                go_meet
                case rel => exact ⟨_, (true), (by first | rfl | (simp; done) | (simp [*]; done) | (simp; exact (fun (a b : Bool) => (by cases a <;> cases b <;> rfl : (a == b) = !(a != b))) _ _)), H', ⟨by have := HJ5.out; first | omega | exact Nat.le_refl _⟩, ⟨by repeat (first | (with_reducible first | exact HB.out | apply below_alloc | apply pw_below_drewN | apply below_drew1) | exact HB.out)⟩⟩
            · rw [if_neg c40] at H
              have c40b0 : (t108 == 0) = false := beq_eq_false_iff_ne.mpr c40
              have c40b1 : (t108 != 0) = true := bne_iff_ne.mpr c40
              (first | rw [c40b0] | (simp only [i64_w, i32_w]; rw [c40b0]) | skip)
              have H' := Aside0.mk H
              clear H
              go_wp2
              go_meet
              case rel => exact ⟨_, (true), (by first | rfl | (simp; done) | (simp [*]; done) | (simp; exact (fun (a b : Bool) => (by cases a <;> cases b <;> rfl : (a == b) = !(a != b))) _ _)), H', ⟨by have := HJ5.out; first | omega | exact Nat.le_refl _⟩, ⟨by repeat (first | (with_reducible first | exact HB.out | apply below_alloc | apply pw_below_drewN | apply below_drew1) | exact HB.out)⟩⟩
          case rest =>
            clear HC34
            try clear c1
            try clear c2
            try clear p2
            try clear c3
            try clear c4
            try clear c5
            try clear c9
            try clear c10
            try clear c10b0
            try clear c11
            try clear c14
            try clear c14b0
            try clear c18
            try clear c18b0
            try clear c25
            try clear c28
            try clear c30
            try clear c34
            try clear c39
            try clear c40
            try clear c40b0
            try clear c40b1
            try clear c42
            try clear c42b0
            try clear c42b1
            try clear c43
            try clear c43b0
            try clear c43b1
            try clear c45
            try clear c45b0
            try clear c45b1
            try clear p2
            obtain ⟨kq, x87_33, rfl, HA, HJ33, HB⟩ := hcut
            cases kq with
            | zero => exact absurd HA.out (by simp [cayleylaw01_WordBack.j1])
            | succ kj33 =>
              have H := HA.out
              clear HA
              simp only [cayleylaw01_WordBack.j1] at H
              by_cases c52 : x87_33 = true
              · subst c52
                have H1 : (some false) = some r := by rw [if_pos rfl] at H; exact H
                clear H
                have H := H1
                clear H1
                obtain rfl := Option.some.inj H
                go_wp2
                go_ret
                exact ⟨by first | rfl | (simp [errW_none, errW_some] <;> rfl) | (simp [*, errW_none, errW_some] <;> rfl), by repeat (first | (with_reducible first | exact HB.out | apply below_alloc | apply pw_below_drewN | apply below_drew1) | exact HB.out)⟩
              · replace c52 := Bool.eq_false_iff.mpr c52
                subst c52
                have H1 : ((word_Power.f kj33 a0 a1).bind fun bt117 => ((word_Power.f kj33 a0 a2).bind fun bt119 => ((word_Power.f kj33 a0 (wrap64 (a1 + a2))).bind fun bt121 => (if bt117.2 = 0 then (if bt119.2 = 0 then (if bt121.2 = 0 then (if bt117.1.size + bt119.1.size ≤ 9223372036854775807 then ((word_Reduce.f kj33 (bt117.1 ++ bt119.1)).bind fun t123 => (some (t123.toList == bt121.1.toList))) else (none)) else (some false)) else (some false)) else (some false))))) = some r := by rw [if_neg (show ¬ (false = true) by decide)] at H; exact H
                clear H
                have H := H1
                clear H1
                replace H := Option.bind_eq_some_iff.mp H
                obtain ⟨⟨t117, t118⟩, A530, H⟩ := H
                replace H : ((word_Power.f kj33 a0 a2).bind fun bt119 => ((word_Power.f kj33 a0 (wrap64 (a1 + a2))).bind fun bt121 => (if t118 = 0 then (if bt119.2 = 0 then (if bt121.2 = 0 then (if t117.size + bt119.1.size ≤ 9223372036854775807 then ((word_Reduce.f kj33 (t117 ++ bt119.1)).bind fun t123 => (some (t123.toList == bt121.1.toList))) else (none)) else (some false)) else (some false)) else (some false)))) = some r := H
                have A53 := Aside0.mk A530
                clear A530
                replace H := Option.bind_eq_some_iff.mp H
                obtain ⟨⟨t119, t120⟩, A540, H⟩ := H
                replace H : ((word_Power.f kj33 a0 (wrap64 (a1 + a2))).bind fun bt121 => (if t118 = 0 then (if t120 = 0 then (if bt121.2 = 0 then (if t117.size + t119.size ≤ 9223372036854775807 then ((word_Reduce.f kj33 (t117 ++ t119)).bind fun t123 => (some (t123.toList == bt121.1.toList))) else (none)) else (some false)) else (some false)) else (some false))) = some r := H
                have A54 := Aside0.mk A540
                clear A540
                replace H := Option.bind_eq_some_iff.mp H
                obtain ⟨⟨t121, t122⟩, A550, H⟩ := H
                replace H : (if t118 = 0 then (if t120 = 0 then (if t122 = 0 then (if t117.size + t119.size ≤ 9223372036854775807 then ((word_Reduce.f kj33 (t117 ++ t119)).bind fun t123 => (some (t123.toList == t121.toList))) else (none)) else (some false)) else (some false)) else (some false)) = some r := H
                have A55 := Aside0.mk A550
                clear A550
                by_cases c56 : t118 = 0
                · rw [if_pos c56] at H
                  have c56b0 : (t118 == 0) = true := beq_iff_eq.mpr c56
                  have c56b1 : (t118 != 0) = false := bne_eq_false_iff_eq.mpr c56
                  clear c56
                  by_cases c57 : t120 = 0
                  · rw [if_pos c57] at H
                    have c57b0 : (t120 == 0) = true := beq_iff_eq.mpr c57
                    have c57b1 : (t120 != 0) = false := bne_eq_false_iff_eq.mpr c57
                    clear c57
                    by_cases c58 : t122 = 0
                    · rw [if_pos c58] at H
                      have c58b0 : (t122 == 0) = true := beq_iff_eq.mpr c58
                      have c58b1 : (t122 != 0) = false := bne_eq_false_iff_eq.mpr c58
                      clear c58
                      by_cases c59 : t117.size + t119.size ≤ 9223372036854775807
                      · rw [if_pos c59] at H
                        have c59b0 := eq_true c59
                        have c59b1 : decide (t117.size + t119.size ≤ 9223372036854775807) = true := decide_eq_true c59
                        try have c59b2 : (9223372036854775807 < t117.size + t119.size) = False := eq_false (Nat.not_lt.2 c59)
                        replace H := Option.bind_eq_some_iff.mp H
                        obtain ⟨t123, A600, H⟩ := H
                        replace H : (some (t123.toList == t121.toList)) = some r := H
                        have A60 := Aside0.mk A600
                        clear A600
                        obtain rfl := Option.some.inj H
                        go_wp2_with (first | ((with_reducible refine gate_callee (f := 34) rfl ?_); refine goesL_ (some 91) rfl rfl Tryz.func34 (by kernel_rfl) rfl #[.string a0, .int .i64 a1] rfl (by (try simp only [List.map_toArray, List.map_cons, List.map_nil]); first | done | rfl | (simp only [List.length_drop, List.length_take]; rfl)) ?_; (with_reducible refine (word_Power.calls kj33 a0 a1 t117 t118 _ A53.out (by first | exact hG | exact GL.step hG (by repeat (first | (with_reducible first | exact HB.out | apply below_alloc | apply pw_below_drewN | apply below_drew1) | exact HB.out)))).mono ?_); rintro e w61 ⟨rfl, hb⟩; refine ⟨_, rfl, ?_⟩; have n0_ := Aside0.mk (below_step (by repeat (first | (with_reducible first | exact HB.out | apply below_alloc | apply pw_below_drewN | apply below_drew1) | exact HB.out)) hb); clear HB; have HB := n0_; clear n0_; (try clear hb); (try clear hb2); (try clear hk); (try clear hi)) | ((with_reducible refine gate_callee (f := 34) rfl ?_); refine goesL_ (some 97) rfl rfl Tryz.func34 (by kernel_rfl) rfl #[.string a0, .int .i64 a2] rfl (by (try simp only [List.map_toArray, List.map_cons, List.map_nil]); first | done | rfl | (simp only [List.length_drop, List.length_take]; rfl)) ?_; (with_reducible refine (word_Power.calls kj33 a0 a2 t119 t120 _ A54.out (by first | exact hG | exact GL.step hG (by repeat (first | (with_reducible first | exact HB.out | apply below_alloc | apply pw_below_drewN | apply below_drew1) | exact HB.out)))).mono ?_); rintro e w62 ⟨rfl, hb⟩; refine ⟨_, rfl, ?_⟩; have n0_ := Aside0.mk (below_step (by repeat (first | (with_reducible first | exact HB.out | apply below_alloc | apply pw_below_drewN | apply below_drew1) | exact HB.out)) hb); clear HB; have HB := n0_; clear n0_; (try clear hb); (try clear hb2); (try clear hk); (try clear hi)) | ((with_reducible refine gate_callee (f := 34) rfl ?_); refine goesL_ (some 105) rfl rfl Tryz.func34 (by kernel_rfl) rfl #[.string a0, .int .i64 (wrap64 (a1 + a2))] rfl (by (try simp only [List.map_toArray, List.map_cons, List.map_nil]); first | done | rfl | (simp only [List.length_drop, List.length_take]; rfl)) ?_; (with_reducible refine (word_Power.calls kj33 a0 (wrap64 (a1 + a2)) t121 t122 _ A55.out (by first | exact hG | exact GL.step hG (by repeat (first | (with_reducible first | exact HB.out | apply below_alloc | apply pw_below_drewN | apply below_drew1) | exact HB.out)))).mono ?_); rintro e w63 ⟨rfl, hb⟩; refine ⟨_, rfl, ?_⟩; have n0_ := Aside0.mk (below_step (by repeat (first | (with_reducible first | exact HB.out | apply below_alloc | apply pw_below_drewN | apply below_drew1) | exact HB.out)) hb); clear HB; have HB := n0_; clear n0_; (try clear hb); (try clear hb2); (try clear hk); (try clear hi)) | (go_at_call 21; (with_reducible refine (word_Reduce.calls kj33 (t117 ++ t119) t123 _ A60.out (by first | exact hG | exact GL.step hG (by repeat (first | (with_reducible first | exact HB.out | apply below_alloc | apply pw_below_drewN | apply below_drew1) | exact HB.out)))).mono ?_); rintro e w64 ⟨rfl, hb⟩; have n0_ := Aside0.mk (below_step (by repeat (first | (with_reducible first | exact HB.out | apply below_alloc | apply pw_below_drewN | apply below_drew1) | exact HB.out)) hb); clear HB; have HB := n0_; clear n0_; (try clear hb); (try clear hb2); (try clear hk); (try clear hi)))
                        go_ret
                        exact ⟨by first | rfl | (simp [errW_none, errW_some] <;> rfl) | (simp [*, errW_none, errW_some] <;> rfl), by repeat (first | (with_reducible first | exact HB.out | apply below_alloc | apply pw_below_drewN | apply below_drew1) | exact HB.out)⟩
                      · rw [if_neg c59] at H
                        exact absurd H (by simp)
                    · rw [if_neg c58] at H
                      have c58b0 : (t122 == 0) = false := beq_eq_false_iff_ne.mpr c58
                      have c58b1 : (t122 != 0) = true := bne_iff_ne.mpr c58
                      obtain rfl := Option.some.inj H
                      go_wp2_with (first | ((with_reducible refine gate_callee (f := 34) rfl ?_); refine goesL_ (some 91) rfl rfl Tryz.func34 (by kernel_rfl) rfl #[.string a0, .int .i64 a1] rfl (by (try simp only [List.map_toArray, List.map_cons, List.map_nil]); first | done | rfl | (simp only [List.length_drop, List.length_take]; rfl)) ?_; (with_reducible refine (word_Power.calls kj33 a0 a1 t117 t118 _ A53.out (by first | exact hG | exact GL.step hG (by repeat (first | (with_reducible first | exact HB.out | apply below_alloc | apply pw_below_drewN | apply below_drew1) | exact HB.out)))).mono ?_); rintro e w65 ⟨rfl, hb⟩; refine ⟨_, rfl, ?_⟩; have n0_ := Aside0.mk (below_step (by repeat (first | (with_reducible first | exact HB.out | apply below_alloc | apply pw_below_drewN | apply below_drew1) | exact HB.out)) hb); clear HB; have HB := n0_; clear n0_; (try clear hb); (try clear hb2); (try clear hk); (try clear hi)) | ((with_reducible refine gate_callee (f := 34) rfl ?_); refine goesL_ (some 97) rfl rfl Tryz.func34 (by kernel_rfl) rfl #[.string a0, .int .i64 a2] rfl (by (try simp only [List.map_toArray, List.map_cons, List.map_nil]); first | done | rfl | (simp only [List.length_drop, List.length_take]; rfl)) ?_; (with_reducible refine (word_Power.calls kj33 a0 a2 t119 t120 _ A54.out (by first | exact hG | exact GL.step hG (by repeat (first | (with_reducible first | exact HB.out | apply below_alloc | apply pw_below_drewN | apply below_drew1) | exact HB.out)))).mono ?_); rintro e w66 ⟨rfl, hb⟩; refine ⟨_, rfl, ?_⟩; have n0_ := Aside0.mk (below_step (by repeat (first | (with_reducible first | exact HB.out | apply below_alloc | apply pw_below_drewN | apply below_drew1) | exact HB.out)) hb); clear HB; have HB := n0_; clear n0_; (try clear hb); (try clear hb2); (try clear hk); (try clear hi)) | ((with_reducible refine gate_callee (f := 34) rfl ?_); refine goesL_ (some 105) rfl rfl Tryz.func34 (by kernel_rfl) rfl #[.string a0, .int .i64 (wrap64 (a1 + a2))] rfl (by (try simp only [List.map_toArray, List.map_cons, List.map_nil]); first | done | rfl | (simp only [List.length_drop, List.length_take]; rfl)) ?_; (with_reducible refine (word_Power.calls kj33 a0 (wrap64 (a1 + a2)) t121 t122 _ A55.out (by first | exact hG | exact GL.step hG (by repeat (first | (with_reducible first | exact HB.out | apply below_alloc | apply pw_below_drewN | apply below_drew1) | exact HB.out)))).mono ?_); rintro e w67 ⟨rfl, hb⟩; refine ⟨_, rfl, ?_⟩; have n0_ := Aside0.mk (below_step (by repeat (first | (with_reducible first | exact HB.out | apply below_alloc | apply pw_below_drewN | apply below_drew1) | exact HB.out)) hb); clear HB; have HB := n0_; clear n0_; (try clear hb); (try clear hb2); (try clear hk); (try clear hi)))
                      go_ret
                      exact ⟨by first | rfl | (simp [errW_none, errW_some] <;> rfl) | (simp [*, errW_none, errW_some] <;> rfl), by repeat (first | (with_reducible first | exact HB.out | apply below_alloc | apply pw_below_drewN | apply below_drew1) | exact HB.out)⟩
                  · rw [if_neg c57] at H
                    have c57b0 : (t120 == 0) = false := beq_eq_false_iff_ne.mpr c57
                    have c57b1 : (t120 != 0) = true := bne_iff_ne.mpr c57
                    obtain rfl := Option.some.inj H
                    go_wp2_with (first | ((with_reducible refine gate_callee (f := 34) rfl ?_); refine goesL_ (some 91) rfl rfl Tryz.func34 (by kernel_rfl) rfl #[.string a0, .int .i64 a1] rfl (by (try simp only [List.map_toArray, List.map_cons, List.map_nil]); first | done | rfl | (simp only [List.length_drop, List.length_take]; rfl)) ?_; (with_reducible refine (word_Power.calls kj33 a0 a1 t117 t118 _ A53.out (by first | exact hG | exact GL.step hG (by repeat (first | (with_reducible first | exact HB.out | apply below_alloc | apply pw_below_drewN | apply below_drew1) | exact HB.out)))).mono ?_); rintro e w68 ⟨rfl, hb⟩; refine ⟨_, rfl, ?_⟩; have n0_ := Aside0.mk (below_step (by repeat (first | (with_reducible first | exact HB.out | apply below_alloc | apply pw_below_drewN | apply below_drew1) | exact HB.out)) hb); clear HB; have HB := n0_; clear n0_; (try clear hb); (try clear hb2); (try clear hk); (try clear hi)) | ((with_reducible refine gate_callee (f := 34) rfl ?_); refine goesL_ (some 97) rfl rfl Tryz.func34 (by kernel_rfl) rfl #[.string a0, .int .i64 a2] rfl (by (try simp only [List.map_toArray, List.map_cons, List.map_nil]); first | done | rfl | (simp only [List.length_drop, List.length_take]; rfl)) ?_; (with_reducible refine (word_Power.calls kj33 a0 a2 t119 t120 _ A54.out (by first | exact hG | exact GL.step hG (by repeat (first | (with_reducible first | exact HB.out | apply below_alloc | apply pw_below_drewN | apply below_drew1) | exact HB.out)))).mono ?_); rintro e w69 ⟨rfl, hb⟩; refine ⟨_, rfl, ?_⟩; have n0_ := Aside0.mk (below_step (by repeat (first | (with_reducible first | exact HB.out | apply below_alloc | apply pw_below_drewN | apply below_drew1) | exact HB.out)) hb); clear HB; have HB := n0_; clear n0_; (try clear hb); (try clear hb2); (try clear hk); (try clear hi)) | ((with_reducible refine gate_callee (f := 34) rfl ?_); refine goesL_ (some 105) rfl rfl Tryz.func34 (by kernel_rfl) rfl #[.string a0, .int .i64 (wrap64 (a1 + a2))] rfl (by (try simp only [List.map_toArray, List.map_cons, List.map_nil]); first | done | rfl | (simp only [List.length_drop, List.length_take]; rfl)) ?_; (with_reducible refine (word_Power.calls kj33 a0 (wrap64 (a1 + a2)) t121 t122 _ A55.out (by first | exact hG | exact GL.step hG (by repeat (first | (with_reducible first | exact HB.out | apply below_alloc | apply pw_below_drewN | apply below_drew1) | exact HB.out)))).mono ?_); rintro e w70 ⟨rfl, hb⟩; refine ⟨_, rfl, ?_⟩; have n0_ := Aside0.mk (below_step (by repeat (first | (with_reducible first | exact HB.out | apply below_alloc | apply pw_below_drewN | apply below_drew1) | exact HB.out)) hb); clear HB; have HB := n0_; clear n0_; (try clear hb); (try clear hb2); (try clear hk); (try clear hi)))
                    go_ret
                    exact ⟨by first | rfl | (simp [errW_none, errW_some] <;> rfl) | (simp [*, errW_none, errW_some] <;> rfl), by repeat (first | (with_reducible first | exact HB.out | apply below_alloc | apply pw_below_drewN | apply below_drew1) | exact HB.out)⟩
                · rw [if_neg c56] at H
                  have c56b0 : (t118 == 0) = false := beq_eq_false_iff_ne.mpr c56
                  have c56b1 : (t118 != 0) = true := bne_iff_ne.mpr c56
                  obtain rfl := Option.some.inj H
                  go_wp2_with (first | ((with_reducible refine gate_callee (f := 34) rfl ?_); refine goesL_ (some 91) rfl rfl Tryz.func34 (by kernel_rfl) rfl #[.string a0, .int .i64 a1] rfl (by (try simp only [List.map_toArray, List.map_cons, List.map_nil]); first | done | rfl | (simp only [List.length_drop, List.length_take]; rfl)) ?_; (with_reducible refine (word_Power.calls kj33 a0 a1 t117 t118 _ A53.out (by first | exact hG | exact GL.step hG (by repeat (first | (with_reducible first | exact HB.out | apply below_alloc | apply pw_below_drewN | apply below_drew1) | exact HB.out)))).mono ?_); rintro e w71 ⟨rfl, hb⟩; refine ⟨_, rfl, ?_⟩; have n0_ := Aside0.mk (below_step (by repeat (first | (with_reducible first | exact HB.out | apply below_alloc | apply pw_below_drewN | apply below_drew1) | exact HB.out)) hb); clear HB; have HB := n0_; clear n0_; (try clear hb); (try clear hb2); (try clear hk); (try clear hi)) | ((with_reducible refine gate_callee (f := 34) rfl ?_); refine goesL_ (some 97) rfl rfl Tryz.func34 (by kernel_rfl) rfl #[.string a0, .int .i64 a2] rfl (by (try simp only [List.map_toArray, List.map_cons, List.map_nil]); first | done | rfl | (simp only [List.length_drop, List.length_take]; rfl)) ?_; (with_reducible refine (word_Power.calls kj33 a0 a2 t119 t120 _ A54.out (by first | exact hG | exact GL.step hG (by repeat (first | (with_reducible first | exact HB.out | apply below_alloc | apply pw_below_drewN | apply below_drew1) | exact HB.out)))).mono ?_); rintro e w72 ⟨rfl, hb⟩; refine ⟨_, rfl, ?_⟩; have n0_ := Aside0.mk (below_step (by repeat (first | (with_reducible first | exact HB.out | apply below_alloc | apply pw_below_drewN | apply below_drew1) | exact HB.out)) hb); clear HB; have HB := n0_; clear n0_; (try clear hb); (try clear hb2); (try clear hk); (try clear hi)) | ((with_reducible refine gate_callee (f := 34) rfl ?_); refine goesL_ (some 105) rfl rfl Tryz.func34 (by kernel_rfl) rfl #[.string a0, .int .i64 (wrap64 (a1 + a2))] rfl (by (try simp only [List.map_toArray, List.map_cons, List.map_nil]); first | done | rfl | (simp only [List.length_drop, List.length_take]; rfl)) ?_; (with_reducible refine (word_Power.calls kj33 a0 (wrap64 (a1 + a2)) t121 t122 _ A55.out (by first | exact hG | exact GL.step hG (by repeat (first | (with_reducible first | exact HB.out | apply below_alloc | apply pw_below_drewN | apply below_drew1) | exact HB.out)))).mono ?_); rintro e w73 ⟨rfl, hb⟩; refine ⟨_, rfl, ?_⟩; have n0_ := Aside0.mk (below_step (by repeat (first | (with_reducible first | exact HB.out | apply below_alloc | apply pw_below_drewN | apply below_drew1) | exact HB.out)) hb); clear HB; have HB := n0_; clear n0_; (try clear hb); (try clear hb2); (try clear hk); (try clear hi)))
                  go_ret
                  exact ⟨by first | rfl | (simp [errW_none, errW_some] <;> rfl) | (simp [*, errW_none, errW_some] <;> rfl), by repeat (first | (with_reducible first | exact HB.out | apply below_alloc | apply pw_below_drewN | apply below_drew1) | exact HB.out)⟩
  · replace c5 := Bool.eq_false_iff.mpr c5
    subst c5
    have H1 : (some false) = some r := by rw [if_neg (show ¬ (false = true) by decide)] at H; exact H
    clear H
    have H := H1
    clear H1
    obtain rfl := Option.some.inj H
    go_enter Tryz.func10, Tryz.ntmps10
    go_wp2_with (first | ((with_reducible refine gate_callee (f := 11) rfl ?_); refine goesL_ (some 19) rfl rfl Tryz.func11 (by kernel_rfl) rfl #[] rfl (by (try simp only [List.map_toArray, List.map_cons, List.map_nil]); first | done | rfl | (simp only [List.length_drop, List.length_take]; rfl)) ?_; (with_reducible refine (cayleylaw01_sane.calls  false _ A4.out (by first | exact hG | exact GL.step hG (by repeat (first | (with_reducible first | exact HB.out | apply below_alloc | apply pw_below_drewN | apply below_drew1) | exact HB.out)))).mono ?_); rintro e w74 ⟨rfl, hb⟩; refine ⟨_, rfl, ?_⟩; have n0_ := Aside0.mk (below_step (by repeat (first | (with_reducible first | exact HB.out | apply below_alloc | apply pw_below_drewN | apply below_drew1) | exact HB.out)) hb); clear HB; have HB := n0_; clear n0_; (try clear hb); (try clear hb2); (try clear hk); (try clear hi)))
    go_ret
    exact ⟨by first | rfl | (simp [errW_none, errW_some] <;> rfl) | (simp [*, errW_none, errW_some] <;> rfl), by repeat (first | (with_reducible first | exact HB.out | apply below_alloc | apply pw_below_drewN | apply below_drew1) | exact HB.out)⟩

end Go.Proofs.YthiehmogphknlaaGreatDoor.PK
