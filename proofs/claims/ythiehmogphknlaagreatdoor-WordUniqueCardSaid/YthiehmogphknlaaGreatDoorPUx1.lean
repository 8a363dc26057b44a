/- Printed by a program of this session (wip/ext.py) out of the translation, after the kit's print. Not trusted: Lean checks it. -/
import Derived.Test.YthiehmogphknlaaGreatDoorPUx0
namespace Go.Proofs.YthiehmogphknlaaGreatDoor.PU
open Go.Proofs.YthiehmogphknlaaGreatDoor.G Go.Proofs.YthiehmogphknlaaGreatDoor.PA Go.RowKit Go.Proofs.YthiehmogphknlaaGreatDoorW.PrintWords Go.Proofs.YthiehmogphknlaaGreatDoorW.PrintLast Go.Proofs.YthiehmogphknlaaGreatDoorW.PrintMore
attribute [local go_sem] max2_int min2_int max_two min_two max_three min_three max_four min_four   -- for this text's walks alone
set_option linter.unusedVariables false
set_option linter.unusedSimpArgs false

/-! ### cayleylaw01_Edited: function 42 -/
mutual
def cayleylaw01_Edited.l0 : Nat → ByteArray → List (S78) → Int → Option (ByteArray)
  | 0, _, _, _ => none
  | k + 1, x0, x1, x5 => if x5 < (x1.length : Int) then (if 0 ≤ x5 then (if (rd_T78 x1 x5).f2 = true then (if ((rd_T78 x1 x5).f0) ≥ 0 then (if ((rd_T78 x1 x5).f0) < (wrap64 ((x0.size : Int) - 1)) then (if 0 ≤ ((rd_T78 x1 x5).f0) then (if ((rd_T78 x1 x5).f0) < (x0.size : Int) then (if 0 ≤ (wrap64 (((rd_T78 x1 x5).f0) + 1)) then (if (wrap64 (((rd_T78 x1 x5).f0) + 1)) < (x0.size : Int) then ((cayleyref01_Other.f k (bt x0 (wrap64 (((rd_T78 x1 x5).f0) + 1)))).bind fun t103 => (if (bt x0 ((rd_T78 x1 x5).f0)) = t103 then (if ((rd_T78 x1 x5).f0) ≤ (x0.size : Int) then (if 0 ≤ (wrap64 (((rd_T78 x1 x5).f0) + 2)) then (if (wrap64 (((rd_T78 x1 x5).f0) + 2)) ≤ (x0.size : Int) then (if (x0.extract 0 (((rd_T78 x1 x5).f0) : Int).toNat).size + (x0.extract ((wrap64 (((rd_T78 x1 x5).f0) + 2)) : Int).toNat x0.size).size ≤ 9223372036854775807 then (cayleylaw01_Edited.l0 k ((x0.extract 0 (((rd_T78 x1 x5).f0) : Int).toNat) ++ (x0.extract ((wrap64 (((rd_T78 x1 x5).f0) + 2)) : Int).toNat x0.size)) x1 (wrap64 (x5 + 1))) else (none)) else (none)) else (none)) else (none)) else (cayleylaw01_Edited.l0 k x0 x1 (wrap64 (x5 + 1))))) else (none)) else (none)) else (none)) else (none)) else (cayleylaw01_Edited.l0 k x0 x1 (wrap64 (x5 + 1)))) else (cayleylaw01_Edited.l0 k x0 x1 (wrap64 (x5 + 1)))) else (if ((rd_T78 x1 x5).f0) ≥ 0 then (if ((rd_T78 x1 x5).f0) ≤ (x0.size : Int) then ((cayleyref01_Letter.f k ((rd_T78 x1 x5).f1)).bind fun t104 => (cayleylaw01_Edited.j1 k x0 x1 x5 (t104 != 0) ((rd_T78 x1 x5).f0) ((rd_T78 x1 x5).f1) ((rd_T78 x1 x5).f2))) else (cayleylaw01_Edited.j1 k x0 x1 x5 false ((rd_T78 x1 x5).f0) ((rd_T78 x1 x5).f1) ((rd_T78 x1 x5).f2))) else (cayleylaw01_Edited.j1 k x0 x1 x5 false ((rd_T78 x1 x5).f0) ((rd_T78 x1 x5).f1) ((rd_T78 x1 x5).f2)))) else (none)) else (some x0)
def cayleylaw01_Edited.j1 : Nat → ByteArray → List (S78) → Int → Bool → Int → Int → Bool → Option (ByteArray)
  | 0, _, _, _, _, _, _, _ => none
  | k + 1, x0, x1, x5, x68, x103000, x103001, x103002 => if x68 = true then (if 0 ≤ x103000 then (if x103000 ≤ (x0.size : Int) then ((cayleyref01_Letter.f k x103001).bind fun t105 => (if (x0.extract 0 (x103000 : Int).toNat).size + (Utf8.encode t105).size ≤ 9223372036854775807 then ((cayleyref01_Letter.f k (Go.bits .xor .i64 x103001 1)).bind fun t106 => (if ((x0.extract 0 (x103000 : Int).toNat) ++ (Utf8.encode t105)).size + (Utf8.encode t106).size ≤ 9223372036854775807 then (if (((x0.extract 0 (x103000 : Int).toNat) ++ (Utf8.encode t105)) ++ (Utf8.encode t106)).size + (x0.extract (x103000 : Int).toNat x0.size).size ≤ 9223372036854775807 then (cayleylaw01_Edited.l0 k ((((x0.extract 0 (x103000 : Int).toNat) ++ (Utf8.encode t105)) ++ (Utf8.encode t106)) ++ (x0.extract (x103000 : Int).toNat x0.size)) x1 (wrap64 (x5 + 1))) else (none)) else (none))) else (none))) else (none)) else (none)) else (cayleylaw01_Edited.l0 k x0 x1 (wrap64 (x5 + 1)))
end
def cayleylaw01_Edited.f (k : Nat) (a0 : ByteArray) (l1 : List (S78)) : Option (ByteArray) := cayleylaw01_Edited.l0 k a0 l1 0
theorem cayleylaw01_Edited.mono_l : ∀ k, (∀ y0 y1 y2, LeO (cayleylaw01_Edited.l0 k y0 y1 y2) (cayleylaw01_Edited.l0 (k + 1) y0 y1 y2)) ∧ (∀ y0 y1 y2 y3 y4 y5 y6, LeO (cayleylaw01_Edited.j1 k y0 y1 y2 y3 y4 y5 y6) (cayleylaw01_Edited.j1 (k + 1) y0 y1 y2 y3 y4 y5 y6))
  | 0 => ⟨fun _ _ _ r h => by simp [cayleylaw01_Edited.l0] at h, fun _ _ _ _ _ _ _ r h => by simp [cayleylaw01_Edited.j1] at h⟩
  | k + 1 => by
    obtain ⟨ih0, ih1⟩ := cayleylaw01_Edited.mono_l k
    refine ⟨?_, ?_⟩
    · intro y0 y1 y2
      unfold cayleylaw01_Edited.l0
      repeat' first
      | (with_reducible exact ih0 _ _ _)
      | (with_reducible exact ih1 _ _ _ _ _ _ _)
      | (with_reducible exact cayleyref01_Letter.mono _ _)
      | (with_reducible exact cayleyref01_Other.mono _ _)
      | (with_reducible exact LeO.refl _)
      | (with_reducible exact LeO.none _)
      | (with_reducible refine LeO.ite ?_ ?_)
      | (with_reducible refine LeO.bind ?_ (fun _ => ?_))
      | exact ih0 _ _ _
      | exact ih1 _ _ _ _ _ _ _
      | exact cayleyref01_Letter.mono _ _
      | exact cayleyref01_Other.mono _ _
      | exact LeO.none _
      | refine LeO.ite ?_ ?_
      | refine LeO.bind ?_ (fun _ => ?_)
    · intro y0 y1 y2 y3 y4 y5 y6
      unfold cayleylaw01_Edited.j1
      repeat' first
      | (with_reducible exact ih0 _ _ _)
      | (with_reducible exact ih1 _ _ _ _ _ _ _)
      | (with_reducible exact cayleyref01_Letter.mono _ _)
      | (with_reducible exact cayleyref01_Other.mono _ _)
      | (with_reducible exact LeO.refl _)
      | (with_reducible exact LeO.none _)
      | (with_reducible refine LeO.ite ?_ ?_)
      | (with_reducible refine LeO.bind ?_ (fun _ => ?_))
      | exact ih0 _ _ _
      | exact ih1 _ _ _ _ _ _ _
      | exact cayleyref01_Letter.mono _ _
      | exact cayleyref01_Other.mono _ _
      | exact LeO.none _
      | refine LeO.ite ?_ ?_
      | refine LeO.bind ?_ (fun _ => ?_)
theorem cayleylaw01_Edited.mono : ∀ a0 a1 k, LeO (cayleylaw01_Edited.f k a0 a1) (cayleylaw01_Edited.f (k + 1) a0 a1) := by
  intro a0 a1 k
  obtain ⟨ih0, ih1⟩ := cayleylaw01_Edited.mono_l k
  unfold cayleylaw01_Edited.f
  repeat' first
      | (with_reducible exact ih0 _ _ _)
      | (with_reducible exact ih1 _ _ _ _ _ _ _)
      | (with_reducible exact cayleyref01_Letter.mono _ _)
      | (with_reducible exact cayleyref01_Other.mono _ _)
      | (with_reducible exact LeO.refl _)
      | (with_reducible exact LeO.none _)
      | (with_reducible refine LeO.ite ?_ ?_)
      | (with_reducible refine LeO.bind ?_ (fun _ => ?_))
      | exact ih0 _ _ _
      | exact ih1 _ _ _ _ _ _ _
      | exact cayleyref01_Letter.mono _ _
      | exact cayleyref01_Other.mono _ _
      | exact LeO.none _
      | refine LeO.ite ?_ ?_
      | refine LeO.bind ?_ (fun _ => ?_)
set_option maxHeartbeats 8000000 in
set_option maxRecDepth 100000 in
theorem cayleylaw01_Edited.calls (k : Nat) (a0 : ByteArray) (A1 : Option Addr) (c1 : Nat) (l1 : List (S78)) (r : ByteArray) (w : World) (hr1 : Kd.C k78 w A1 l1.length l1) (hc1 : l1.length ≤ c1) (h : cayleylaw01_Edited.f k a0 l1 = some r) :
    Calls Tryz.prog 42 #[.string a0, .slice A1 l1.length c1] w fun e w' => e = .returned (.string r) ∧ Below w.heap.size w w' := by
  have hu78 := Tryz.underlying78
  have hu5 := Tryz.underlying5
  have hu9 := Tryz.underlying9
  have HR1 := Aside0.mk hr1
  have HC1 := Aside0.mk hc1
  clear hr1 hc1
  have HB := Aside0.mk (Below.refl w.heap.size w)
  have H : (cayleylaw01_Edited.l0 k a0 l1 0) = some r := h
  clear h
  have H' := Aside0.mk H
  clear H
  go_enter Tryz.func42, Tryz.ntmps42
  go_wp2
  repeat (go_quiet (fail); try go_wp2)
  go_loopg [0, 5] k (fun kq v0 v5 w' => ∃ (x0_1 : ByteArray) (x5_1 : Int), v0 = .string x0_1 ∧ v5 = .int .i64 x5_1 ∧ Aside0 (cayleylaw01_Edited.l0 kq x0_1 l1 x5_1 = some r) ∧ Aside0 (kq ≤ k) ∧ Aside0 (Below w.heap.size w w'))
  case atStart => exact ⟨(a0), (0), (by first | rfl | (simp; done) | (simp [*]; done) | (simp; exact (fun (a b : Bool) => (by cases a <;> cases b <;> rfl : (a == b) = ((!a) != b))) _ _)), (by first | rfl | (simp; done) | (simp [*]; done) | (simp; exact (fun (a b : Bool) => (by cases a <;> cases b <;> rfl : (a == b) = ((!a) != b))) _ _)), H', ⟨Nat.le_refl _⟩, ⟨by repeat (first | (with_reducible first | exact HB.out | apply below_alloc | apply pw_below_drewN | apply below_drew1) | exact HB.out)⟩⟩
  case round =>
    clear H'
    try clear c1
    try clear p2
    obtain ⟨x0_1, x5_1, rfl, rfl, HA, HK1, HB⟩ := hrel
    cases gk with
    | zero => exact absurd HA.out (by simp [cayleylaw01_Edited.l0])
    | succ k1 =>
      have H := HA.out
      clear HA
      simp only [cayleylaw01_Edited.l0] at H
      by_cases c3 : x5_1 < (l1.length : Int)
      · rw [if_pos c3] at H
        have c3b0 : decide (x5_1 < (l1.length : Int)) = true := decide_eq_true c3
        clear c3
        by_cases c4 : 0 ≤ x5_1
        · rw [if_pos c4] at H
          have c4b0 : decide (0 ≤ x5_1) = true := decide_eq_true c4
          clear c4
          obtain ⟨bq5, hbq5⟩ : ∃ b_ : Bool, b_ = ((rd_T78 l1 x5_1).f2) := ⟨_, rfl⟩
          replace H : (if bq5 = true then (if ((rd_T78 l1 x5_1).f0) ≥ 0 then (if ((rd_T78 l1 x5_1).f0) < (wrap64 ((x0_1.size : Int) - 1)) then (if 0 ≤ ((rd_T78 l1 x5_1).f0) then (if ((rd_T78 l1 x5_1).f0) < (x0_1.size : Int) then (if 0 ≤ (wrap64 (((rd_T78 l1 x5_1).f0) + 1)) then (if (wrap64 (((rd_T78 l1 x5_1).f0) + 1)) < (x0_1.size : Int) then ((cayleyref01_Other.f k1 (bt x0_1 (wrap64 (((rd_T78 l1 x5_1).f0) + 1)))).bind fun t103 => (if (bt x0_1 ((rd_T78 l1 x5_1).f0)) = t103 then (if ((rd_T78 l1 x5_1).f0) ≤ (x0_1.size : Int) then (if 0 ≤ (wrap64 (((rd_T78 l1 x5_1).f0) + 2)) then (if (wrap64 (((rd_T78 l1 x5_1).f0) + 2)) ≤ (x0_1.size : Int) then (if (x0_1.extract 0 (((rd_T78 l1 x5_1).f0) : Int).toNat).size + (x0_1.extract ((wrap64 (((rd_T78 l1 x5_1).f0) + 2)) : Int).toNat x0_1.size).size ≤ 9223372036854775807 then (cayleylaw01_Edited.l0 k1 ((x0_1.extract 0 (((rd_T78 l1 x5_1).f0) : Int).toNat) ++ (x0_1.extract ((wrap64 (((rd_T78 l1 x5_1).f0) + 2)) : Int).toNat x0_1.size)) l1 (wrap64 (x5_1 + 1))) else (none)) else (none)) else (none)) else (none)) else (cayleylaw01_Edited.l0 k1 x0_1 l1 (wrap64 (x5_1 + 1))))) else (none)) else (none)) else (none)) else (none)) else (cayleylaw01_Edited.l0 k1 x0_1 l1 (wrap64 (x5_1 + 1)))) else (cayleylaw01_Edited.l0 k1 x0_1 l1 (wrap64 (x5_1 + 1)))) else (if ((rd_T78 l1 x5_1).f0) ≥ 0 then (if ((rd_T78 l1 x5_1).f0) ≤ (x0_1.size : Int) then ((cayleyref01_Letter.f k1 ((rd_T78 l1 x5_1).f1)).bind fun t104 => (cayleylaw01_Edited.j1 k1 x0_1 l1 x5_1 (t104 != 0) ((rd_T78 l1 x5_1).f0) ((rd_T78 l1 x5_1).f1) bq5)) else (cayleylaw01_Edited.j1 k1 x0_1 l1 x5_1 false ((rd_T78 l1 x5_1).f0) ((rd_T78 l1 x5_1).f1) bq5)) else (cayleylaw01_Edited.j1 k1 x0_1 l1 x5_1 false ((rd_T78 l1 x5_1).f0) ((rd_T78 l1 x5_1).f1) bq5))) = some r := by rw [← hbq5] at H; exact H
          have Nbq5 := Aside0.mk hbq5
          clear hbq5
          by_cases c6 : bq5 = true
          · subst c6
            have H1 : (if ((rd_T78 l1 x5_1).f0) ≥ 0 then (if ((rd_T78 l1 x5_1).f0) < (wrap64 ((x0_1.size : Int) - 1)) then (if 0 ≤ ((rd_T78 l1 x5_1).f0) then (if ((rd_T78 l1 x5_1).f0) < (x0_1.size : Int) then (if 0 ≤ (wrap64 (((rd_T78 l1 x5_1).f0) + 1)) then (if (wrap64 (((rd_T78 l1 x5_1).f0) + 1)) < (x0_1.size : Int) then ((cayleyref01_Other.f k1 (bt x0_1 (wrap64 (((rd_T78 l1 x5_1).f0) + 1)))).bind fun t103 => (if (bt x0_1 ((rd_T78 l1 x5_1).f0)) = t103 then (if ((rd_T78 l1 x5_1).f0) ≤ (x0_1.size : Int) then (if 0 ≤ (wrap64 (((rd_T78 l1 x5_1).f0) + 2)) then (if (wrap64 (((rd_T78 l1 x5_1).f0) + 2)) ≤ (x0_1.size : Int) then (if (x0_1.extract 0 (((rd_T78 l1 x5_1).f0) : Int).toNat).size + (x0_1.extract ((wrap64 (((rd_T78 l1 x5_1).f0) + 2)) : Int).toNat x0_1.size).size ≤ 9223372036854775807 then (cayleylaw01_Edited.l0 k1 ((x0_1.extract 0 (((rd_T78 l1 x5_1).f0) : Int).toNat) ++ (x0_1.extract ((wrap64 (((rd_T78 l1 x5_1).f0) + 2)) : Int).toNat x0_1.size)) l1 (wrap64 (x5_1 + 1))) else (none)) else (none)) else (none)) else (none)) else (cayleylaw01_Edited.l0 k1 x0_1 l1 (wrap64 (x5_1 + 1))))) else (none)) else (none)) else (none)) else (none)) else (cayleylaw01_Edited.l0 k1 x0_1 l1 (wrap64 (x5_1 + 1)))) else (cayleylaw01_Edited.l0 k1 x0_1 l1 (wrap64 (x5_1 + 1)))) = some r := by rw [if_pos rfl] at H; exact H
            clear H
            have H := H1
            clear H1
            by_cases c7 : ((rd_T78 l1 x5_1).f0) ≥ 0
            · rw [if_pos c7] at H
              have c7b0 : decide (0 ≤ ((rd_T78 l1 x5_1).f0)) = true := decide_eq_true c7
              clear c7
              by_cases c8 : ((rd_T78 l1 x5_1).f0) < (wrap64 ((x0_1.size : Int) - 1))
              · rw [if_pos c8] at H
                have c8b0 : decide (((rd_T78 l1 x5_1).f0) < (wrap64 ((x0_1.size : Int) - 1))) = true := decide_eq_true c8
                clear c8
                by_cases c9 : 0 ≤ ((rd_T78 l1 x5_1).f0)
                · rw [if_pos c9] at H
                  have c9b0 : decide (0 ≤ ((rd_T78 l1 x5_1).f0)) = true := decide_eq_true c9
                  clear c9
                  by_cases c10 : ((rd_T78 l1 x5_1).f0) < (x0_1.size : Int)
                  · rw [if_pos c10] at H
                    have c10b0 : decide (((rd_T78 l1 x5_1).f0) < (x0_1.size : Int)) = true := decide_eq_true c10
                    clear c10
                    obtain ⟨ji12, hji12⟩ : ∃ j_ : Int, (wrap64 (((rd_T78 l1 x5_1).f0) + 1)) = j_ := ⟨_, rfl⟩
                    replace H : (if 0 ≤ (ji12) then (if (ji12) < (x0_1.size : Int) then ((cayleyref01_Other.f k1 (bt x0_1 (ji12))).bind fun t103 => (if (bt x0_1 ((rd_T78 l1 x5_1).f0)) = t103 then (if ((rd_T78 l1 x5_1).f0) ≤ (x0_1.size : Int) then (if 0 ≤ (wrap64 (((rd_T78 l1 x5_1).f0) + 2)) then (if (wrap64 (((rd_T78 l1 x5_1).f0) + 2)) ≤ (x0_1.size : Int) then (if (x0_1.extract 0 (((rd_T78 l1 x5_1).f0) : Int).toNat).size + (x0_1.extract ((wrap64 (((rd_T78 l1 x5_1).f0) + 2)) : Int).toNat x0_1.size).size ≤ 9223372036854775807 then (cayleylaw01_Edited.l0 k1 ((x0_1.extract 0 (((rd_T78 l1 x5_1).f0) : Int).toNat) ++ (x0_1.extract ((wrap64 (((rd_T78 l1 x5_1).f0) + 2)) : Int).toNat x0_1.size)) l1 (wrap64 (x5_1 + 1))) else (none)) else (none)) else (none)) else (none)) else (cayleylaw01_Edited.l0 k1 x0_1 l1 (wrap64 (x5_1 + 1))))) else (none)) else (none)) = some r := by first | (rw [hji12] at H; exact H) | (simp only [hji12] at H ⊢; exact H)
                    have hji12w : (IntKind.i64.wrap (((rd_T78 l1 x5_1).f0) + 1)) = ji12 := (i64_w _).trans hji12
                    by_cases c13 : 0 ≤ (ji12)
                    · rw [if_pos c13] at H
                      have c13b0 : decide (0 ≤ (ji12)) = true := decide_eq_true c13
                      clear c13
                      by_cases c14 : (ji12) < (x0_1.size : Int)
                      · rw [if_pos c14] at H
                        have c14b0 : decide ((ji12) < (x0_1.size : Int)) = true := decide_eq_true c14
                        clear c14
                        replace H := Option.bind_eq_some_iff.mp H
                        obtain ⟨t103, A160, H⟩ := H
                        replace H : (if (bt x0_1 ((rd_T78 l1 x5_1).f0)) = t103 then (if ((rd_T78 l1 x5_1).f0) ≤ (x0_1.size : Int) then (if 0 ≤ (wrap64 (((rd_T78 l1 x5_1).f0) + 2)) then (if (wrap64 (((rd_T78 l1 x5_1).f0) + 2)) ≤ (x0_1.size : Int) then (if (x0_1.extract 0 (((rd_T78 l1 x5_1).f0) : Int).toNat).size + (x0_1.extract ((wrap64 (((rd_T78 l1 x5_1).f0) + 2)) : Int).toNat x0_1.size).size ≤ 9223372036854775807 then (cayleylaw01_Edited.l0 k1 ((x0_1.extract 0 (((rd_T78 l1 x5_1).f0) : Int).toNat) ++ (x0_1.extract ((wrap64 (((rd_T78 l1 x5_1).f0) + 2)) : Int).toNat x0_1.size)) l1 (wrap64 (x5_1 + 1))) else (none)) else (none)) else (none)) else (none)) else (cayleylaw01_Edited.l0 k1 x0_1 l1 (wrap64 (x5_1 + 1)))) = some r := H
                        have A16 := Aside0.mk A160
                        clear A160
                        by_cases c17 : (bt x0_1 ((rd_T78 l1 x5_1).f0)) = t103
                        · rw [if_pos c17] at H
                          have c17b0 : ((bt x0_1 ((rd_T78 l1 x5_1).f0)) == t103) = true := beq_iff_eq.mpr c17
                          have c17b1 : ((bt x0_1 ((rd_T78 l1 x5_1).f0)) != t103) = false := bne_eq_false_iff_eq.mpr c17
                          clear c17
                          have c18b0 := eq_true (of_decide_eq_true (by first | (with_reducible assumption) | assumption) : 0 ≤ ((rd_T78 l1 x5_1).f0))
                          by_cases c19 : ((rd_T78 l1 x5_1).f0) ≤ (x0_1.size : Int)
                          · rw [if_pos c19] at H
                            have c19b0 := eq_true c19
                            have c19b1 : decide (((rd_T78 l1 x5_1).f0) ≤ (x0_1.size : Int)) = true := decide_eq_true c19
                            clear c19
                            obtain ⟨ji20, hji20⟩ : ∃ j_ : Int, (wrap64 (((rd_T78 l1 x5_1).f0) + 2)) = j_ := ⟨_, rfl⟩
                            replace H : (if 0 ≤ (ji20) then (if (ji20) ≤ (x0_1.size : Int) then (if (x0_1.extract 0 (((rd_T78 l1 x5_1).f0) : Int).toNat).size + (x0_1.extract ((ji20) : Int).toNat x0_1.size).size ≤ 9223372036854775807 then (cayleylaw01_Edited.l0 k1 ((x0_1.extract 0 (((rd_T78 l1 x5_1).f0) : Int).toNat) ++ (x0_1.extract ((ji20) : Int).toNat x0_1.size)) l1 (wrap64 (x5_1 + 1))) else (none)) else (none)) else (none)) = some r := by first | (rw [hji20] at H; exact H) | (simp only [hji20] at H ⊢; exact H)
                            (try rw [hji20] at A16)
                            have hji20w : (IntKind.i64.wrap (((rd_T78 l1 x5_1).f0) + 2)) = ji20 := (i64_w _).trans hji20
                            by_cases c21 : 0 ≤ (ji20)
                            · rw [if_pos c21] at H
                              have c21b0 := eq_true c21
                              have c21b1 : decide (0 ≤ (ji20)) = true := decide_eq_true c21
                              clear c21
                              by_cases c22 : (ji20) ≤ (x0_1.size : Int)
                              · rw [if_pos c22] at H
                                have c22b0 := eq_true c22
                                have c22b1 : decide ((ji20) ≤ (x0_1.size : Int)) = true := decide_eq_true c22
                                clear c22
                                by_cases c23 : (x0_1.extract 0 (((rd_T78 l1 x5_1).f0) : Int).toNat).size + (x0_1.extract ((ji20) : Int).toNat x0_1.size).size ≤ 9223372036854775807
                                · rw [if_pos c23] at H
                                  have c23b0 := eq_true c23
                                  have c23b1 : decide ((x0_1.extract 0 (((rd_T78 l1 x5_1).f0) : Int).toNat).size + (x0_1.extract ((ji20) : Int).toNat x0_1.size).size ≤ 9223372036854775807) = true := decide_eq_true c23
                                  try have c23b2 : (9223372036854775807 < (x0_1.extract 0 (((rd_T78 l1 x5_1).f0) : Int).toNat).size + (x0_1.extract ((ji20) : Int).toNat x0_1.size).size) = False := eq_false (Nat.not_lt.2 c23)
                                  try (have c23s := c23; simp [*] at c23s; have c23t := eq_false (Nat.not_lt.2 c23s); clear c23s)
                                  have H' := Aside0.mk H
                                  clear H
                                  have p101 : 0 ≤ (x5_1 : Int) := of_decide_eq_true (by first | (with_reducible assumption) | assumption)
                                  have q101 : x5_1 < (l1.length : Int) := of_decide_eq_true (by first | (with_reducible assumption) | assumption)
                                  obtain ⟨ad101, e101, hx101_0, hx101_1, hx101_2⟩ := at_T78 HR1.out x5_1 p101 q101
                                  (try rw [← Nbq5.out] at hx101_2)
                                  cases e101
                                  replace hx101_0 := (HB.out.cell (World.block_lt_of_cell? w _ hx101_0)).trans hx101_0
                                  replace hx101_1 := (HB.out.cell (World.block_lt_of_cell? w _ hx101_1)).trans hx101_1
                                  replace hx101_2 := (HB.out.cell (World.block_lt_of_cell? w _ hx101_2)).trans hx101_2
                                  replace p101 := eq_true p101
                                  replace q101 := eq_true q101
                                  go_wp2_with (first | ((with_reducible refine gate_dst (N := 6) rfl ?_); (try (refine gate_guard (by rfl) ?_; dsimp only)); refine box_event ?hg (N := 6) ?hd (cs := #[.int .i64 0, .int .i64 0, .bool false]) (t := 78) ?hr ?_; (case hd => rfl); (case hg => rfl); (case hr => first | (go_simp; done) | (go_simp; rfl)); intro gb102 hg w24 hbox hb; have n0_ := Aside0.mk (below_step (by repeat (first | (with_reducible first | exact HB.out | apply below_alloc | apply pw_below_drewN | apply below_drew1) | exact HB.out)) hb); have n1_ := Aside0.mk (hbox); have n2_ := Aside0.mk ((by rw [hg]; exact (below_size (by repeat (first | (with_reducible first | exact HB.out | apply below_alloc | apply pw_below_drewN | apply below_drew1) | exact HB.out))) : w.heap.size ≤ gb102)); have n3_ := Aside0.mk ((by rw [hg]; exact (below_size (by repeat (first | (with_reducible first | exact HB.out | apply below_alloc | apply pw_below_drewN | apply below_drew1) | exact HB.out))) : w.heap.size ≤ gb102)); clear HB; have HB := n0_; have BK102 := n1_; have GW102 := n2_; have GE102 := n3_; clear n0_ n1_ n2_ n3_; clear hb hbox hg; have hcz25_0 : w24.cell? ⟨gb102, 0, none⟩ = some (.int .i64 0) := (blk_cell BK102.out 0).trans rfl; have hcz25_1 : w24.cell? ⟨gb102, 1, none⟩ = some (.int .i64 0) := (blk_cell BK102.out 1).trans rfl; have hcz25_2 : w24.cell? ⟨gb102, 2, none⟩ = some (.bool false) := (blk_cell BK102.out 2).trans rfl; have hfz25_0 := blk_frozen BK102.out 0; have hfz25_1 := blk_frozen BK102.out 1; have hfz25_2 := blk_frozen BK102.out 2; have p11 : 0 ≤ (((rd_T78 l1 x5_1).f0) : Int) := of_decide_eq_true (by first | (with_reducible assumption) | assumption); have q11 : ((rd_T78 l1 x5_1).f0) < (x0_1.size : Int) := of_decide_eq_true (by first | (with_reducible assumption) | assumption); have hx11 := bt_at x0_1 ((rd_T78 l1 x5_1).f0); replace p11 := eq_true p11; replace q11 := eq_true q11; have p15 : 0 ≤ ((ji12) : Int) := of_decide_eq_true (by first | (with_reducible assumption) | assumption); have q15 : (ji12) < (x0_1.size : Int) := of_decide_eq_true (by first | (with_reducible assumption) | assumption); have hx15 := bt_at x0_1 (ji12); replace p15 := eq_true p15; replace q15 := eq_true q15) | (go_at_call 41; (with_reducible refine (cayleyref01_Other.calls k1 (bt x0_1 (ji12)) t103 _ A16.out).mono ?_); rintro e w' ⟨rfl, ⟨nd, rfl⟩⟩; (try first | exact ⟨rfl, _, World.drewN_drewN _ _ _⟩ | exact ⟨rfl, _, Eq.trans (World.drewN_drewN _ _ _) (congrArg (World.drewN _) (Nat.add_assoc _ _ _))⟩)))
                                  repeat (go_quiet (first | ((with_reducible refine gate_dst (N := 6) rfl ?_); (try (refine gate_guard (by rfl) ?_; dsimp only)); refine box_event ?hg (N := 6) ?hd (cs := #[.int .i64 0, .int .i64 0, .bool false]) (t := 78) ?hr ?_; (case hd => rfl); (case hg => rfl); (case hr => first | (go_simp; done) | (go_simp; rfl)); intro gb102 hg w24 hbox hb; have n0_ := Aside0.mk (below_step (by repeat (first | (with_reducible first | exact HB.out | apply below_alloc | apply pw_below_drewN | apply below_drew1) | exact HB.out)) hb); have n1_ := Aside0.mk (hbox); have n2_ := Aside0.mk ((by rw [hg]; exact (below_size (by repeat (first | (with_reducible first | exact HB.out | apply below_alloc | apply pw_below_drewN | apply below_drew1) | exact HB.out))) : w.heap.size ≤ gb102)); have n3_ := Aside0.mk ((by rw [hg]; exact (below_size (by repeat (first | (with_reducible first | exact HB.out | apply below_alloc | apply pw_below_drewN | apply below_drew1) | exact HB.out))) : w.heap.size ≤ gb102)); clear HB; have HB := n0_; have BK102 := n1_; have GW102 := n2_; have GE102 := n3_; clear n0_ n1_ n2_ n3_; clear hb hbox hg; have hcz25_0 : w24.cell? ⟨gb102, 0, none⟩ = some (.int .i64 0) := (blk_cell BK102.out 0).trans rfl; have hcz25_1 : w24.cell? ⟨gb102, 1, none⟩ = some (.int .i64 0) := (blk_cell BK102.out 1).trans rfl; have hcz25_2 : w24.cell? ⟨gb102, 2, none⟩ = some (.bool false) := (blk_cell BK102.out 2).trans rfl; have hfz25_0 := blk_frozen BK102.out 0; have hfz25_1 := blk_frozen BK102.out 1; have hfz25_2 := blk_frozen BK102.out 2; have p11 : 0 ≤ (((rd_T78 l1 x5_1).f0) : Int) := of_decide_eq_true (by first | (with_reducible assumption) | assumption); have q11 : ((rd_T78 l1 x5_1).f0) < (x0_1.size : Int) := of_decide_eq_true (by first | (with_reducible assumption) | assumption); have hx11 := bt_at x0_1 ((rd_T78 l1 x5_1).f0); replace p11 := eq_true p11; replace q11 := eq_true q11; have p15 : 0 ≤ ((ji12) : Int) := of_decide_eq_true (by first | (with_reducible assumption) | assumption); have q15 : (ji12) < (x0_1.size : Int) := of_decide_eq_true (by first | (with_reducible assumption) | assumption); have hx15 := bt_at x0_1 (ji12); replace p15 := eq_true p15; replace q15 := eq_true q15) | (go_at_call 41; (with_reducible refine (cayleyref01_Other.calls k1 (bt x0_1 (ji12)) t103 _ A16.out).mono ?_); rintro e w' ⟨rfl, ⟨nd, rfl⟩⟩; (try first | exact ⟨rfl, _, World.drewN_drewN _ _ _⟩ | exact ⟨rfl, _, Eq.trans (World.drewN_drewN _ _ _) (congrArg (World.drewN _) (Nat.add_assoc _ _ _))⟩))); try go_wp2_with (first | ((with_reducible refine gate_dst (N := 6) rfl ?_); (try (refine gate_guard (by rfl) ?_; dsimp only)); refine box_event ?hg (N := 6) ?hd (cs := #[.int .i64 0, .int .i64 0, .bool false]) (t := 78) ?hr ?_; (case hd => rfl); (case hg => rfl); (case hr => first | (go_simp; done) | (go_simp; rfl)); intro gb102 hg w24 hbox hb; have n0_ := Aside0.mk (below_step (by repeat (first | (with_reducible first | exact HB.out | apply below_alloc | apply pw_below_drewN | apply below_drew1) | exact HB.out)) hb); have n1_ := Aside0.mk (hbox); have n2_ := Aside0.mk ((by rw [hg]; exact (below_size (by repeat (first | (with_reducible first | exact HB.out | apply below_alloc | apply pw_below_drewN | apply below_drew1) | exact HB.out))) : w.heap.size ≤ gb102)); have n3_ := Aside0.mk ((by rw [hg]; exact (below_size (by repeat (first | (with_reducible first | exact HB.out | apply below_alloc | apply pw_below_drewN | apply below_drew1) | exact HB.out))) : w.heap.size ≤ gb102)); clear HB; have HB := n0_; have BK102 := n1_; have GW102 := n2_; have GE102 := n3_; clear n0_ n1_ n2_ n3_; clear hb hbox hg; have hcz25_0 : w24.cell? ⟨gb102, 0, none⟩ = some (.int .i64 0) := (blk_cell BK102.out 0).trans rfl; have hcz25_1 : w24.cell? ⟨gb102, 1, none⟩ = some (.int .i64 0) := (blk_cell BK102.out 1).trans rfl; have hcz25_2 : w24.cell? ⟨gb102, 2, none⟩ = some (.bool false) := (blk_cell BK102.out 2).trans rfl; have hfz25_0 := blk_frozen BK102.out 0; have hfz25_1 := blk_frozen BK102.out 1; have hfz25_2 := blk_frozen BK102.out 2; have p11 : 0 ≤ (((rd_T78 l1 x5_1).f0) : Int) := of_decide_eq_true (by first | (with_reducible assumption) | assumption); have q11 : ((rd_T78 l1 x5_1).f0) < (x0_1.size : Int) := of_decide_eq_true (by first | (with_reducible assumption) | assumption); have hx11 := bt_at x0_1 ((rd_T78 l1 x5_1).f0); replace p11 := eq_true p11; replace q11 := eq_true q11; have p15 : 0 ≤ ((ji12) : Int) := of_decide_eq_true (by first | (with_reducible assumption) | assumption); have q15 : (ji12) < (x0_1.size : Int) := of_decide_eq_true (by first | (with_reducible assumption) | assumption); have hx15 := bt_at x0_1 (ji12); replace p15 := eq_true p15; replace q15 := eq_true q15) | (go_at_call 41; (with_reducible refine (cayleyref01_Other.calls k1 (bt x0_1 (ji12)) t103 _ A16.out).mono ?_); rintro e w' ⟨rfl, ⟨nd, rfl⟩⟩; (try first | exact ⟨rfl, _, World.drewN_drewN _ _ _⟩ | exact ⟨rfl, _, Eq.trans (World.drewN_drewN _ _ _) (congrArg (World.drewN _) (Nat.add_assoc _ _ _))⟩))))
                                  go_roundg k1
                                  case measure => have := HK1.out; omega
                                  case rel => exact ⟨((x0_1.extract 0 (((rd_T78 l1 x5_1).f0) : Int).toNat) ++ (x0_1.extract ((ji20) : Int).toNat x0_1.size)), (wrap64 (x5_1 + 1)), (by first | rfl | (simp; done) | (simp only [← hji20] <;> (first | rfl | simp)) | (simp [*]; done)), (by first | rfl | (simp; done) | (simp [*]; done) | (simp; exact (fun (a b : Bool) => (by cases a <;> cases b <;> rfl : (a == b) = ((!a) != b))) _ _)), H', ⟨by have := HK1.out; omega⟩, ⟨by repeat (first | (with_reducible first | exact HB.out | apply below_alloc | apply pw_below_drewN | apply below_drew1 | refine below_set ?_ GE102.out) | exact HB.out)⟩⟩
                                · rw [if_neg c23] at H
                                  exact absurd H (by simp)
                              · rw [if_neg c22] at H
                                exact absurd H (by simp)
                            · rw [if_neg c21] at H
                              exact absurd H (by simp)
                          · rw [if_neg c19] at H
                            exact absurd H (by simp)
                        · rw [if_neg c17] at H
                          have c17b0 : ((bt x0_1 ((rd_T78 l1 x5_1).f0)) == t103) = false := beq_eq_false_iff_ne.mpr c17
                          have c17b1 : ((bt x0_1 ((rd_T78 l1 x5_1).f0)) != t103) = true := bne_iff_ne.mpr c17
                          have H' := Aside0.mk H
                          clear H
                          have p101 : 0 ≤ (x5_1 : Int) := of_decide_eq_true (by first | (with_reducible assumption) | assumption)
                          have q101 : x5_1 < (l1.length : Int) := of_decide_eq_true (by first | (with_reducible assumption) | assumption)
                          obtain ⟨ad101, e101, hx101_0, hx101_1, hx101_2⟩ := at_T78 HR1.out x5_1 p101 q101
                          (try rw [← Nbq5.out] at hx101_2)
                          cases e101
                          replace hx101_0 := (HB.out.cell (World.block_lt_of_cell? w _ hx101_0)).trans hx101_0
                          replace hx101_1 := (HB.out.cell (World.block_lt_of_cell? w _ hx101_1)).trans hx101_1
                          replace hx101_2 := (HB.out.cell (World.block_lt_of_cell? w _ hx101_2)).trans hx101_2
                          replace p101 := eq_true p101
                          replace q101 := eq_true q101
                          go_wp2_with (first | ((with_reducible refine gate_dst (N := 6) rfl ?_); (try (refine gate_guard (by rfl) ?_; dsimp only)); refine box_event ?hg (N := 6) ?hd (cs := #[.int .i64 0, .int .i64 0, .bool false]) (t := 78) ?hr ?_; (case hd => rfl); (case hg => rfl); (case hr => first | (go_simp; done) | (go_simp; rfl)); intro gb102 hg w26 hbox hb; have n0_ := Aside0.mk (below_step (by repeat (first | (with_reducible first | exact HB.out | apply below_alloc | apply pw_below_drewN | apply below_drew1) | exact HB.out)) hb); have n1_ := Aside0.mk (hbox); have n2_ := Aside0.mk ((by rw [hg]; exact (below_size (by repeat (first | (with_reducible first | exact HB.out | apply below_alloc | apply pw_below_drewN | apply below_drew1) | exact HB.out))) : w.heap.size ≤ gb102)); have n3_ := Aside0.mk ((by rw [hg]; exact (below_size (by repeat (first | (with_reducible first | exact HB.out | apply below_alloc | apply pw_below_drewN | apply below_drew1) | exact HB.out))) : w.heap.size ≤ gb102)); clear HB; have HB := n0_; have BK102 := n1_; have GW102 := n2_; have GE102 := n3_; clear n0_ n1_ n2_ n3_; clear hb hbox hg; have hcz27_0 : w26.cell? ⟨gb102, 0, none⟩ = some (.int .i64 0) := (blk_cell BK102.out 0).trans rfl; have hcz27_1 : w26.cell? ⟨gb102, 1, none⟩ = some (.int .i64 0) := (blk_cell BK102.out 1).trans rfl; have hcz27_2 : w26.cell? ⟨gb102, 2, none⟩ = some (.bool false) := (blk_cell BK102.out 2).trans rfl; have hfz27_0 := blk_frozen BK102.out 0; have hfz27_1 := blk_frozen BK102.out 1; have hfz27_2 := blk_frozen BK102.out 2; have p11 : 0 ≤ (((rd_T78 l1 x5_1).f0) : Int) := of_decide_eq_true (by first | (with_reducible assumption) | assumption); have q11 : ((rd_T78 l1 x5_1).f0) < (x0_1.size : Int) := of_decide_eq_true (by first | (with_reducible assumption) | assumption); have hx11 := bt_at x0_1 ((rd_T78 l1 x5_1).f0); replace p11 := eq_true p11; replace q11 := eq_true q11; have p15 : 0 ≤ ((ji12) : Int) := of_decide_eq_true (by first | (with_reducible assumption) | assumption); have q15 : (ji12) < (x0_1.size : Int) := of_decide_eq_true (by first | (with_reducible assumption) | assumption); have hx15 := bt_at x0_1 (ji12); replace p15 := eq_true p15; replace q15 := eq_true q15) | (go_at_call 41; (with_reducible refine (cayleyref01_Other.calls k1 (bt x0_1 (ji12)) t103 _ A16.out).mono ?_); rintro e w' ⟨rfl, ⟨nd, rfl⟩⟩; (try first | exact ⟨rfl, _, World.drewN_drewN _ _ _⟩ | exact ⟨rfl, _, Eq.trans (World.drewN_drewN _ _ _) (congrArg (World.drewN _) (Nat.add_assoc _ _ _))⟩)))
                          repeat (go_quiet (first | ((with_reducible refine gate_dst (N := 6) rfl ?_); (try (refine gate_guard (by rfl) ?_; dsimp only)); refine box_event ?hg (N := 6) ?hd (cs := #[.int .i64 0, .int .i64 0, .bool false]) (t := 78) ?hr ?_; (case hd => rfl); (case hg => rfl); (case hr => first | (go_simp; done) | (go_simp; rfl)); intro gb102 hg w26 hbox hb; have n0_ := Aside0.mk (below_step (by repeat (first | (with_reducible first | exact HB.out | apply below_alloc | apply pw_below_drewN | apply below_drew1) | exact HB.out)) hb); have n1_ := Aside0.mk (hbox); have n2_ := Aside0.mk ((by rw [hg]; exact (below_size (by repeat (first | (with_reducible first | exact HB.out | apply below_alloc | apply pw_below_drewN | apply below_drew1) | exact HB.out))) : w.heap.size ≤ gb102)); have n3_ := Aside0.mk ((by rw [hg]; exact (below_size (by repeat (first | (with_reducible first | exact HB.out | apply below_alloc | apply pw_below_drewN | apply below_drew1) | exact HB.out))) : w.heap.size ≤ gb102)); clear HB; have HB := n0_; have BK102 := n1_; have GW102 := n2_; have GE102 := n3_; clear n0_ n1_ n2_ n3_; clear hb hbox hg; have hcz27_0 : w26.cell? ⟨gb102, 0, none⟩ = some (.int .i64 0) := (blk_cell BK102.out 0).trans rfl; have hcz27_1 : w26.cell? ⟨gb102, 1, none⟩ = some (.int .i64 0) := (blk_cell BK102.out 1).trans rfl; have hcz27_2 : w26.cell? ⟨gb102, 2, none⟩ = some (.bool false) := (blk_cell BK102.out 2).trans rfl; have hfz27_0 := blk_frozen BK102.out 0; have hfz27_1 := blk_frozen BK102.out 1; have hfz27_2 := blk_frozen BK102.out 2; have p11 : 0 ≤ (((rd_T78 l1 x5_1).f0) : Int) := of_decide_eq_true (by first | (with_reducible assumption) | assumption); have q11 : ((rd_T78 l1 x5_1).f0) < (x0_1.size : Int) := of_decide_eq_true (by first | (with_reducible assumption) | assumption); have hx11 := bt_at x0_1 ((rd_T78 l1 x5_1).f0); replace p11 := eq_true p11; replace q11 := eq_true q11; have p15 : 0 ≤ ((ji12) : Int) := of_decide_eq_true (by first | (with_reducible assumption) | assumption); have q15 : (ji12) < (x0_1.size : Int) := of_decide_eq_true (by first | (with_reducible assumption) | assumption); have hx15 := bt_at x0_1 (ji12); replace p15 := eq_true p15; replace q15 := eq_true q15) | (go_at_call 41; (with_reducible refine (cayleyref01_Other.calls k1 (bt x0_1 (ji12)) t103 _ A16.out).mono ?_); rintro e w' ⟨rfl, ⟨nd, rfl⟩⟩; (try first | exact ⟨rfl, _, World.drewN_drewN _ _ _⟩ | exact ⟨rfl, _, Eq.trans (World.drewN_drewN _ _ _) (congrArg (World.drewN _) (Nat.add_assoc _ _ _))⟩))); try go_wp2_with (first | ((with_reducible refine gate_dst (N := 6) rfl ?_); (try (refine gate_guard (by rfl) ?_; dsimp only)); refine box_event ?hg (N := 6) ?hd (cs := #[.int .i64 0, .int .i64 0, .bool false]) (t := 78) ?hr ?_; (case hd => rfl); (case hg => rfl); (case hr => first | (go_simp; done) | (go_simp; rfl)); intro gb102 hg w26 hbox hb; have n0_ := Aside0.mk (below_step (by repeat (first | (with_reducible first | exact HB.out | apply below_alloc | apply pw_below_drewN | apply below_drew1) | exact HB.out)) hb); have n1_ := Aside0.mk (hbox); have n2_ := Aside0.mk ((by rw [hg]; exact (below_size (by repeat (first | (with_reducible first | exact HB.out | apply below_alloc | apply pw_below_drewN | apply below_drew1) | exact HB.out))) : w.heap.size ≤ gb102)); have n3_ := Aside0.mk ((by rw [hg]; exact (below_size (by repeat (first | (with_reducible first | exact HB.out | apply below_alloc | apply pw_below_drewN | apply below_drew1) | exact HB.out))) : w.heap.size ≤ gb102)); clear HB; have HB := n0_; have BK102 := n1_; have GW102 := n2_; have GE102 := n3_; clear n0_ n1_ n2_ n3_; clear hb hbox hg; have hcz27_0 : w26.cell? ⟨gb102, 0, none⟩ = some (.int .i64 0) := (blk_cell BK102.out 0).trans rfl; have hcz27_1 : w26.cell? ⟨gb102, 1, none⟩ = some (.int .i64 0) := (blk_cell BK102.out 1).trans rfl; have hcz27_2 : w26.cell? ⟨gb102, 2, none⟩ = some (.bool false) := (blk_cell BK102.out 2).trans rfl; have hfz27_0 := blk_frozen BK102.out 0; have hfz27_1 := blk_frozen BK102.out 1; have hfz27_2 := blk_frozen BK102.out 2; have p11 : 0 ≤ (((rd_T78 l1 x5_1).f0) : Int) := of_decide_eq_true (by first | (with_reducible assumption) | assumption); have q11 : ((rd_T78 l1 x5_1).f0) < (x0_1.size : Int) := of_decide_eq_true (by first | (with_reducible assumption) | assumption); have hx11 := bt_at x0_1 ((rd_T78 l1 x5_1).f0); replace p11 := eq_true p11; replace q11 := eq_true q11; have p15 : 0 ≤ ((ji12) : Int) := of_decide_eq_true (by first | (with_reducible assumption) | assumption); have q15 : (ji12) < (x0_1.size : Int) := of_decide_eq_true (by first | (with_reducible assumption) | assumption); have hx15 := bt_at x0_1 (ji12); replace p15 := eq_true p15; replace q15 := eq_true q15) | (go_at_call 41; (with_reducible refine (cayleyref01_Other.calls k1 (bt x0_1 (ji12)) t103 _ A16.out).mono ?_); rintro e w' ⟨rfl, ⟨nd, rfl⟩⟩; (try first | exact ⟨rfl, _, World.drewN_drewN _ _ _⟩ | exact ⟨rfl, _, Eq.trans (World.drewN_drewN _ _ _) (congrArg (World.drewN _) (Nat.add_assoc _ _ _))⟩))))
                          go_roundg k1
                          case measure => have := HK1.out; omega
                          case rel => exact ⟨(x0_1), (wrap64 (x5_1 + 1)), (by first | rfl | (simp; done) | (simp [*]; done) | (simp; exact (fun (a b : Bool) => (by cases a <;> cases b <;> rfl : (a == b) = ((!a) != b))) _ _)), (by first | rfl | (simp; done) | (simp [*]; done) | (simp; exact (fun (a b : Bool) => (by cases a <;> cases b <;> rfl : (a == b) = ((!a) != b))) _ _)), H', ⟨by have := HK1.out; omega⟩, ⟨by repeat (first | (with_reducible first | exact HB.out | apply below_alloc | apply pw_below_drewN | apply below_drew1 | refine below_set ?_ GE102.out) | exact HB.out)⟩⟩
                      · rw [if_neg c14] at H
                        exact absurd H (by simp)
                    · rw [if_neg c13] at H
                      exact absurd H (by simp)
                  · rw [if_neg c10] at H
                    exact absurd H (by simp)
                · rw [if_neg c9] at H
                  exact absurd H (by simp)
              · rw [if_neg c8] at H
                have c8b0 : decide (((rd_T78 l1 x5_1).f0) < (wrap64 ((x0_1.size : Int) - 1))) = false := decide_eq_false c8
                clear c8
                have H' := Aside0.mk H
                clear H
                have p101 : 0 ≤ (x5_1 : Int) := of_decide_eq_true (by first | (with_reducible assumption) | assumption)
                have q101 : x5_1 < (l1.length : Int) := of_decide_eq_true (by first | (with_reducible assumption) | assumption)
                obtain ⟨ad101, e101, hx101_0, hx101_1, hx101_2⟩ := at_T78 HR1.out x5_1 p101 q101
                (try rw [← Nbq5.out] at hx101_2)
                cases e101
                replace hx101_0 := (HB.out.cell (World.block_lt_of_cell? w _ hx101_0)).trans hx101_0
                replace hx101_1 := (HB.out.cell (World.block_lt_of_cell? w _ hx101_1)).trans hx101_1
                replace hx101_2 := (HB.out.cell (World.block_lt_of_cell? w _ hx101_2)).trans hx101_2
                replace p101 := eq_true p101
                replace q101 := eq_true q101
                go_wp2_with (first | ((with_reducible refine gate_dst (N := 6) rfl ?_); (try (refine gate_guard (by rfl) ?_; dsimp only)); refine box_event ?hg (N := 6) ?hd (cs := #[.int .i64 0, .int .i64 0, .bool false]) (t := 78) ?hr ?_; (case hd => rfl); (case hg => rfl); (case hr => first | (go_simp; done) | (go_simp; rfl)); intro gb102 hg w28 hbox hb; have n0_ := Aside0.mk (below_step (by repeat (first | (with_reducible first | exact HB.out | apply below_alloc | apply pw_below_drewN | apply below_drew1) | exact HB.out)) hb); have n1_ := Aside0.mk (hbox); have n2_ := Aside0.mk ((by rw [hg]; exact (below_size (by repeat (first | (with_reducible first | exact HB.out | apply below_alloc | apply pw_below_drewN | apply below_drew1) | exact HB.out))) : w.heap.size ≤ gb102)); have n3_ := Aside0.mk ((by rw [hg]; exact (below_size (by repeat (first | (with_reducible first | exact HB.out | apply below_alloc | apply pw_below_drewN | apply below_drew1) | exact HB.out))) : w.heap.size ≤ gb102)); clear HB; have HB := n0_; have BK102 := n1_; have GW102 := n2_; have GE102 := n3_; clear n0_ n1_ n2_ n3_; clear hb hbox hg; have hcz29_0 : w28.cell? ⟨gb102, 0, none⟩ = some (.int .i64 0) := (blk_cell BK102.out 0).trans rfl; have hcz29_1 : w28.cell? ⟨gb102, 1, none⟩ = some (.int .i64 0) := (blk_cell BK102.out 1).trans rfl; have hcz29_2 : w28.cell? ⟨gb102, 2, none⟩ = some (.bool false) := (blk_cell BK102.out 2).trans rfl; have hfz29_0 := blk_frozen BK102.out 0; have hfz29_1 := blk_frozen BK102.out 1; have hfz29_2 := blk_frozen BK102.out 2))
                repeat (go_quiet (first | ((with_reducible refine gate_dst (N := 6) rfl ?_); (try (refine gate_guard (by rfl) ?_; dsimp only)); refine box_event ?hg (N := 6) ?hd (cs := #[.int .i64 0, .int .i64 0, .bool false]) (t := 78) ?hr ?_; (case hd => rfl); (case hg => rfl); (case hr => first | (go_simp; done) | (go_simp; rfl)); intro gb102 hg w28 hbox hb; have n0_ := Aside0.mk (below_step (by repeat (first | (with_reducible first | exact HB.out | apply below_alloc | apply pw_below_drewN | apply below_drew1) | exact HB.out)) hb); have n1_ := Aside0.mk (hbox); have n2_ := Aside0.mk ((by rw [hg]; exact (below_size (by repeat (first | (with_reducible first | exact HB.out | apply below_alloc | apply pw_below_drewN | apply below_drew1) | exact HB.out))) : w.heap.size ≤ gb102)); have n3_ := Aside0.mk ((by rw [hg]; exact (below_size (by repeat (first | (with_reducible first | exact HB.out | apply below_alloc | apply pw_below_drewN | apply below_drew1) | exact HB.out))) : w.heap.size ≤ gb102)); clear HB; have HB := n0_; have BK102 := n1_; have GW102 := n2_; have GE102 := n3_; clear n0_ n1_ n2_ n3_; clear hb hbox hg; have hcz29_0 : w28.cell? ⟨gb102, 0, none⟩ = some (.int .i64 0) := (blk_cell BK102.out 0).trans rfl; have hcz29_1 : w28.cell? ⟨gb102, 1, none⟩ = some (.int .i64 0) := (blk_cell BK102.out 1).trans rfl; have hcz29_2 : w28.cell? ⟨gb102, 2, none⟩ = some (.bool false) := (blk_cell BK102.out 2).trans rfl; have hfz29_0 := blk_frozen BK102.out 0; have hfz29_1 := blk_frozen BK102.out 1; have hfz29_2 := blk_frozen BK102.out 2)); try go_wp2_with (first | ((with_reducible refine gate_dst (N := 6) rfl ?_); (try (refine gate_guard (by rfl) ?_; dsimp only)); refine box_event ?hg (N := 6) ?hd (cs := #[.int .i64 0, .int .i64 0, .bool false]) (t := 78) ?hr ?_; (case hd => rfl); (case hg => rfl); (case hr => first | (go_simp; done) | (go_simp; rfl)); intro gb102 hg w28 hbox hb; have n0_ := Aside0.mk (below_step (by repeat (first | (with_reducible first | exact HB.out | apply below_alloc | apply pw_below_drewN | apply below_drew1) | exact HB.out)) hb); have n1_ := Aside0.mk (hbox); have n2_ := Aside0.mk ((by rw [hg]; exact (below_size (by repeat (first | (with_reducible first | exact HB.out | apply below_alloc | apply pw_below_drewN | apply below_drew1) | exact HB.out))) : w.heap.size ≤ gb102)); have n3_ := Aside0.mk ((by rw [hg]; exact (below_size (by repeat (first | (with_reducible first | exact HB.out | apply below_alloc | apply pw_below_drewN | apply below_drew1) | exact HB.out))) : w.heap.size ≤ gb102)); clear HB; have HB := n0_; have BK102 := n1_; have GW102 := n2_; have GE102 := n3_; clear n0_ n1_ n2_ n3_; clear hb hbox hg; have hcz29_0 : w28.cell? ⟨gb102, 0, none⟩ = some (.int .i64 0) := (blk_cell BK102.out 0).trans rfl; have hcz29_1 : w28.cell? ⟨gb102, 1, none⟩ = some (.int .i64 0) := (blk_cell BK102.out 1).trans rfl; have hcz29_2 : w28.cell? ⟨gb102, 2, none⟩ = some (.bool false) := (blk_cell BK102.out 2).trans rfl; have hfz29_0 := blk_frozen BK102.out 0; have hfz29_1 := blk_frozen BK102.out 1; have hfz29_2 := blk_frozen BK102.out 2)))
                go_roundg k1
                case measure => have := HK1.out; omega
                case rel => exact ⟨(x0_1), (wrap64 (x5_1 + 1)), (by first | rfl | (simp; done) | (simp [*]; done) | (simp; exact (fun (a b : Bool) => (by cases a <;> cases b <;> rfl : (a == b) = ((!a) != b))) _ _)), (by first | rfl | (simp; done) | (simp [*]; done) | (simp; exact (fun (a b : Bool) => (by cases a <;> cases b <;> rfl : (a == b) = ((!a) != b))) _ _)), H', ⟨by have := HK1.out; omega⟩, ⟨by repeat (first | (with_reducible first | exact HB.out | apply below_alloc | apply pw_below_drewN | apply below_drew1 | refine below_set ?_ GE102.out) | exact HB.out)⟩⟩
            · rw [if_neg c7] at H
              have c7b0 : decide (0 ≤ ((rd_T78 l1 x5_1).f0)) = false := decide_eq_false c7
              clear c7
              have H' := Aside0.mk H
              clear H
              have p101 : 0 ≤ (x5_1 : Int) := of_decide_eq_true (by first | (with_reducible assumption) | assumption)
              have q101 : x5_1 < (l1.length : Int) := of_decide_eq_true (by first | (with_reducible assumption) | assumption)
              obtain ⟨ad101, e101, hx101_0, hx101_1, hx101_2⟩ := at_T78 HR1.out x5_1 p101 q101
              (try rw [← Nbq5.out] at hx101_2)
              cases e101
              replace hx101_0 := (HB.out.cell (World.block_lt_of_cell? w _ hx101_0)).trans hx101_0
              replace hx101_1 := (HB.out.cell (World.block_lt_of_cell? w _ hx101_1)).trans hx101_1
              replace hx101_2 := (HB.out.cell (World.block_lt_of_cell? w _ hx101_2)).trans hx101_2
              replace p101 := eq_true p101
              replace q101 := eq_true q101
              go_wp2_with (first | ((with_reducible refine gate_dst (N := 6) rfl ?_); (try (refine gate_guard (by rfl) ?_; dsimp only)); refine box_event ?hg (N := 6) ?hd (cs := #[.int .i64 0, .int .i64 0, .bool false]) (t := 78) ?hr ?_; (case hd => rfl); (case hg => rfl); (case hr => first | (go_simp; done) | (go_simp; rfl)); intro gb102 hg w30 hbox hb; have n0_ := Aside0.mk (below_step (by repeat (first | (with_reducible first | exact HB.out | apply below_alloc | apply pw_below_drewN | apply below_drew1) | exact HB.out)) hb); have n1_ := Aside0.mk (hbox); have n2_ := Aside0.mk ((by rw [hg]; exact (below_size (by repeat (first | (with_reducible first | exact HB.out | apply below_alloc | apply pw_below_drewN | apply below_drew1) | exact HB.out))) : w.heap.size ≤ gb102)); have n3_ := Aside0.mk ((by rw [hg]; exact (below_size (by repeat (first | (with_reducible first | exact HB.out | apply below_alloc | apply pw_below_drewN | apply below_drew1) | exact HB.out))) : w.heap.size ≤ gb102)); clear HB; have HB := n0_; have BK102 := n1_; have GW102 := n2_; have GE102 := n3_; clear n0_ n1_ n2_ n3_; clear hb hbox hg; have hcz31_0 : w30.cell? ⟨gb102, 0, none⟩ = some (.int .i64 0) := (blk_cell BK102.out 0).trans rfl; have hcz31_1 : w30.cell? ⟨gb102, 1, none⟩ = some (.int .i64 0) := (blk_cell BK102.out 1).trans rfl; have hcz31_2 : w30.cell? ⟨gb102, 2, none⟩ = some (.bool false) := (blk_cell BK102.out 2).trans rfl; have hfz31_0 := blk_frozen BK102.out 0; have hfz31_1 := blk_frozen BK102.out 1; have hfz31_2 := blk_frozen BK102.out 2))
              repeat (go_quiet (first | ((with_reducible refine gate_dst (N := 6) rfl ?_); (try (refine gate_guard (by rfl) ?_; dsimp only)); refine box_event ?hg (N := 6) ?hd (cs := #[.int .i64 0, .int .i64 0, .bool false]) (t := 78) ?hr ?_; (case hd => rfl); (case hg => rfl); (case hr => first | (go_simp; done) | (go_simp; rfl)); intro gb102 hg w30 hbox hb; have n0_ := Aside0.mk (below_step (by repeat (first | (with_reducible first | exact HB.out | apply below_alloc | apply pw_below_drewN | apply below_drew1) | exact HB.out)) hb); have n1_ := Aside0.mk (hbox); have n2_ := Aside0.mk ((by rw [hg]; exact (below_size (by repeat (first | (with_reducible first | exact HB.out | apply below_alloc | apply pw_below_drewN | apply below_drew1) | exact HB.out))) : w.heap.size ≤ gb102)); have n3_ := Aside0.mk ((by rw [hg]; exact (below_size (by repeat (first | (with_reducible first | exact HB.out | apply below_alloc | apply pw_below_drewN | apply below_drew1) | exact HB.out))) : w.heap.size ≤ gb102)); clear HB; have HB := n0_; have BK102 := n1_; have GW102 := n2_; have GE102 := n3_; clear n0_ n1_ n2_ n3_; clear hb hbox hg; have hcz31_0 : w30.cell? ⟨gb102, 0, none⟩ = some (.int .i64 0) := (blk_cell BK102.out 0).trans rfl; have hcz31_1 : w30.cell? ⟨gb102, 1, none⟩ = some (.int .i64 0) := (blk_cell BK102.out 1).trans rfl; have hcz31_2 : w30.cell? ⟨gb102, 2, none⟩ = some (.bool false) := (blk_cell BK102.out 2).trans rfl; have hfz31_0 := blk_frozen BK102.out 0; have hfz31_1 := blk_frozen BK102.out 1; have hfz31_2 := blk_frozen BK102.out 2)); try go_wp2_with (first | ((with_reducible refine gate_dst (N := 6) rfl ?_); (try (refine gate_guard (by rfl) ?_; dsimp only)); refine box_event ?hg (N := 6) ?hd (cs := #[.int .i64 0, .int .i64 0, .bool false]) (t := 78) ?hr ?_; (case hd => rfl); (case hg => rfl); (case hr => first | (go_simp; done) | (go_simp; rfl)); intro gb102 hg w30 hbox hb; have n0_ := Aside0.mk (below_step (by repeat (first | (with_reducible first | exact HB.out | apply below_alloc | apply pw_below_drewN | apply below_drew1) | exact HB.out)) hb); have n1_ := Aside0.mk (hbox); have n2_ := Aside0.mk ((by rw [hg]; exact (below_size (by repeat (first | (with_reducible first | exact HB.out | apply below_alloc | apply pw_below_drewN | apply below_drew1) | exact HB.out))) : w.heap.size ≤ gb102)); have n3_ := Aside0.mk ((by rw [hg]; exact (below_size (by repeat (first | (with_reducible first | exact HB.out | apply below_alloc | apply pw_below_drewN | apply below_drew1) | exact HB.out))) : w.heap.size ≤ gb102)); clear HB; have HB := n0_; have BK102 := n1_; have GW102 := n2_; have GE102 := n3_; clear n0_ n1_ n2_ n3_; clear hb hbox hg; have hcz31_0 : w30.cell? ⟨gb102, 0, none⟩ = some (.int .i64 0) := (blk_cell BK102.out 0).trans rfl; have hcz31_1 : w30.cell? ⟨gb102, 1, none⟩ = some (.int .i64 0) := (blk_cell BK102.out 1).trans rfl; have hcz31_2 : w30.cell? ⟨gb102, 2, none⟩ = some (.bool false) := (blk_cell BK102.out 2).trans rfl; have hfz31_0 := blk_frozen BK102.out 0; have hfz31_1 := blk_frozen BK102.out 1; have hfz31_2 := blk_frozen BK102.out 2)))
              go_roundg k1
              case measure => have := HK1.out; omega
              case rel => exact ⟨(x0_1), (wrap64 (x5_1 + 1)), (by first | rfl | (simp; done) | (simp [*]; done) | (simp; exact (fun (a b : Bool) => (by cases a <;> cases b <;> rfl : (a == b) = ((!a) != b))) _ _)), (by first | rfl | (simp; done) | (simp [*]; done) | (simp; exact (fun (a b : Bool) => (by cases a <;> cases b <;> rfl : (a == b) = ((!a) != b))) _ _)), H', ⟨by have := HK1.out; omega⟩, ⟨by repeat (first | (with_reducible first | exact HB.out | apply below_alloc | apply pw_below_drewN | apply below_drew1 | refine below_set ?_ GE102.out) | exact HB.out)⟩⟩
          · replace c6 := Bool.eq_false_iff.mpr c6
            subst c6
            have H1 : (if ((rd_T78 l1 x5_1).f0) ≥ 0 then (if ((rd_T78 l1 x5_1).f0) ≤ (x0_1.size : Int) then ((cayleyref01_Letter.f k1 ((rd_T78 l1 x5_1).f1)).bind fun t104 => (cayleylaw01_Edited.j1 k1 x0_1 l1 x5_1 (t104 != 0) ((rd_T78 l1 x5_1).f0) ((rd_T78 l1 x5_1).f1) false)) else (cayleylaw01_Edited.j1 k1 x0_1 l1 x5_1 false ((rd_T78 l1 x5_1).f0) ((rd_T78 l1 x5_1).f1) false)) else (cayleylaw01_Edited.j1 k1 x0_1 l1 x5_1 false ((rd_T78 l1 x5_1).f0) ((rd_T78 l1 x5_1).f1) false)) = some r := by rw [if_neg (show ¬ (false = true) by decide)] at H; exact H
            clear H
            have H := H1
            clear H1
            have HC32 := Aside0.mk H
            clear H
            have p101 : 0 ≤ (x5_1 : Int) := of_decide_eq_true (by first | (with_reducible assumption) | assumption)
            have q101 : x5_1 < (l1.length : Int) := of_decide_eq_true (by first | (with_reducible assumption) | assumption)
            obtain ⟨ad101, e101, hx101_0, hx101_1, hx101_2⟩ := at_T78 HR1.out x5_1 p101 q101
            (try rw [← Nbq5.out] at hx101_2)
            cases e101
            replace hx101_0 := (HB.out.cell (World.block_lt_of_cell? w _ hx101_0)).trans hx101_0
            replace hx101_1 := (HB.out.cell (World.block_lt_of_cell? w _ hx101_1)).trans hx101_1
            replace hx101_2 := (HB.out.cell (World.block_lt_of_cell? w _ hx101_2)).trans hx101_2
            replace p101 := eq_true p101
            replace q101 := eq_true q101
            go_upto_region 8 with (first | ((with_reducible refine gate_dst (N := 6) rfl ?_); (try (refine gate_guard (by rfl) ?_; dsimp only)); refine box_event ?hg (N := 6) ?hd (cs := #[.int .i64 0, .int .i64 0, .bool false]) (t := 78) ?hr ?_; (case hd => rfl); (case hg => rfl); (case hr => first | (go_simp; done) | (go_simp; rfl)); intro gb102 hg w33 hbox hb; have n0_ := Aside0.mk (below_step (by repeat (first | (with_reducible first | exact HB.out | apply below_alloc | apply pw_below_drewN | apply below_drew1) | exact HB.out)) hb); have n1_ := Aside0.mk (hbox); have n2_ := Aside0.mk ((by rw [hg]; exact (below_size (by repeat (first | (with_reducible first | exact HB.out | apply below_alloc | apply pw_below_drewN | apply below_drew1) | exact HB.out))) : w.heap.size ≤ gb102)); have n3_ := Aside0.mk ((by rw [hg]; exact (below_size (by repeat (first | (with_reducible first | exact HB.out | apply below_alloc | apply pw_below_drewN | apply below_drew1) | exact HB.out))) : w.heap.size ≤ gb102)); clear HB; have HB := n0_; have BK102 := n1_; have GW102 := n2_; have GE102 := n3_; clear n0_ n1_ n2_ n3_; clear hb hbox hg; have hcz34_0 : w33.cell? ⟨gb102, 0, none⟩ = some (.int .i64 0) := (blk_cell BK102.out 0).trans rfl; have hcz34_1 : w33.cell? ⟨gb102, 1, none⟩ = some (.int .i64 0) := (blk_cell BK102.out 1).trans rfl; have hcz34_2 : w33.cell? ⟨gb102, 2, none⟩ = some (.bool false) := (blk_cell BK102.out 2).trans rfl; have hfz34_0 := blk_frozen BK102.out 0; have hfz34_1 := blk_frozen BK102.out 1; have hfz34_2 := blk_frozen BK102.out 2))
            repeat (go_quiet (first | ((with_reducible refine gate_dst (N := 6) rfl ?_); (try (refine gate_guard (by rfl) ?_; dsimp only)); refine box_event ?hg (N := 6) ?hd (cs := #[.int .i64 0, .int .i64 0, .bool false]) (t := 78) ?hr ?_; (case hd => rfl); (case hg => rfl); (case hr => first | (go_simp; done) | (go_simp; rfl)); intro gb102 hg w33 hbox hb; have n0_ := Aside0.mk (below_step (by repeat (first | (with_reducible first | exact HB.out | apply below_alloc | apply pw_below_drewN | apply below_drew1) | exact HB.out)) hb); have n1_ := Aside0.mk (hbox); have n2_ := Aside0.mk ((by rw [hg]; exact (below_size (by repeat (first | (with_reducible first | exact HB.out | apply below_alloc | apply pw_below_drewN | apply below_drew1) | exact HB.out))) : w.heap.size ≤ gb102)); have n3_ := Aside0.mk ((by rw [hg]; exact (below_size (by repeat (first | (with_reducible first | exact HB.out | apply below_alloc | apply pw_below_drewN | apply below_drew1) | exact HB.out))) : w.heap.size ≤ gb102)); clear HB; have HB := n0_; have BK102 := n1_; have GW102 := n2_; have GE102 := n3_; clear n0_ n1_ n2_ n3_; clear hb hbox hg; have hcz34_0 : w33.cell? ⟨gb102, 0, none⟩ = some (.int .i64 0) := (blk_cell BK102.out 0).trans rfl; have hcz34_1 : w33.cell? ⟨gb102, 1, none⟩ = some (.int .i64 0) := (blk_cell BK102.out 1).trans rfl; have hcz34_2 : w33.cell? ⟨gb102, 2, none⟩ = some (.bool false) := (blk_cell BK102.out 2).trans rfl; have hfz34_0 := blk_frozen BK102.out 0; have hfz34_1 := blk_frozen BK102.out 1; have hfz34_2 := blk_frozen BK102.out 2)); go_upto_region 8 with (first | ((with_reducible refine gate_dst (N := 6) rfl ?_); (try (refine gate_guard (by rfl) ?_; dsimp only)); refine box_event ?hg (N := 6) ?hd (cs := #[.int .i64 0, .int .i64 0, .bool false]) (t := 78) ?hr ?_; (case hd => rfl); (case hg => rfl); (case hr => first | (go_simp; done) | (go_simp; rfl)); intro gb102 hg w33 hbox hb; have n0_ := Aside0.mk (below_step (by repeat (first | (with_reducible first | exact HB.out | apply below_alloc | apply pw_below_drewN | apply below_drew1) | exact HB.out)) hb); have n1_ := Aside0.mk (hbox); have n2_ := Aside0.mk ((by rw [hg]; exact (below_size (by repeat (first | (with_reducible first | exact HB.out | apply below_alloc | apply pw_below_drewN | apply below_drew1) | exact HB.out))) : w.heap.size ≤ gb102)); have n3_ := Aside0.mk ((by rw [hg]; exact (below_size (by repeat (first | (with_reducible first | exact HB.out | apply below_alloc | apply pw_below_drewN | apply below_drew1) | exact HB.out))) : w.heap.size ≤ gb102)); clear HB; have HB := n0_; have BK102 := n1_; have GW102 := n2_; have GE102 := n3_; clear n0_ n1_ n2_ n3_; clear hb hbox hg; have hcz34_0 : w33.cell? ⟨gb102, 0, none⟩ = some (.int .i64 0) := (blk_cell BK102.out 0).trans rfl; have hcz34_1 : w33.cell? ⟨gb102, 1, none⟩ = some (.int .i64 0) := (blk_cell BK102.out 1).trans rfl; have hcz34_2 : w33.cell? ⟨gb102, 2, none⟩ = some (.bool false) := (blk_cell BK102.out 2).trans rfl; have hfz34_0 := blk_frozen BK102.out 0; have hfz34_1 := blk_frozen BK102.out 1; have hfz34_2 := blk_frozen BK102.out 2)))
            (try simp only [Act.put, List.setIfInBounds_toArray, List.set_cons_zero, List.set_cons_succ])
            go_cut [68] (fun v68 wc => ∃ (kq : Nat) (x68_31 : Bool), v68 = .bool x68_31 ∧ Aside0 (cayleylaw01_Edited.j1 kq x0_1 l1 x5_1 x68_31 ((rd_T78 l1 x5_1).f0) ((rd_T78 l1 x5_1).f1) false = some r) ∧ Aside0 (kq ≤ k1) ∧ Aside0 (wc.heap[gb102]? = some (.cells #[.int .i64 ((rd_T78 l1 x5_1).f0), .int .i64 ((rd_T78 l1 x5_1).f1), .bool false] 78 (0, 0))) ∧ Aside0 (Below w.heap.size w wc))
            case first =>
              have H := HC32.out
              clear HC32
              by_cases c35 : ((rd_T78 l1 x5_1).f0) ≥ 0
              · rw [if_pos c35] at H
                have c35b0 : decide (0 ≤ ((rd_T78 l1 x5_1).f0)) = true := decide_eq_true c35
                clear c35
                (first | rw [c35b0] | (simp only [i64_w, i32_w]; rw [c35b0]) | skip)
                by_cases c36 : ((rd_T78 l1 x5_1).f0) ≤ (x0_1.size : Int)
                · rw [if_pos c36] at H
                  have c36b0 : decide (((rd_T78 l1 x5_1).f0) ≤ (x0_1.size : Int)) = true := decide_eq_true c36
                  clear c36
                  replace H := Option.bind_eq_some_iff.mp H
                  obtain ⟨t104, A370, H⟩ := H
                  replace H : (cayleylaw01_Edited.j1 k1 x0_1 l1 x5_1 (t104 != 0) ((rd_T78 l1 x5_1).f0) ((rd_T78 l1 x5_1).f1) false) = some r := H
                  have A37 := Aside0.mk A370
                  clear A370
                  have H' := Aside0.mk H
                  clear H
                  have hcz38_0 : w33.cell? ⟨gb102, 0, none⟩ = some (.int .i64 0) := (blk_cell BK102.out 0).trans rfl
                  have hcz38_1 : w33.cell? ⟨gb102, 1, none⟩ = some (.int .i64 0) := (blk_cell BK102.out 1).trans rfl
                  have hcz38_2 : w33.cell? ⟨gb102, 2, none⟩ = some (.bool false) := (blk_cell BK102.out 2).trans rfl
                  have hfz38_0 := blk_frozen BK102.out 0
                  have hfz38_1 := blk_frozen BK102.out 1
                  have hfz38_2 := blk_frozen BK102.out 2
                  go_wp2_with (first | (go_at_call 18; (with_reducible refine (cayleyref01_Letter.calls k1 ((rd_T78 l1 x5_1).f1) t104 _ A37.out).mono ?_); rintro e w' ⟨rfl, ⟨nd, rfl⟩⟩; (try first | exact ⟨rfl, _, World.drewN_drewN _ _ _⟩ | exact ⟨rfl, _, Eq.trans (World.drewN_drewN _ _ _) (congrArg (World.drewN _) (Nat.add_assoc _ _ _))⟩)))
                  repeat (go_quiet (first | (go_at_call 18; (with_reducible refine (cayleyref01_Letter.calls k1 ((rd_T78 l1 x5_1).f1) t104 _ A37.out).mono ?_); rintro e w' ⟨rfl, ⟨nd, rfl⟩⟩; (try first | exact ⟨rfl, _, World.drewN_drewN _ _ _⟩ | exact ⟨rfl, _, Eq.trans (World.drewN_drewN _ _ _) (congrArg (World.drewN _) (Nat.add_assoc _ _ _))⟩))); try go_wp2_with (first | (go_at_call 18; (with_reducible refine (cayleyref01_Letter.calls k1 ((rd_T78 l1 x5_1).f1) t104 _ A37.out).mono ?_); rintro e w' ⟨rfl, ⟨nd, rfl⟩⟩; (try first | exact ⟨rfl, _, World.drewN_drewN _ _ _⟩ | exact ⟨rfl, _, Eq.trans (World.drewN_drewN _ _ _) (congrArg (World.drewN _) (Nat.add_assoc _ _ _))⟩))))
                  go_meet
                  case rel => exact ⟨_, ((t104 != 0)), (by first | rfl | (simp; done) | (simp [*]; done) | (simp; exact (fun (a b : Bool) => (by cases a <;> cases b <;> rfl : (a == b) = ((!a) != b))) _ _)), H', ⟨by have := HK1.out; first | omega | exact Nat.le_refl _⟩, ⟨by (with_reducible repeat (first | refine blk_drewN ?_ _ | refine blk_drew ?_ | refine blk_alloc ?_ _)); refine blk_put (cs := #[.int .i64 ((rd_T78 l1 x5_1).f0), .int .i64 ((rd_T78 l1 x5_1).f1), .bool false]) ?_ 2 _ rfl; (with_reducible repeat (first | refine blk_drewN ?_ _ | refine blk_drew ?_ | refine blk_alloc ?_ _)); refine blk_put (cs := #[.int .i64 ((rd_T78 l1 x5_1).f0), .int .i64 0, .bool false]) ?_ 1 _ rfl; (with_reducible repeat (first | refine blk_drewN ?_ _ | refine blk_drew ?_ | refine blk_alloc ?_ _)); refine blk_put (cs := #[.int .i64 0, .int .i64 0, .bool false]) ?_ 0 _ rfl; (with_reducible repeat (first | refine blk_drewN ?_ _ | refine blk_drew ?_ | refine blk_alloc ?_ _)); exact BK102.out⟩, ⟨by repeat (first | (with_reducible first | exact HB.out | apply below_alloc | apply pw_below_drewN | apply below_drew1 | refine below_set ?_ GE102.out) | exact HB.out)⟩⟩
                · rw [if_neg c36] at H
                  have c36b0 : decide (((rd_T78 l1 x5_1).f0) ≤ (x0_1.size : Int)) = false := decide_eq_false c36
                  clear c36
                  have H' := Aside0.mk H
                  clear H
                  have hcz39_0 : w33.cell? ⟨gb102, 0, none⟩ = some (.int .i64 0) := (blk_cell BK102.out 0).trans rfl
                  have hcz39_1 : w33.cell? ⟨gb102, 1, none⟩ = some (.int .i64 0) := (blk_cell BK102.out 1).trans rfl
                  have hcz39_2 : w33.cell? ⟨gb102, 2, none⟩ = some (.bool false) := (blk_cell BK102.out 2).trans rfl
                  have hfz39_0 := blk_frozen BK102.out 0
                  have hfz39_1 := blk_frozen BK102.out 1
                  have hfz39_2 := blk_frozen BK102.out 2
                  go_wp2
                  repeat (go_quiet (fail); try go_wp2)
                  go_meet
                  case rel => exact ⟨_, (false), (by first | rfl | (simp; done) | (simp [*]; done) | (simp; exact (fun (a b : Bool) => (by cases a <;> cases b <;> rfl : (a == b) = ((!a) != b))) _ _)), H', ⟨by have := HK1.out; first | omega | exact Nat.le_refl _⟩, ⟨by (with_reducible repeat (first | refine blk_drewN ?_ _ | refine blk_drew ?_ | refine blk_alloc ?_ _)); refine blk_put (cs := #[.int .i64 ((rd_T78 l1 x5_1).f0), .int .i64 ((rd_T78 l1 x5_1).f1), .bool false]) ?_ 2 _ rfl; (with_reducible repeat (first | refine blk_drewN ?_ _ | refine blk_drew ?_ | refine blk_alloc ?_ _)); refine blk_put (cs := #[.int .i64 ((rd_T78 l1 x5_1).f0), .int .i64 0, .bool false]) ?_ 1 _ rfl; (with_reducible repeat (first | refine blk_drewN ?_ _ | refine blk_drew ?_ | refine blk_alloc ?_ _)); refine blk_put (cs := #[.int .i64 0, .int .i64 0, .bool false]) ?_ 0 _ rfl; (with_reducible repeat (first | refine blk_drewN ?_ _ | refine blk_drew ?_ | refine blk_alloc ?_ _)); exact BK102.out⟩, ⟨by repeat (first | (with_reducible first | exact HB.out | apply below_alloc | apply pw_below_drewN | apply below_drew1 | refine below_set ?_ GE102.out) | exact HB.out)⟩⟩
              · rw [if_neg c35] at H
                have c35b0 : decide (0 ≤ ((rd_T78 l1 x5_1).f0)) = false := decide_eq_false c35
                clear c35
                (first | rw [c35b0] | (simp only [i64_w, i32_w]; rw [c35b0]) | skip)
                have H' := Aside0.mk H
                clear H
                have hcz40_0 : w33.cell? ⟨gb102, 0, none⟩ = some (.int .i64 0) := (blk_cell BK102.out 0).trans rfl
                have hcz40_1 : w33.cell? ⟨gb102, 1, none⟩ = some (.int .i64 0) := (blk_cell BK102.out 1).trans rfl
                have hcz40_2 : w33.cell? ⟨gb102, 2, none⟩ = some (.bool false) := (blk_cell BK102.out 2).trans rfl
                have hfz40_0 := blk_frozen BK102.out 0
                have hfz40_1 := blk_frozen BK102.out 1
                have hfz40_2 := blk_frozen BK102.out 2
                go_wp2
                repeat (go_quiet (fail); try go_wp2)
                go_meet
                case rel => exact ⟨_, (false), (by first | rfl | (simp; done) | (simp [*]; done) | (simp; exact (fun (a b : Bool) => (by cases a <;> cases b <;> rfl : (a == b) = ((!a) != b))) _ _)), H', ⟨by have := HK1.out; first | omega | exact Nat.le_refl _⟩, ⟨by (with_reducible repeat (first | refine blk_drewN ?_ _ | refine blk_drew ?_ | refine blk_alloc ?_ _)); refine blk_put (cs := #[.int .i64 ((rd_T78 l1 x5_1).f0), .int .i64 ((rd_T78 l1 x5_1).f1), .bool false]) ?_ 2 _ rfl; (with_reducible repeat (first | refine blk_drewN ?_ _ | refine blk_drew ?_ | refine blk_alloc ?_ _)); refine blk_put (cs := #[.int .i64 ((rd_T78 l1 x5_1).f0), .int .i64 0, .bool false]) ?_ 1 _ rfl; (with_reducible repeat (first | refine blk_drewN ?_ _ | refine blk_drew ?_ | refine blk_alloc ?_ _)); refine blk_put (cs := #[.int .i64 0, .int .i64 0, .bool false]) ?_ 0 _ rfl; (with_reducible repeat (first | refine blk_drewN ?_ _ | refine blk_drew ?_ | refine blk_alloc ?_ _)); exact BK102.out⟩, ⟨by repeat (first | (with_reducible first | exact HB.out | apply below_alloc | apply pw_below_drewN | apply below_drew1 | refine below_set ?_ GE102.out) | exact HB.out)⟩⟩
            case rest =>
              clear HC32
              try clear c1
              try clear p1
              try clear q1
              try clear hx1
              try clear c2
              try clear p2
              try clear c3
              try clear c3b0
              try clear c4
              try clear c4b0
              try clear q5
              try clear c6
              try clear p6
              try clear c7
              try clear c7b0
              try clear c8
              try clear c8b0
              try clear c9
              try clear c9b0
              try clear c10
              try clear c10b0
              try clear p10
              try clear q10
              try clear hx10
              try clear p11
              try clear q11
              try clear hx11
              try clear c13
              try clear c13b0
              try clear c14
              try clear c14b0
              try clear p15
              try clear q15
              try clear hx15
              try clear c17
              try clear c17b0
              try clear c17b1
              try clear c18
              try clear c18b0
              try clear c19
              try clear c19b0
              try clear c19b1
              try clear c21
              try clear c21b0
              try clear c21b1
              try clear c22
              try clear c22b0
              try clear c22b1
              try clear c23
              try clear c23b0
              try clear c23b1
              try clear c23b2
              try clear c35
              try clear c35b0
              try clear c36
              try clear c36b0
              try clear hcz25_0
              try clear hcz25_1
              try clear hcz25_2
              try clear hcz27_0
              try clear hcz27_1
              try clear hcz27_2
              try clear hcz29_0
              try clear hcz29_1
              try clear hcz29_2
              try clear hcz31_0
              try clear hcz31_1
              try clear hcz31_2
              try clear hcz34_0
              try clear hcz34_1
              try clear hcz34_2
              try clear hcz38_0
              try clear hcz38_1
              try clear hcz38_2
              try clear hcz39_0
              try clear hcz39_1
              try clear hcz39_2
              try clear hcz40_0
              try clear hcz40_1
              try clear hcz40_2
              try clear hfz25_0
              try clear hfz25_1
              try clear hfz25_2
              try clear hfz27_0
              try clear hfz27_1
              try clear hfz27_2
              try clear hfz29_0
              try clear hfz29_1
              try clear hfz29_2
              try clear hfz31_0
              try clear hfz31_1
              try clear hfz31_2
              try clear hfz34_0
              try clear hfz34_1
              try clear hfz34_2
              try clear hfz38_0
              try clear hfz38_1
              try clear hfz38_2
              try clear hfz39_0
              try clear hfz39_1
              try clear hfz39_2
              try clear hfz40_0
              try clear hfz40_1
              try clear hfz40_2
              try clear hx101_0
              try clear hx101_1
              try clear hx101_2
              try clear p101
              try clear p11
              try clear p15
              try clear p2
              try clear q101
              try clear q11
              try clear q15
              obtain ⟨kq, x68_31, rfl, HA, HJ31, BK102, HB⟩ := hcut
              cases kq with
              | zero => exact absurd HA.out (by simp [cayleylaw01_Edited.j1])
              | succ kj31 =>
                have H := HA.out
                clear HA
                simp only [cayleylaw01_Edited.j1] at H
                by_cases c41 : x68_31 = true
                · subst c41
                  have H1 : (if 0 ≤ ((rd_T78 l1 x5_1).f0) then (if ((rd_T78 l1 x5_1).f0) ≤ (x0_1.size : Int) then ((cayleyref01_Letter.f kj31 ((rd_T78 l1 x5_1).f1)).bind fun t105 => (if (x0_1.extract 0 (((rd_T78 l1 x5_1).f0) : Int).toNat).size + (Utf8.encode t105).size ≤ 9223372036854775807 then ((cayleyref01_Letter.f kj31 (Go.bits .xor .i64 ((rd_T78 l1 x5_1).f1) 1)).bind fun t106 => (if ((x0_1.extract 0 (((rd_T78 l1 x5_1).f0) : Int).toNat) ++ (Utf8.encode t105)).size + (Utf8.encode t106).size ≤ 9223372036854775807 then (if (((x0_1.extract 0 (((rd_T78 l1 x5_1).f0) : Int).toNat) ++ (Utf8.encode t105)) ++ (Utf8.encode t106)).size + (x0_1.extract (((rd_T78 l1 x5_1).f0) : Int).toNat x0_1.size).size ≤ 9223372036854775807 then (cayleylaw01_Edited.l0 kj31 ((((x0_1.extract 0 (((rd_T78 l1 x5_1).f0) : Int).toNat) ++ (Utf8.encode t105)) ++ (Utf8.encode t106)) ++ (x0_1.extract (((rd_T78 l1 x5_1).f0) : Int).toNat x0_1.size)) l1 (wrap64 (x5_1 + 1))) else (none)) else (none))) else (none))) else (none)) else (none)) = some r := by rw [if_pos rfl] at H; exact H
                  clear H
                  have H := H1
                  clear H1
                  by_cases c42 : 0 ≤ ((rd_T78 l1 x5_1).f0)
                  · rw [if_pos c42] at H
                    have c42b0 := eq_true c42
                    have c42b1 : decide (0 ≤ ((rd_T78 l1 x5_1).f0)) = true := decide_eq_true c42
                    clear c42
                    by_cases c43 : ((rd_T78 l1 x5_1).f0) ≤ (x0_1.size : Int)
                    · rw [if_pos c43] at H
                      have c43b0 := eq_true c43
                      have c43b1 : decide (((rd_T78 l1 x5_1).f0) ≤ (x0_1.size : Int)) = true := decide_eq_true c43
                      clear c43
                      replace H := Option.bind_eq_some_iff.mp H
                      obtain ⟨t105, A440, H⟩ := H
                      replace H : (if (x0_1.extract 0 (((rd_T78 l1 x5_1).f0) : Int).toNat).size + (Utf8.encode t105).size ≤ 9223372036854775807 then ((cayleyref01_Letter.f kj31 (Go.bits .xor .i64 ((rd_T78 l1 x5_1).f1) 1)).bind fun t106 => (if ((x0_1.extract 0 (((rd_T78 l1 x5_1).f0) : Int).toNat) ++ (Utf8.encode t105)).size + (Utf8.encode t106).size ≤ 9223372036854775807 then (if (((x0_1.extract 0 (((rd_T78 l1 x5_1).f0) : Int).toNat) ++ (Utf8.encode t105)) ++ (Utf8.encode t106)).size + (x0_1.extract (((rd_T78 l1 x5_1).f0) : Int).toNat x0_1.size).size ≤ 9223372036854775807 then (cayleylaw01_Edited.l0 kj31 ((((x0_1.extract 0 (((rd_T78 l1 x5_1).f0) : Int).toNat) ++ (Utf8.encode t105)) ++ (Utf8.encode t106)) ++ (x0_1.extract (((rd_T78 l1 x5_1).f0) : Int).toNat x0_1.size)) l1 (wrap64 (x5_1 + 1))) else (none)) else (none))) else (none)) = some r := H
                      have A44 := Aside0.mk A440
                      clear A440
                      by_cases c45 : (x0_1.extract 0 (((rd_T78 l1 x5_1).f0) : Int).toNat).size + (Utf8.encode t105).size ≤ 9223372036854775807
                      · rw [if_pos c45] at H
                        have c45b0 := eq_true c45
                        have c45b1 : decide ((x0_1.extract 0 (((rd_T78 l1 x5_1).f0) : Int).toNat).size + (Utf8.encode t105).size ≤ 9223372036854775807) = true := decide_eq_true c45
                        try have c45b2 : (9223372036854775807 < (x0_1.extract 0 (((rd_T78 l1 x5_1).f0) : Int).toNat).size + (Utf8.encode t105).size) = False := eq_false (Nat.not_lt.2 c45)
                        try (have c45s := c45; simp [*] at c45s; have c45t := eq_false (Nat.not_lt.2 c45s); clear c45s)
                        replace H := Option.bind_eq_some_iff.mp H
                        obtain ⟨t106, A460, H⟩ := H
                        replace H : (if ((x0_1.extract 0 (((rd_T78 l1 x5_1).f0) : Int).toNat) ++ (Utf8.encode t105)).size + (Utf8.encode t106).size ≤ 9223372036854775807 then (if (((x0_1.extract 0 (((rd_T78 l1 x5_1).f0) : Int).toNat) ++ (Utf8.encode t105)) ++ (Utf8.encode t106)).size + (x0_1.extract (((rd_T78 l1 x5_1).f0) : Int).toNat x0_1.size).size ≤ 9223372036854775807 then (cayleylaw01_Edited.l0 kj31 ((((x0_1.extract 0 (((rd_T78 l1 x5_1).f0) : Int).toNat) ++ (Utf8.encode t105)) ++ (Utf8.encode t106)) ++ (x0_1.extract (((rd_T78 l1 x5_1).f0) : Int).toNat x0_1.size)) l1 (wrap64 (x5_1 + 1))) else (none)) else (none)) = some r := H
                        have A46 := Aside0.mk A460
                        clear A460
                        by_cases c47 : ((x0_1.extract 0 (((rd_T78 l1 x5_1).f0) : Int).toNat) ++ (Utf8.encode t105)).size + (Utf8.encode t106).size ≤ 9223372036854775807
                        · rw [if_pos c47] at H
                          have c47b0 := eq_true c47
                          have c47b1 : decide (((x0_1.extract 0 (((rd_T78 l1 x5_1).f0) : Int).toNat) ++ (Utf8.encode t105)).size + (Utf8.encode t106).size ≤ 9223372036854775807) = true := decide_eq_true c47
                          try have c47b2 : (9223372036854775807 < ((x0_1.extract 0 (((rd_T78 l1 x5_1).f0) : Int).toNat) ++ (Utf8.encode t105)).size + (Utf8.encode t106).size) = False := eq_false (Nat.not_lt.2 c47)
                          try (have c47s := c47; simp [*] at c47s; have c47t := eq_false (Nat.not_lt.2 c47s); clear c47s)
                          have c48b0 := eq_true (of_decide_eq_true (by first | (with_reducible assumption) | assumption) : 0 ≤ ((rd_T78 l1 x5_1).f0))
                          have c49b0 := eq_true (of_decide_eq_true (by first | (with_reducible assumption) | assumption) : ((rd_T78 l1 x5_1).f0) ≤ (x0_1.size : Int))
                          by_cases c50 : (((x0_1.extract 0 (((rd_T78 l1 x5_1).f0) : Int).toNat) ++ (Utf8.encode t105)) ++ (Utf8.encode t106)).size + (x0_1.extract (((rd_T78 l1 x5_1).f0) : Int).toNat x0_1.size).size ≤ 9223372036854775807
                          · rw [if_pos c50] at H
                            have c50b0 := eq_true c50
                            have c50b1 : decide ((((x0_1.extract 0 (((rd_T78 l1 x5_1).f0) : Int).toNat) ++ (Utf8.encode t105)) ++ (Utf8.encode t106)).size + (x0_1.extract (((rd_T78 l1 x5_1).f0) : Int).toNat x0_1.size).size ≤ 9223372036854775807) = true := decide_eq_true c50
                            try have c50b2 : (9223372036854775807 < (((x0_1.extract 0 (((rd_T78 l1 x5_1).f0) : Int).toNat) ++ (Utf8.encode t105)) ++ (Utf8.encode t106)).size + (x0_1.extract (((rd_T78 l1 x5_1).f0) : Int).toNat x0_1.size).size) = False := eq_false (Nat.not_lt.2 c50)
                            try (have c50s := c50; simp [*] at c50s; have c50t := eq_false (Nat.not_lt.2 c50s); clear c50s)
                            have H' := Aside0.mk H
                            clear H
                            have hcz51_0 : wc.cell? ⟨gb102, 0, none⟩ = some (.int .i64 ((rd_T78 l1 x5_1).f0)) := (blk_cell BK102.out 0).trans rfl
                            have hcz51_1 : wc.cell? ⟨gb102, 1, none⟩ = some (.int .i64 ((rd_T78 l1 x5_1).f1)) := (blk_cell BK102.out 1).trans rfl
                            have hcz51_2 : wc.cell? ⟨gb102, 2, none⟩ = some (.bool false) := (blk_cell BK102.out 2).trans rfl
                            have hfz51_0 := blk_frozen BK102.out 0
                            have hfz51_1 := blk_frozen BK102.out 1
                            have hfz51_2 := blk_frozen BK102.out 2
                            go_wp2_with (first | (go_at_call 18; (with_reducible refine (cayleyref01_Letter.calls kj31 ((rd_T78 l1 x5_1).f1) t105 _ A44.out).mono ?_); rintro e w' ⟨rfl, ⟨nd, rfl⟩⟩; (try first | exact ⟨rfl, _, World.drewN_drewN _ _ _⟩ | exact ⟨rfl, _, Eq.trans (World.drewN_drewN _ _ _) (congrArg (World.drewN _) (Nat.add_assoc _ _ _))⟩)) | (go_at_call 18; (with_reducible refine (cayleyref01_Letter.calls kj31 (Go.bits .xor .i64 ((rd_T78 l1 x5_1).f1) 1) t106 _ A46.out).mono ?_); rintro e w' ⟨rfl, ⟨nd, rfl⟩⟩; (try first | exact ⟨rfl, _, World.drewN_drewN _ _ _⟩ | exact ⟨rfl, _, Eq.trans (World.drewN_drewN _ _ _) (congrArg (World.drewN _) (Nat.add_assoc _ _ _))⟩)))
                            repeat (go_quiet (first | (go_at_call 18; (with_reducible refine (cayleyref01_Letter.calls kj31 ((rd_T78 l1 x5_1).f1) t105 _ A44.out).mono ?_); rintro e w' ⟨rfl, ⟨nd, rfl⟩⟩; (try first | exact ⟨rfl, _, World.drewN_drewN _ _ _⟩ | exact ⟨rfl, _, Eq.trans (World.drewN_drewN _ _ _) (congrArg (World.drewN _) (Nat.add_assoc _ _ _))⟩)) | (go_at_call 18; (with_reducible refine (cayleyref01_Letter.calls kj31 (Go.bits .xor .i64 ((rd_T78 l1 x5_1).f1) 1) t106 _ A46.out).mono ?_); rintro e w' ⟨rfl, ⟨nd, rfl⟩⟩; (try first | exact ⟨rfl, _, World.drewN_drewN _ _ _⟩ | exact ⟨rfl, _, Eq.trans (World.drewN_drewN _ _ _) (congrArg (World.drewN _) (Nat.add_assoc _ _ _))⟩))); try go_wp2_with (first | (go_at_call 18; (with_reducible refine (cayleyref01_Letter.calls kj31 ((rd_T78 l1 x5_1).f1) t105 _ A44.out).mono ?_); rintro e w' ⟨rfl, ⟨nd, rfl⟩⟩; (try first | exact ⟨rfl, _, World.drewN_drewN _ _ _⟩ | exact ⟨rfl, _, Eq.trans (World.drewN_drewN _ _ _) (congrArg (World.drewN _) (Nat.add_assoc _ _ _))⟩)) | (go_at_call 18; (with_reducible refine (cayleyref01_Letter.calls kj31 (Go.bits .xor .i64 ((rd_T78 l1 x5_1).f1) 1) t106 _ A46.out).mono ?_); rintro e w' ⟨rfl, ⟨nd, rfl⟩⟩; (try first | exact ⟨rfl, _, World.drewN_drewN _ _ _⟩ | exact ⟨rfl, _, Eq.trans (World.drewN_drewN _ _ _) (congrArg (World.drewN _) (Nat.add_assoc _ _ _))⟩))))
                            go_roundg kj31
                            case measure => have := HK1.out; have := HJ31.out; omega
                            case rel => exact ⟨((((x0_1.extract 0 (((rd_T78 l1 x5_1).f0) : Int).toNat) ++ (Utf8.encode t105)) ++ (Utf8.encode t106)) ++ (x0_1.extract (((rd_T78 l1 x5_1).f0) : Int).toNat x0_1.size)), (wrap64 (x5_1 + 1)), (by first | rfl | (simp; done) | (simp [*]; done) | (simp; exact (fun (a b : Bool) => (by cases a <;> cases b <;> rfl : (a == b) = ((!a) != b))) _ _)), (by first | rfl | (simp; done) | (simp [*]; done) | (simp; exact (fun (a b : Bool) => (by cases a <;> cases b <;> rfl : (a == b) = ((!a) != b))) _ _)), H', ⟨by have := HK1.out; have := HJ31.out; omega⟩, ⟨by repeat (first | (with_reducible first | exact HB.out | apply below_alloc | apply pw_below_drewN | apply below_drew1 | refine below_set ?_ GE102.out) | exact HB.out)⟩⟩
                          · rw [if_neg c50] at H
                            exact absurd H (by simp)
                        · rw [if_neg c47] at H
                          exact absurd H (by simp)
                      · rw [if_neg c45] at H
                        exact absurd H (by simp)
                    · rw [if_neg c43] at H
                      exact absurd H (by simp)
                  · rw [if_neg c42] at H
                    exact absurd H (by simp)
                · replace c41 := Bool.eq_false_iff.mpr c41
                  subst c41
                  have H1 : (cayleylaw01_Edited.l0 kj31 x0_1 l1 (wrap64 (x5_1 + 1))) = some r := by rw [if_neg (show ¬ (false = true) by decide)] at H; exact H
                  clear H
                  have H := H1
                  clear H1
                  have H' := Aside0.mk H
                  clear H
                  go_wp2
                  repeat (go_quiet (fail); try go_wp2)
                  go_roundg kj31
                  case measure => have := HK1.out; have := HJ31.out; omega
                  case rel => exact ⟨(x0_1), (wrap64 (x5_1 + 1)), (by first | rfl | (simp; done) | (simp [*]; done) | (simp; exact (fun (a b : Bool) => (by cases a <;> cases b <;> rfl : (a == b) = ((!a) != b))) _ _)), (by first | rfl | (simp; done) | (simp [*]; done) | (simp; exact (fun (a b : Bool) => (by cases a <;> cases b <;> rfl : (a == b) = ((!a) != b))) _ _)), H', ⟨by have := HK1.out; have := HJ31.out; omega⟩, ⟨by repeat (first | (with_reducible first | exact HB.out | apply below_alloc | apply pw_below_drewN | apply below_drew1 | refine below_set ?_ GE102.out) | exact HB.out)⟩⟩
        · rw [if_neg c4] at H
          exact absurd H (by simp)
      · rw [if_neg c3] at H
        have c3b0 : decide (x5_1 < (l1.length : Int)) = false := decide_eq_false c3
        clear c3
        obtain rfl := Option.some.inj H
        go_wp2
        repeat (go_quiet (fail); try go_wp2)
        go_ret
        exact ⟨by first | rfl | (simp [errW_none, errW_some] <;> rfl) | (simp [*, errW_none, errW_some] <;> rfl), by repeat (first | (with_reducible first | exact HB.out | apply below_alloc | apply pw_below_drewN | apply below_drew1) | exact HB.out)⟩

end Go.Proofs.YthiehmogphknlaaGreatDoor.PU
