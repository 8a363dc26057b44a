/- cayleylaw01.sane: its calls at constants, by the kernel; the walk. -/
import Derived.Test.YthiehmogphknlaaGreatDoorPAx0
import Derived.Test.YthiehmogphknlaaGreatDoorPAx1
import Derived.Test.YthiehmogphknlaaGreatDoorPAx2
import Derived.Test.YthiehmogphknlaaGreatDoorPAx3
import Derived.Test.YthiehmogphknlaaGreatDoorPAx4
import Derived.Test.YthiehmogphknlaaGreatDoorPAx5
import Derived.Test.YthiehmogphknlaaGreatDoorConj3
namespace Go.Proofs.YthiehmogphknlaaGreatDoor.Sane
open Go.RowKit Go.Proofs.YthiehmogphknlaaGreatDoor.G Go.Proofs.YthiehmogphknlaaGreatDoor.PA Go.Proofs.YthiehmogphknlaaGreatDoorW.PrintWords Go.Proofs.YthiehmogphknlaaGreatDoor.Free Go.Proofs.YthiehmogphknlaaGreatDoor.Pure1
theorem drawn_below {w w1 : World} (h : Drawn0 w w1) : Below w.heap.size w w1 := by
  obtain ⟨n, rfl⟩ := h
  exact ⟨rfl, rfl, rfl, Nat.le_refl _, fun _ _ => rfl⟩
theorem v0 : word_Cyclic.f 20 ⟨#[97, 98, 97, 66, 65]⟩ = some (⟨#[97]⟩, ⟨#[97, 98]⟩) := by kernel_rfl
theorem c0 (W : World) (hG : GL W) : Calls Tryz.prog 29 #[.string ⟨#[97, 98, 97, 66, 65]⟩] W fun e w1 => e = .returned (.tuple #[.string ⟨#[97]⟩, .string ⟨#[97, 98]⟩]) ∧ Below W.heap.size W w1 :=
  (word_Cyclic.calls 20 _ _ _ W v0 hG).mono fun _ _ h => ⟨h.1, by first | exact h.2 | exact drawn_below h.2 | (rw [h.2]; exact Below.refl _ _) | exact Below.refl _ _⟩
theorem v1 : word_Root.f 20 ⟨#[98, 97, 97, 66]⟩ = some (⟨#[98, 97, 66]⟩, 2) := by kernel_rfl
theorem c1 (W : World) (hG : GL W) : Calls Tryz.prog 30 #[.string ⟨#[98, 97, 97, 66]⟩] W fun e w1 => e = .returned (.tuple #[.string ⟨#[98, 97, 66]⟩, .int .i64 2]) ∧ Below W.heap.size W w1 :=
  (word_Root.calls 20 _ _ _ W v1 hG).mono fun _ _ h => ⟨h.1, by first | exact h.2 | exact drawn_below h.2 | (rw [h.2]; exact Below.refl _ _) | exact Below.refl _ _⟩
theorem v2 : word_Root.f 20 ⟨#[97, 98, 97, 98]⟩ = some (⟨#[97, 98]⟩, 2) := by kernel_rfl
theorem c2 (W : World) (hG : GL W) : Calls Tryz.prog 30 #[.string ⟨#[97, 98, 97, 98]⟩] W fun e w1 => e = .returned (.tuple #[.string ⟨#[97, 98]⟩, .int .i64 2]) ∧ Below W.heap.size W w1 :=
  (word_Root.calls 20 _ _ _ W v2 hG).mono fun _ _ h => ⟨h.1, by first | exact h.2 | exact drawn_below h.2 | (rw [h.2]; exact Below.refl _ _) | exact Below.refl _ _⟩
theorem v3 : word_Power.f 20 ⟨#[97, 66]⟩ (-2) = some (⟨#[98, 65, 98, 65]⟩, 0) := by kernel_rfl
theorem c3 (W : World) (hG : GL W) : Calls Tryz.prog 34 #[.string ⟨#[97, 66]⟩, .int .i64 (-2)] W fun e w1 => e = .returned (.tuple #[.string ⟨#[98, 65, 98, 65]⟩, .int .i64 0]) ∧ Below W.heap.size W w1 :=
  (word_Power.calls 20 _ _ _ _ W v3 hG).mono fun _ _ h => ⟨h.1, by first | exact h.2 | exact drawn_below h.2 | (rw [h.2]; exact Below.refl _ _) | exact Below.refl _ _⟩
theorem v4 : word_Conjugate.f ⟨#[97, 98]⟩ ⟨#[98, 97]⟩ = some (⟨#[66]⟩, true) := by kernel_rfl
theorem c4 (W : World) (hG : GL W) : Calls Tryz.prog 35 #[.string ⟨#[97, 98]⟩, .string ⟨#[98, 97]⟩] W fun e w1 => e = .returned (.tuple #[.string ⟨#[66]⟩, .bool true]) ∧ Below W.heap.size W w1 :=
  (word_Conjugate.calls _ _ _ _ W v4 hG).mono fun _ _ h => ⟨h.1, by first | exact h.2 | exact drawn_below h.2 | (rw [h.2]; exact Below.refl _ _) | exact Below.refl _ _⟩
theorem v5 : word_Conjugate.f ⟨#[97]⟩ ⟨#[65]⟩ = some (⟨#[]⟩, false) := by kernel_rfl
theorem c5 (W : World) (hG : GL W) : Calls Tryz.prog 35 #[.string ⟨#[97]⟩, .string ⟨#[65]⟩] W fun e w1 => e = .returned (.tuple #[.string ⟨#[]⟩, .bool false]) ∧ Below W.heap.size W w1 :=
  (word_Conjugate.calls _ _ _ _ W v5 hG).mono fun _ _ h => ⟨h.1, by first | exact h.2 | exact drawn_below h.2 | (rw [h.2]; exact Below.refl _ _) | exact Below.refl _ _⟩
theorem v6 : word_Parse.f 2 ⟨#[40, 97, 98, 41, 94, 50, 32, 91, 97, 44, 98, 93, 94, 45, 49, 32, 49]⟩ = some (⟨#[97, 98, 97, 98, 98, 97, 66, 65]⟩, 0) := by kernel_rfl
theorem c6 (W : World) (hG : GL W) : Calls Tryz.prog 39 #[.int .i64 2, .string ⟨#[40, 97, 98, 41, 94, 50, 32, 91, 97, 44, 98, 93, 94, 45, 49, 32, 49]⟩] W fun e w1 => e = .returned (.tuple #[.string ⟨#[97, 98, 97, 98, 98, 97, 66, 65]⟩, .int .i64 0]) ∧ Below W.heap.size W w1 :=
  (word_Parse.calls _ _ _ _ W v6 hG).mono fun _ _ h => ⟨h.1, by first | exact h.2 | exact drawn_below h.2 | (rw [h.2]; exact Below.refl _ _) | exact Below.refl _ _⟩
theorem v7 : word_Parse.f 2 ⟨#[91, 97, 44, 98, 93]⟩ = some (⟨#[97, 98, 65, 66]⟩, 0) := by kernel_rfl
theorem c7 (W : World) (hG : GL W) : Calls Tryz.prog 39 #[.int .i64 2, .string ⟨#[91, 97, 44, 98, 93]⟩] W fun e w1 => e = .returned (.tuple #[.string ⟨#[97, 98, 65, 66]⟩, .int .i64 0]) ∧ Below W.heap.size W w1 :=
  (word_Parse.calls _ _ _ _ W v7 hG).mono fun _ _ h => ⟨h.1, by first | exact h.2 | exact drawn_below h.2 | (rw [h.2]; exact Below.refl _ _) | exact Below.refl _ _⟩
theorem v8 : word_Parse.f 1 ⟨#[98]⟩ = some (⟨#[]⟩, 4) := by kernel_rfl
theorem c8 (W : World) (hG : GL W) : Calls Tryz.prog 39 #[.int .i64 1, .string ⟨#[98]⟩] W fun e w1 => e = .returned (.tuple #[.string ⟨#[]⟩, .int .i64 4]) ∧ Below W.heap.size W w1 :=
  (word_Parse.calls _ _ _ _ W v8 hG).mono fun _ _ h => ⟨h.1, by first | exact h.2 | exact drawn_below h.2 | (rw [h.2]; exact Below.refl _ _) | exact Below.refl _ _⟩
theorem v9 : word_Parse.f 2 ⟨#[97, 94]⟩ = some (⟨#[]⟩, 4) := by kernel_rfl
theorem c9 (W : World) (hG : GL W) : Calls Tryz.prog 39 #[.int .i64 2, .string ⟨#[97, 94]⟩] W fun e w1 => e = .returned (.tuple #[.string ⟨#[]⟩, .int .i64 4]) ∧ Below W.heap.size W w1 :=
  (word_Parse.calls _ _ _ _ W v9 hG).mono fun _ _ h => ⟨h.1, by first | exact h.2 | exact drawn_below h.2 | (rw [h.2]; exact Below.refl _ _) | exact Below.refl _ _⟩
theorem v10 : word_Parse.f 2 ⟨#[97, 94, 57, 57, 57, 57, 57, 57]⟩ = some (⟨#[]⟩, 2) := by kernel_rfl
theorem c10 (W : World) (hG : GL W) : Calls Tryz.prog 39 #[.int .i64 2, .string ⟨#[97, 94, 57, 57, 57, 57, 57, 57]⟩] W fun e w1 => e = .returned (.tuple #[.string ⟨#[]⟩, .int .i64 2]) ∧ Below W.heap.size W w1 :=
  (word_Parse.calls _ _ _ _ W v10 hG).mono fun _ _ h => ⟨h.1, by first | exact h.2 | exact drawn_below h.2 | (rw [h.2]; exact Below.refl _ _) | exact Below.refl _ _⟩
theorem v11 : word_Reduce.f 20 ⟨#[97, 98, 66, 65, 98]⟩ = some ⟨#[98]⟩ := by kernel_rfl
theorem c11 (W : World) (hG : GL W) : Calls Tryz.prog 21 #[.string ⟨#[97, 98, 66, 65, 98]⟩] W fun e w1 => e = .returned (.string ⟨#[98]⟩) ∧ Below W.heap.size W w1 :=
  (word_Reduce.calls 20 _ _ W v11 hG).mono fun _ _ h => ⟨h.1, by first | exact h.2 | exact drawn_below h.2 | (rw [h.2]; exact Below.refl _ _) | exact Below.refl _ _⟩
theorem v12 : word_Reduce.f 20 ⟨#[97, 65, 97]⟩ = some ⟨#[97]⟩ := by kernel_rfl
theorem c12 (W : World) (hG : GL W) : Calls Tryz.prog 21 #[.string ⟨#[97, 65, 97]⟩] W fun e w1 => e = .returned (.string ⟨#[97]⟩) ∧ Below W.heap.size W w1 :=
  (word_Reduce.calls 20 _ _ W v12 hG).mono fun _ _ h => ⟨h.1, by first | exact h.2 | exact drawn_below h.2 | (rw [h.2]; exact Below.refl _ _) | exact Below.refl _ _⟩
theorem v13 : word_Form.f 20 ⟨#[98, 97, 98]⟩ = some ⟨#[97, 98, 98]⟩ := by kernel_rfl
theorem c13 (W : World) (hG : GL W) : Calls Tryz.prog 31 #[.string ⟨#[98, 97, 98]⟩] W fun e w1 => e = .returned (.string ⟨#[97, 98, 98]⟩) ∧ Below W.heap.size W w1 :=
  (word_Form.calls 20 _ _ W v13 hG).mono fun _ _ h => ⟨h.1, by first | exact h.2 | exact drawn_below h.2 | (rw [h.2]; exact Below.refl _ _) | exact Below.refl _ _⟩
theorem v14 : word_Form.f 20 ⟨#[65, 98, 97]⟩ = some ⟨#[98]⟩ := by kernel_rfl
theorem c14 (W : World) (hG : GL W) : Calls Tryz.prog 31 #[.string ⟨#[65, 98, 97]⟩] W fun e w1 => e = .returned (.string ⟨#[98]⟩) ∧ Below W.heap.size W w1 :=
  (word_Form.calls 20 _ _ W v14 hG).mono fun _ _ h => ⟨h.1, by first | exact h.2 | exact drawn_below h.2 | (rw [h.2]; exact Below.refl _ _) | exact Below.refl _ _⟩
theorem v15 : cayleyref01_Inverse.f 20 ⟨#[66]⟩ = some ⟨#[98]⟩ := by kernel_rfl
theorem c15 (W : World) (_ : GL W) : Calls Tryz.prog 20 #[.string ⟨#[66]⟩] W fun e w1 => e = .returned (.string ⟨#[98]⟩) ∧ Below W.heap.size W w1 :=
  (cayleyref01_Inverse.calls 20 _ _ W v15).mono fun _ _ h => ⟨h.1, by first | exact h.2 | exact drawn_below h.2 | (rw [h.2]; exact Below.refl _ _) | exact Below.refl _ _⟩
theorem v16 : cayleyref01_Reduce.f 20 (⟨#[66]⟩ ++ ⟨#[98, 97]⟩ ++ ⟨#[98]⟩) = some ⟨#[97, 98]⟩ := by kernel_rfl
theorem c16 (W : World) (_ : GL W) : Calls Tryz.prog 22 #[.string (⟨#[66]⟩ ++ ⟨#[98, 97]⟩ ++ ⟨#[98]⟩)] W fun e w1 => e = .returned (.string ⟨#[97, 98]⟩) ∧ Below W.heap.size W w1 :=
  (cayleyref01_Reduce.calls 20 _ _ W v16).mono fun _ _ h => ⟨h.1, by first | exact h.2 | exact drawn_below h.2 | (rw [h.2]; exact Below.refl _ _) | exact Below.refl _ _⟩
theorem v17 : word_Compare.f 20 ⟨#[98]⟩ ⟨#[97, 97]⟩ = some (-1) := by kernel_rfl
theorem c17 (W : World) (hG : GL W) : Calls Tryz.prog 23 #[.string ⟨#[98]⟩, .string ⟨#[97, 97]⟩] W fun e w1 => e = .returned (.int .i64 (-1)) ∧ Below W.heap.size W w1 :=
  (word_Compare.calls 20 _ _ _ W v17 hG).mono fun _ _ h => ⟨h.1, by first | exact h.2 | exact drawn_below h.2 | (rw [h.2]; exact Below.refl _ _) | exact Below.refl _ _⟩
theorem v18 : word_Compare.f 20 ⟨#[65]⟩ ⟨#[98]⟩ = some (-1) := by kernel_rfl
theorem c18 (W : World) (hG : GL W) : Calls Tryz.prog 23 #[.string ⟨#[65]⟩, .string ⟨#[98]⟩] W fun e w1 => e = .returned (.int .i64 (-1)) ∧ Below W.heap.size W w1 :=
  (word_Compare.calls 20 _ _ _ W v18 hG).mono fun _ _ h => ⟨h.1, by first | exact h.2 | exact drawn_below h.2 | (rw [h.2]; exact Below.refl _ _) | exact Below.refl _ _⟩
theorem v19 : word_Text.f 20 ⟨#[97, 97, 66, 97]⟩ = some ⟨#[97, 94, 50, 32, 66, 32, 97]⟩ := by kernel_rfl
theorem c19 (W : World) (hG : GL W) : Calls Tryz.prog 25 #[.string ⟨#[97, 97, 66, 97]⟩] W fun e w1 => e = .returned (.string ⟨#[97, 94, 50, 32, 66, 32, 97]⟩) ∧ Below W.heap.size W w1 :=
  (word_Text.calls 20 _ _ W v19 hG).mono fun _ _ h => ⟨h.1, by first | exact h.2 | exact drawn_below h.2 | (rw [h.2]; exact Below.refl _ _) | exact Below.refl _ _⟩
theorem v20 : word_Inverse.f 20 ⟨#[97, 66]⟩ = some ⟨#[98, 65]⟩ := by kernel_rfl
theorem c20 (W : World) (hG : GL W) : Calls Tryz.prog 19 #[.string ⟨#[97, 66]⟩] W fun e w1 => e = .returned (.string ⟨#[98, 65]⟩) ∧ Below W.heap.size W w1 :=
  (word_Inverse.calls 20 _ _ W v20 hG).mono fun _ _ h => ⟨h.1, by first | exact h.2 | exact drawn_below h.2 | (rw [h.2]; exact Below.refl _ _) | exact Below.refl _ _⟩
theorem v21 : word_Index.f 66 = some 3 := by kernel_rfl
theorem c21 (W : World) (hG : GL W) : Calls Tryz.prog 15 #[.int .u8 66] W fun e w1 => e = .returned (.int .i64 3) ∧ Below W.heap.size W w1 :=
  (word_Index.calls _ _ W v21 hG).mono fun _ _ h => ⟨h.1, by first | exact h.2 | exact drawn_below h.2 | (rw [h.2]; exact Below.refl _ _) | exact Below.refl _ _⟩
theorem v22 : word_Letter.f 3 = some 66 := by kernel_rfl
theorem c22 (W : World) (hG : GL W) : Calls Tryz.prog 17 #[.int .i64 3] W fun e w1 => e = .returned (.int .u8 66) ∧ Below W.heap.size W w1 :=
  (word_Letter.calls _ _ W v22 hG).mono fun _ _ h => ⟨h.1, by first | exact h.2 | exact drawn_below h.2 | (rw [h.2]; exact Below.refl _ _) | exact Below.refl _ _⟩
theorem v23 : word_Check.f 2 ⟨#[97, 66]⟩ = some 0 := by kernel_rfl
theorem c23 (W : World) (hG : GL W) : Calls Tryz.prog 13 #[.int .i64 2, .string ⟨#[97, 66]⟩] W fun e w1 => e = .returned (.int .i64 0) ∧ Below W.heap.size W w1 :=
  (word_Check.calls _ _ _ W v23 hG).mono fun _ _ h => ⟨h.1, by first | exact h.2 | exact drawn_below h.2 | (rw [h.2]; exact Below.refl _ _) | exact Below.refl _ _⟩
set_option maxHeartbeats 4000000 in
set_option maxRecDepth 100000 in
theorem sane_true (w : World) (hG : GL w) : Calls Tryz.prog 11 #[] w fun e w1 => e = .returned (.bool true) ∧ Below w.heap.size w w1 := by
  have HB := Aside0.mk (Below.refl w.heap.size w)
  go_enter Tryz.func11, Tryz.ntmps11
  go_wp2_with (first
    | (go_at_call 29; with_reducible refine (c0 _ (hG.step HB.out)).mono ?_; rintro e w1 ⟨rfl, hb⟩; have HB := Aside0.mk (HB.out.trans (hb.mono HB.out.size)); clear hb)
    | (go_at_call 30; with_reducible refine (c1 _ (hG.step HB.out)).mono ?_; rintro e w1 ⟨rfl, hb⟩; have HB := Aside0.mk (HB.out.trans (hb.mono HB.out.size)); clear hb)
    | (go_at_call 30; with_reducible refine (c2 _ (hG.step HB.out)).mono ?_; rintro e w1 ⟨rfl, hb⟩; have HB := Aside0.mk (HB.out.trans (hb.mono HB.out.size)); clear hb)
    | (go_at_call 34; with_reducible refine (c3 _ (hG.step HB.out)).mono ?_; rintro e w1 ⟨rfl, hb⟩; have HB := Aside0.mk (HB.out.trans (hb.mono HB.out.size)); clear hb)
    | (go_at_call 35; with_reducible refine (c4 _ (hG.step HB.out)).mono ?_; rintro e w1 ⟨rfl, hb⟩; have HB := Aside0.mk (HB.out.trans (hb.mono HB.out.size)); clear hb)
    | (go_at_call 35; with_reducible refine (c5 _ (hG.step HB.out)).mono ?_; rintro e w1 ⟨rfl, hb⟩; have HB := Aside0.mk (HB.out.trans (hb.mono HB.out.size)); clear hb)
    | (go_at_call 39; with_reducible refine (c6 _ (hG.step HB.out)).mono ?_; rintro e w1 ⟨rfl, hb⟩; have HB := Aside0.mk (HB.out.trans (hb.mono HB.out.size)); clear hb)
    | (go_at_call 39; with_reducible refine (c7 _ (hG.step HB.out)).mono ?_; rintro e w1 ⟨rfl, hb⟩; have HB := Aside0.mk (HB.out.trans (hb.mono HB.out.size)); clear hb)
    | (go_at_call 39; with_reducible refine (c8 _ (hG.step HB.out)).mono ?_; rintro e w1 ⟨rfl, hb⟩; have HB := Aside0.mk (HB.out.trans (hb.mono HB.out.size)); clear hb)
    | (go_at_call 39; with_reducible refine (c9 _ (hG.step HB.out)).mono ?_; rintro e w1 ⟨rfl, hb⟩; have HB := Aside0.mk (HB.out.trans (hb.mono HB.out.size)); clear hb)
    | (go_at_call 39; with_reducible refine (c10 _ (hG.step HB.out)).mono ?_; rintro e w1 ⟨rfl, hb⟩; have HB := Aside0.mk (HB.out.trans (hb.mono HB.out.size)); clear hb)
    | (go_at_call 21; with_reducible refine (c11 _ (hG.step HB.out)).mono ?_; rintro e w1 ⟨rfl, hb⟩; have HB := Aside0.mk (HB.out.trans (hb.mono HB.out.size)); clear hb)
    | (go_at_call 21; with_reducible refine (c12 _ (hG.step HB.out)).mono ?_; rintro e w1 ⟨rfl, hb⟩; have HB := Aside0.mk (HB.out.trans (hb.mono HB.out.size)); clear hb)
    | (go_at_call 31; with_reducible refine (c13 _ (hG.step HB.out)).mono ?_; rintro e w1 ⟨rfl, hb⟩; have HB := Aside0.mk (HB.out.trans (hb.mono HB.out.size)); clear hb)
    | (go_at_call 31; with_reducible refine (c14 _ (hG.step HB.out)).mono ?_; rintro e w1 ⟨rfl, hb⟩; have HB := Aside0.mk (HB.out.trans (hb.mono HB.out.size)); clear hb)
    | (go_at_call 20; with_reducible refine (c15 _ (hG.step HB.out)).mono ?_; rintro e w1 ⟨rfl, hb⟩; have HB := Aside0.mk (HB.out.trans (hb.mono HB.out.size)); clear hb)
    | (go_at_call 22; with_reducible refine (c16 _ (hG.step HB.out)).mono ?_; rintro e w1 ⟨rfl, hb⟩; have HB := Aside0.mk (HB.out.trans (hb.mono HB.out.size)); clear hb)
    | (go_at_call 23; with_reducible refine (c17 _ (hG.step HB.out)).mono ?_; rintro e w1 ⟨rfl, hb⟩; have HB := Aside0.mk (HB.out.trans (hb.mono HB.out.size)); clear hb)
    | (go_at_call 23; with_reducible refine (c18 _ (hG.step HB.out)).mono ?_; rintro e w1 ⟨rfl, hb⟩; have HB := Aside0.mk (HB.out.trans (hb.mono HB.out.size)); clear hb)
    | (go_at_call 25; with_reducible refine (c19 _ (hG.step HB.out)).mono ?_; rintro e w1 ⟨rfl, hb⟩; have HB := Aside0.mk (HB.out.trans (hb.mono HB.out.size)); clear hb)
    | (go_at_call 19; with_reducible refine (c20 _ (hG.step HB.out)).mono ?_; rintro e w1 ⟨rfl, hb⟩; have HB := Aside0.mk (HB.out.trans (hb.mono HB.out.size)); clear hb)
    | (go_at_call 15; with_reducible refine (c21 _ (hG.step HB.out)).mono ?_; rintro e w1 ⟨rfl, hb⟩; have HB := Aside0.mk (HB.out.trans (hb.mono HB.out.size)); clear hb)
    | (go_at_call 17; with_reducible refine (c22 _ (hG.step HB.out)).mono ?_; rintro e w1 ⟨rfl, hb⟩; have HB := Aside0.mk (HB.out.trans (hb.mono HB.out.size)); clear hb)
    | (go_at_call 13; with_reducible refine (c23 _ (hG.step HB.out)).mono ?_; rintro e w1 ⟨rfl, hb⟩; have HB := Aside0.mk (HB.out.trans (hb.mono HB.out.size)); clear hb))
  go_ret
  exact ⟨rfl, HB.out⟩
end Go.Proofs.YthiehmogphknlaaGreatDoor.Sane
namespace Go.Proofs.YthiehmogphknlaaGreatDoor.G
open Go.RowKit
def cayleylaw01_sane.f : Option Bool := some true
theorem cayleylaw01_sane.calls (r : Bool) (w : World) (h : cayleylaw01_sane.f = some r) (hG : GL w) :
    Calls Tryz.prog 11 #[] w fun e w1 => e = .returned (.bool r) ∧ Below w.heap.size w w1 := by
  obtain rfl : true = r := Option.some.inj h
  exact Sane.sane_true w hG
end Go.Proofs.YthiehmogphknlaaGreatDoor.G
