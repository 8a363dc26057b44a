/- word.least: the walk, round by round, as a plain function of the same rounds. -/
import Derived.Test.YthiehmogphknlaaGreatDoorG
import Derived.Deep.LoopGhost
import Derived.Deep.QuietTactic
import Derived.BigQuiet
import Derived.Lib.Hide
namespace Go.Proofs.YthiehmogphknlaaGreatDoor.G
open Go.RowKit Go.Proofs.YthiehmogphknlaaGreatDoorW.PrintWords
theorem idx_le' (c : Int) : -1 ≤ idx c ∧ idx c ≤ 15 := by
  unfold idx
  split
  · omega
  · split <;> omega
/-- The index of the letter at a place. -/
def ltr (s : ByteArray) (p : Nat) : Int := idx (bt s p)
def leastL : Nat → ByteArray → Nat → Nat → Nat → Option Int
  | 0, _, _, _, _ => none
  | g + 1, s, i, j, k =>
    if i < s.size ∧ j < s.size ∧ k < s.size then
      if ltr s ((i + k) % s.size) = ltr s ((j + k) % s.size) then leastL g s i j (k + 1)
      else if ltr s ((j + k) % s.size) < ltr s ((i + k) % s.size) then (if i + k + 1 = j then leastL g s (i + k + 1) (j + 1) 0 else leastL g s (i + k + 1) j 0)
      else (if i = j + k + 1 then leastL g s i (j + k + 1 + 1) 0 else leastL g s i (j + k + 1) 0)
    else some (if i < j then i else j)
theorem leastL_mono : ∀ g s i j k, LeO (leastL g s i j k) (leastL (g + 1) s i j k)
  | 0, _, _, _, _ => fun r h => by simp [leastL] at h
  | g + 1, s, i, j, k => by
    rw [leastL, leastL]
    repeat' first
      | exact LeO.refl _
      | exact leastL_mono g _ _ _ _
      | refine LeO.ite ?_ ?_
def word_least.f (k : Nat) (a0 : ByteArray) : Option Int := if a0.size ≤ 140737488355328 then leastL k a0 0 1 0 else none
theorem word_least.mono : ∀ a0 k, LeO (word_least.f k a0) (word_least.f (k + 1) a0) := fun a0 k => by
  unfold word_least.f
  exact LeO.ite (leastL_mono _ _ _ _ _) (LeO.refl _)
theorem mod_nat (a n : Nat) (_h : 0 < n) : ((a : Nat) : Int).tmod n = ((a % n : Nat) : Int) := by
  rw [Int.tmod_eq_emod_of_nonneg (by omega)]; omega
theorem quiet_add_same {P : Program} {f : FuncId} {args : Array Value} {w : World} {a n : Nat} {v : Value}
    (h : Calls P f args (w.drewN (a + n)) fun e w' => e = .returned v ∧ w' = w.drewN (a + n)) :
    Calls P f args (w.drewN (a + n)) fun e w'' => e = .returned v ∧ ∃ m, w'' = w.drewN (a + m) :=
  h.mono fun _ _ ⟨he, hm⟩ => ⟨he, n, hm⟩
set_option linter.unusedVariables false in
set_option maxHeartbeats 8000000 in
set_option maxRecDepth 100000 in
theorem word_least.calls (k : Nat) (a0 : ByteArray) (r : Int) (w : World) (h : word_least.f k a0 = some r) (hG : GL w) :
    Calls Tryz.prog 69 #[.string a0] w fun e w' => e = .returned (.int .i64 r) ∧ Drawn0 w w' := by
  unfold word_least.f at h
  split at h
  case isFalse => cases h
  rename_i hsz
  have H := Aside0.mk h
  clear h
  go_enter Tryz.func69, Tryz.ntmps69
  go_wp2
  go_loopg [3, 4, 5] k (fun g v3 v4 v5 wr => ∃ i j q m : Nat, v3 = .int .i64 i ∧ v4 = .int .i64 j ∧ v5 = .int .i64 q ∧ wr = w.drewN m ∧ i ≤ 2 * a0.size ∧ j ≤ 2 * a0.size + 1 ∧ q ≤ a0.size ∧ Aside0 (leastL g a0 i j q = some r))
  case atStart => exact ⟨0, 1, 0, 0, rfl, rfl, rfl, rfl, by omega, by omega, by omega, H⟩
  case round =>
    obtain ⟨i, j, q, m, rfl, rfl, rfl, rfl, hi, hj, hq, HL⟩ := hrel
    clear H
    cases gk with
    | zero => exact absurd HL.out (by simp [leastL])
    | succ g =>
      have hl := HL.out
      clear HL
      rw [leastL] at hl
      have hn : 0 ≤ (a0.size : Int) := by omega
      by_cases hc : i < a0.size ∧ j < a0.size ∧ q < a0.size
      · rw [if_pos hc] at hl
        obtain ⟨h1, h2, h3⟩ := hc
        have e1 : IntKind.i64.wrap ((i : Int) + (q : Int)) = (i : Int) + q := IntWalk.i64_in _ (by omega)
        have e2 : IntKind.i64.wrap ((j : Int) + (q : Int)) = (j : Int) + q := IntWalk.i64_in _ (by omega)
        obtain ⟨p1, hp1⟩ : ∃ p, (i + q) % a0.size = p := ⟨_, rfl⟩
        obtain ⟨p2, hp2⟩ : ∃ p, (j + q) % a0.size = p := ⟨_, rfl⟩
        rw [hp1, hp2] at hl
        have m1 : ((i : Int) + q).tmod a0.size = (p1 : Int) := by rw [← hp1, ← mod_nat _ _ (by omega)]; rfl
        have m2 : ((j : Int) + q).tmod a0.size = (p2 : Int) := by rw [← hp2, ← mod_nat _ _ (by omega)]; rfl
        have l1 : p1 < a0.size := hp1 ▸ Nat.mod_lt _ (by omega)
        have l2 : p2 < a0.size := hp2 ▸ Nat.mod_lt _ (by omega)
        clear hp1 hp2
        have b1 := bt_range a0 p1
        have b2 := bt_range a0 p2
        unfold ltr at hl
        obtain ⟨c1, hc1⟩ : ∃ c, bt a0 p1 = c := ⟨_, rfl⟩
        obtain ⟨c2, hc2⟩ : ∃ c, bt a0 p2 = c := ⟨_, rfl⟩
        have x1 : ∀ h : p1 < a0.size, ((a0[p1]'h).toNat : Int) = c1 := fun h => hc1 ▸ bt_at a0 p1 h
        have x2 : ∀ h : p2 < a0.size, ((a0[p2]'h).toNat : Int) = c2 := fun h => hc2 ▸ bt_at a0 p2 h
        rw [hc1] at hl b1
        rw [hc2] at hl b2
        clear hc1 hc2
        have C1 := Lib.hid (fun W hW => index_any c1 b1.1 b1.2 W hW)
        have C2 := Lib.hid (fun W hW => index_any c2 b2.1 b2.2 W hW)
        have z1 := idx_le' c1
        have z2 := idx_le' c2
        obtain ⟨y1, hy1⟩ : ∃ y, idx c1 = y := ⟨_, rfl⟩
        obtain ⟨y2, hy2⟩ : ∃ y, idx c2 = y := ⟨_, rfl⟩
        rw [hy1] at hl C1 z1
        rw [hy2] at hl C2 z2
        clear hy1 hy2 b1 b2
        have n0 : ((a0.size : Int) == 0) = false := by rw [beq_eq_false_iff_ne]; omega
        have k1 : 0 ≤ (p1 : Int) := by omega
        have k2 : 0 ≤ (p2 : Int) := by omega
        have k3 : (p1 : Int) < (a0.size : Int) := by omega
        have k4 : (p2 : Int) < (a0.size : Int) := by omega
        have t1 : y1 = y2 ∨ y2 < y1 ∨ y1 < y2 := by omega
        rcases t1 with t1 | t1 | t1
        · rw [if_pos t1] at hl
          have d1 : (y1 == y2) = true := beq_iff_eq.mpr t1
          have HL := Aside0.mk hl
          clear hl t1
          go_wp2
          go_quiet ((go_at_call 15; first | (with_reducible exact quiet_add_same (C1.out _ (hG.drawn ⟨⟨_, rfl⟩⟩))) | (with_reducible exact quiet_add_same (C2.out _ (hG.drawn ⟨⟨_, rfl⟩⟩)))))
          go_wp2
          go_roundg g
          case measure => omega
          case rel => exact ⟨i, j, q + 1, _, rfl, rfl, by go_num, rfl, hi, hj, by omega, HL⟩
        · have t2 : ¬ y1 = y2 := by omega
          rw [if_neg t2, if_pos t1] at hl
          have d1 : (y1 == y2) = false := beq_eq_false_iff_ne.mpr t2
          have d2 : decide (y2 < y1) = true := decide_eq_true t1
          clear t1 t2
          by_cases t3 : i + q + 1 = j
          · rw [if_pos t3] at hl
            have HL := Aside0.mk hl
            have d3 : (((i : Int) + ((q : Int) + 1)) == (j : Int)) = true := by rw [beq_iff_eq]; omega
            have T3 := Aside0.mk t3
            clear hl t3
            go_wp2
            go_quiet ((go_at_call 15; first | (with_reducible exact quiet_add_same (C1.out _ (hG.drawn ⟨⟨_, rfl⟩⟩))) | (with_reducible exact quiet_add_same (C2.out _ (hG.drawn ⟨⟨_, rfl⟩⟩)))))
            go_wp2
            go_roundg g
            case measure => omega
            case rel => exact ⟨i + q + 1, j + 1, 0, _, by go_num, by go_num, rfl, rfl, by omega, by omega, by omega, HL⟩
          · rw [if_neg t3] at hl
            have HL := Aside0.mk hl
            have d3 : (((i : Int) + ((q : Int) + 1)) == (j : Int)) = false := by rw [beq_eq_false_iff_ne]; omega
            clear hl t3
            go_wp2
            go_quiet ((go_at_call 15; first | (with_reducible exact quiet_add_same (C1.out _ (hG.drawn ⟨⟨_, rfl⟩⟩))) | (with_reducible exact quiet_add_same (C2.out _ (hG.drawn ⟨⟨_, rfl⟩⟩)))))
            go_wp2
            go_roundg g
            case measure => omega
            case rel => exact ⟨i + q + 1, j, 0, _, by go_num, rfl, rfl, rfl, by omega, by omega, by omega, HL⟩
        · have t2 : ¬ y1 = y2 := by omega
          have t4 : ¬ y2 < y1 := by omega
          rw [if_neg t2, if_neg t4] at hl
          have d1 : (y1 == y2) = false := beq_eq_false_iff_ne.mpr t2
          have d2 : decide (y2 < y1) = false := decide_eq_false t4
          clear t1 t2 t4
          by_cases t3 : i = j + q + 1
          · rw [if_pos t3] at hl
            have HL := Aside0.mk hl
            have d3 : ((i : Int) == ((j : Int) + ((q : Int) + 1))) = true := by rw [beq_iff_eq]; omega
            have T3 := Aside0.mk t3
            clear hl t3
            go_wp2
            go_quiet ((go_at_call 15; first | (with_reducible exact quiet_add_same (C1.out _ (hG.drawn ⟨⟨_, rfl⟩⟩))) | (with_reducible exact quiet_add_same (C2.out _ (hG.drawn ⟨⟨_, rfl⟩⟩)))))
            go_wp2
            go_roundg g
            case measure => omega
            case rel => exact ⟨i, j + q + 1 + 1, 0, _, rfl, by go_num, rfl, rfl, by omega, by omega, by omega, HL⟩
          · rw [if_neg t3] at hl
            have HL := Aside0.mk hl
            have d3 : ((i : Int) == ((j : Int) + ((q : Int) + 1))) = false := by rw [beq_eq_false_iff_ne]; omega
            clear hl t3
            go_wp2
            go_quiet ((go_at_call 15; first | (with_reducible exact quiet_add_same (C1.out _ (hG.drawn ⟨⟨_, rfl⟩⟩))) | (with_reducible exact quiet_add_same (C2.out _ (hG.drawn ⟨⟨_, rfl⟩⟩)))))
            go_wp2
            go_roundg g
            case measure => omega
            case rel => exact ⟨i, j + q + 1, 0, _, rfl, by go_num, rfl, rfl, by omega, by omega, by omega, HL⟩
      · rw [if_neg hc] at hl
        have hl := Option.some.inj hl
        have e4 : i < j ∨ ¬ i < j := by omega
        have e : r = if i < j then (i : Int) else (j : Int) := hl.symm
        clear hl
        rcases e4 with h4 | h4
        · rw [if_pos h4] at e
          have E := Aside0.mk e
          clear e
          have d4 : ¬ (j : Int) < (i : Int) := by omega
          have d5 : (i : Int) < (j : Int) := by omega
          by_cases h1 : i < a0.size
          · by_cases h2 : j < a0.size
            · have h3 : ¬ q < a0.size := fun h => hc ⟨h1, h2, h⟩
              clear hc
              go_wp2
              go_ret
              exact ⟨by rw [E.out]; rfl, ⟨⟨_, rfl⟩⟩⟩
            · clear hc
              go_wp2
              go_ret
              exact ⟨by rw [E.out]; rfl, ⟨⟨_, rfl⟩⟩⟩
          · clear hc
            go_wp2
            go_ret
            exact ⟨by rw [E.out]; rfl, ⟨⟨_, rfl⟩⟩⟩
        · rw [if_neg h4] at e
          have E := Aside0.mk e
          clear e
          have d5 : ¬ (i : Int) < (j : Int) := by omega
          by_cases h6 : i = j
          · subst h6
            by_cases h1 : i < a0.size
            · have h3 : ¬ q < a0.size := fun h => hc ⟨h1, h1, h⟩
              clear hc
              go_wp2
              go_ret
              exact ⟨by rw [E.out]; rfl, ⟨⟨_, rfl⟩⟩⟩
            · clear hc
              go_wp2
              go_ret
              exact ⟨by rw [E.out]; rfl, ⟨⟨_, rfl⟩⟩⟩
          · have d4 : (j : Int) < (i : Int) := by omega
            clear h6
            by_cases h1 : i < a0.size
            · have h2 : j < a0.size := by omega
              have h3 : ¬ q < a0.size := fun h => hc ⟨h1, h2, h⟩
              clear hc
              go_wp2
              go_ret
              exact ⟨by rw [E.out]; rfl, ⟨⟨_, rfl⟩⟩⟩
            · clear hc
              go_wp2
              go_ret
              exact ⟨by rw [E.out]; rfl, ⟨⟨_, rfl⟩⟩⟩
end Go.Proofs.YthiehmogphknlaaGreatDoor.G
