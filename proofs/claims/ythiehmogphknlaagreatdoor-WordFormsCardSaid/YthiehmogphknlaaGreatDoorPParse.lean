/- cayleyref01.Parse, by its own text. -/
import Derived.Test.YthiehmogphknlaaGreatDoorPFactor
import Derived.Test.YthiehmogphknlaaGreatDoorPKnot
namespace Go.Proofs.YthiehmogphknlaaGreatDoor.PQ
open Go.RowKit Go.Proofs.YthiehmogphknlaaGreatDoor.G Go.Proofs.YthiehmogphknlaaGreatDoor.PA Go.Proofs.YthiehmogphknlaaGreatDoor.PT Go.Proofs.YthiehmogphknlaaGreatDoor.PV Go.Proofs.YthiehmogphknlaaGreatDoorW.PrintWords Go.Proofs.YthiehmogphknlaaGreatDoorW.PrintMore
theorem pS_calls : ∀ (n : Nat) (k : Nat) (g : Nat) (s0_0 : ByteArray) (s0_1 : Int) (s0_2 : Int) (s0_3 : Bool) (s0_4 : Bool) (a1 : Int) (r1 : ByteArray) (r2 : ByteArray) (r3 : Int) (r4 : Int) (r5 : Bool) (r6 : Bool) (w0 w : World), IsS68 w0 w g s0_0 s0_1 s0_2 s0_3 s0_4 → Below w0.heap.size w0 w → pS n k s0_0 s0_1 s0_2 s0_3 s0_4 a1 = some (r1, r2, r3, r4, r5, r6) →
    Calls Tryz.prog 58 #[.pointer (some ⟨g, 0, none⟩), .int .i64 a1] w fun e w' => e = .returned (.string r1) ∧ IsS68 w0 w' g r2 r3 r4 r5 r6 ∧ Below w0.heap.size w0 w' ∧ KeepBut w w' g none := by
  intro n
  induction n with
  | zero => intro k g s0_0 s0_1 s0_2 s0_3 s0_4 a1 r1 r2 r3 r4 r5 r6 w0 w _ _ h; cases h
  | succ n ih =>
    intro k g s0_0 s0_1 s0_2 s0_3 s0_4 a1 r1 r2 r3 r4 r5 r6 w0 w hI hB h
    exact cayleyref01_Parser_sum.calls _ (cayleyref01_Parser_factor.calls _ (cayleyref01_Parser_base.calls _ ih)) k g s0_0 s0_1 s0_2 s0_3 s0_4 a1 r1 r2 r3 r4 r5 r6 w0 w hI hB h
def cayleyref01_Parse.f (k : Nat) (a0 : Int) (a1 : ByteArray) : Option (ByteArray × Int) := parseR k a0 a1
set_option maxHeartbeats 4000000 in
set_option maxRecDepth 100000 in
theorem cayleyref01_Parse.calls (k : Nat) (a0 : Int) (a1 : ByteArray) (r1 : ByteArray) (r2 : Int) (w : World) (h : cayleyref01_Parse.f k a0 a1 = some (r1, r2)) :
    Calls Tryz.prog 38 #[.int .i64 a0, .string a1] w fun e w' => e = .returned (.tuple #[.string r1, .int .i64 r2]) ∧ Below w.heap.size w w' := by
  unfold cayleyref01_Parse.f parseR at h
  by_cases hk : a0 < 1 ∨ 8 < a0
  · rw [if_pos hk] at h
    simp only [Option.some.injEq, Prod.mk.injEq] at h
    obtain ⟨rfl, rfl⟩ := h
    have hd : decide (a0 < 1) = true ∨ (decide (a0 < 1) = false ∧ decide (8 < a0) = true) := by
      by_cases a : a0 < 1
      · exact .inl (decide_eq_true a)
      · exact .inr ⟨decide_eq_false a, decide_eq_true (hk.resolve_left a)⟩
    clear hk
    rcases hd with g1 | ⟨g1, g2⟩
    · go_enter Tryz.func38, Tryz.ntmps38
      go_wp2
      go_ret2
      exact ⟨rfl, Below.refl _ _⟩
    · go_enter Tryz.func38, Tryz.ntmps38
      go_wp2
      go_ret2
      exact ⟨rfl, Below.refl _ _⟩
  · rw [if_neg hk] at h
    have g1 : decide (a0 < 1) = false := decide_eq_false (fun x => hk (.inl x))
    have g2 : decide (8 < a0) = false := decide_eq_false (fun x => hk (.inr x))
    clear hk
    obtain ⟨⟨v, S, At, K, Lo, Ba⟩, hS, h⟩ := Option.bind_eq_some_iff.mp h
    dsimp only at h
    obtain ⟨⟨c, S1, At1, K1, Lo1, Ba1⟩, hn, h⟩ := Option.bind_eq_some_iff.mp h
    dsimp only at h
    have NX := Lib.hid (fun (W0 W : World) (hi : IsS68 w W0 w.heap.size S At K Lo Ba) (hb : Below w.heap.size w W0) => cayleyref01_Parser_next.calls k w.heap.size S At K Lo Ba c S1 At1 K1 Lo1 Ba1 w W0 hi hb hn)
    clear hn
    obtain ⟨z, z2⟩ : ∃ z : Bool, decide (100000 < a1.size) = z := ⟨_, rfl⟩
    have z1 : decide (100000 < (a1.size : Int)) = z := (decide_eq_decide.2 (by omega)).trans z2
    rw [z2] at hS
    have SM := Lib.hid (pS_calls (a1.size + 2) k w.heap.size a1 0 a0 z false 0 v S At K Lo Ba w _ (IsS68.new w w a1 0 a0 z false (Below.refl _ _)) (below_alloc (Below.refl _ _) _) hS)
    clear hS
    cases z
    all_goals
      by_cases hb : Ba1 = true ∨ At1 < (S1.size : Int)
      · rw [if_pos hb] at h
        simp only [Option.some.injEq, Prod.mk.injEq] at h
        obtain ⟨rfl, rfl⟩ := h
        have hd : Ba1 = true ∨ (Ba1 = false ∧ decide (At1 < (S1.size : Int)) = true) := by
          cases Ba1 with
          | true => exact .inl rfl
          | false => exact .inr ⟨rfl, decide_eq_true (hb.resolve_left (by simp))⟩
        clear hb
        rcases hd with rfl | ⟨rfl, y1⟩ <;> (
          go_enter Tryz.func38, Tryz.ntmps38
          go_wp2_with (first
            | (go_at_call 58; refine SM.out.mono ?_; rintro e w1 ⟨rfl, hi, hb, hk⟩; have HI := Aside0.mk hi; have HB := Aside0.mk hb; clear hi hb hk)
            | (go_at_call 59; refine (NX.out _ w HI.out HB.out).mono ?_; rintro e w2 ⟨rfl, hi, hb, hk⟩; have c0 := cellS68_0 hi.1; have c1 := cellS68_1 hi.1; have c3 := cellS68_3 hi.1; have c4 := cellS68_4 hi.1; have HB2 := Aside0.mk hb; clear hi hb hk))
          go_quiet (fail)
          go_wp2_with fail
          go_ret2
          exact ⟨rfl, pw_below_drewN HB2.out _⟩)
      · rw [if_neg hb] at h
        have y0 : Ba1 = false := Bool.eq_false_iff.2 (fun x => hb (.inl x))
        have y1 : decide (At1 < (S1.size : Int)) = false := decide_eq_false (fun x => hb (.inr x))
        subst y0
        clear hb
        cases Lo1 with
        | true =>
          rw [if_pos rfl] at h
          simp only [Option.some.injEq, Prod.mk.injEq] at h
          obtain ⟨rfl, rfl⟩ := h
          go_enter Tryz.func38, Tryz.ntmps38
          go_wp2_with (first
            | (go_at_call 58; refine SM.out.mono ?_; rintro e w1 ⟨rfl, hi, hb, hk⟩; have HI := Aside0.mk hi; have HB := Aside0.mk hb; clear hi hb hk)
            | (go_at_call 59; refine (NX.out _ w HI.out HB.out).mono ?_; rintro e w2 ⟨rfl, hi, hb, hk⟩; have c0 := cellS68_0 hi.1; have c1 := cellS68_1 hi.1; have c3 := cellS68_3 hi.1; have c4 := cellS68_4 hi.1; have HB2 := Aside0.mk hb; clear hi hb hk))
          go_quiet (fail)
          go_wp2_with fail
          go_ret2
          exact ⟨rfl, pw_below_drewN HB2.out _⟩
        | false =>
          rw [if_neg (by simp)] at h
          simp only [Option.some.injEq, Prod.mk.injEq] at h
          obtain ⟨rfl, rfl⟩ := h
          go_enter Tryz.func38, Tryz.ntmps38
          go_wp2_with (first
            | (go_at_call 58; refine SM.out.mono ?_; rintro e w1 ⟨rfl, hi, hb, hk⟩; have HI := Aside0.mk hi; have HB := Aside0.mk hb; clear hi hb hk)
            | (go_at_call 59; refine (NX.out _ w HI.out HB.out).mono ?_; rintro e w2 ⟨rfl, hi, hb, hk⟩; have c0 := cellS68_0 hi.1; have c1 := cellS68_1 hi.1; have c3 := cellS68_3 hi.1; have c4 := cellS68_4 hi.1; have HB2 := Aside0.mk hb; clear hi hb hk))
          go_quiet (fail)
          go_wp2_with fail
          go_ret2
          exact ⟨rfl, pw_below_drewN HB2.out _⟩
end Go.Proofs.YthiehmogphknlaaGreatDoor.PQ
