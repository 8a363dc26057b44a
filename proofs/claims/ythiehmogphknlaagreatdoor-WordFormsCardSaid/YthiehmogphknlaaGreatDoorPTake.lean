/- The reference's parser: take, by its own text. -/
import Derived.Test.YthiehmogphknlaaGreatDoorPQx1
import Derived.Lib.Hide
import Derived.Deep.RegionWith
namespace Go.Proofs.YthiehmogphknlaaGreatDoor.PQ
open Go.RowKit Go.Proofs.YthiehmogphknlaaGreatDoor.G Go.Proofs.YthiehmogphknlaaGreatDoor.PA Go.Proofs.YthiehmogphknlaaGreatDoor.PT Go.Proofs.YthiehmogphknlaaGreatDoorW.PrintWords Go.Proofs.YthiehmogphknlaaGreatDoorW.PrintMore
def cayleyref01_Parser_take.f (k : Nat) (s0_0 : ByteArray) (s0_1 : Int) (s0_2 : Int) (s0_3 : Bool) (s0_4 : Bool) (a1 : Int) : Option (ByteArray × Int × Int × Bool × Bool) :=
  (cayleyref01_Parser_next.f k s0_0 s0_1 s0_2 s0_3 s0_4).bind fun b => if b.1 = a1 ∧ b.2.2.1 < (b.2.1.size : Int) then some (b.2.1, wrap64 (b.2.2.1 + 1), b.2.2.2.1, b.2.2.2.2.1, b.2.2.2.2.2) else some (b.2.1, b.2.2.1, b.2.2.2.1, b.2.2.2.2.1, true)
set_option maxHeartbeats 4000000 in
set_option maxRecDepth 100000 in
set_option linter.unusedSimpArgs false in
theorem cayleyref01_Parser_take.calls (k : Nat) (g : Nat) (s0_0 : ByteArray) (s0_1 : Int) (s0_2 : Int) (s0_3 : Bool) (s0_4 : Bool) (a1 : Int) (r1 : ByteArray) (r2 : Int) (r3 : Int) (r4 : Bool) (r5 : Bool) (w0 w : World) (hI : IsS68 w0 w g s0_0 s0_1 s0_2 s0_3 s0_4) (hB : Below w0.heap.size w0 w) (h : cayleyref01_Parser_take.f k s0_0 s0_1 s0_2 s0_3 s0_4 a1 = some (r1, r2, r3, r4, r5)) :
    Calls Tryz.prog 85 #[.pointer (some ⟨g, 0, none⟩), .int .u8 a1] w fun e w' => e = .returned (.tuple #[]) ∧ IsS68 w0 w' g r1 r2 r3 r4 r5 ∧ Below w0.heap.size w0 w' ∧ KeepBut w w' g none := by
  unfold cayleyref01_Parser_take.f at h
  obtain ⟨⟨c, S, At, K, Lo, Ba⟩, hn, h⟩ := Option.bind_eq_some_iff.mp h
  have T := Lib.hid (fun (W : World) (h1 : IsS68 w0 W g s0_0 s0_1 s0_2 s0_3 s0_4) (h2 : Below w0.heap.size w0 W) => cayleyref01_Parser_next.calls k g s0_0 s0_1 s0_2 s0_3 s0_4 c S At K Lo Ba w0 W h1 h2 hn)
  have HI := Aside0.mk hI
  have HB := Aside0.mk hB
  clear hn hI hB
  dsimp only at h
  by_cases h1 : c = a1
  · subst h1
    have d1 : (c != c) = false := by simp
    by_cases h2 : At < (S.size : Int)
    · rw [if_pos ⟨rfl, h2⟩] at h
      simp only [Option.some.injEq, Prod.mk.injEq] at h
      obtain ⟨rfl, rfl, rfl, rfl, rfl⟩ := h
      have d2 : decide (At ≥ (S.size : Int)) = false := decide_eq_false (by omega)
      have d3 : decide ((S.size : Int) ≤ At) = false := decide_eq_false (by omega)
      clear h2
      go_enter Tryz.func85, Tryz.ntmps85
      go_wp2_with fail
      go_region_with (go_at_call 59; (with_reducible refine (T.out _ ?s1 ?s2).mono ?_); (case s1 => repeat (first | exact HI.out | apply IsS68.drew | apply IsS68.drewN)); (case s2 => repeat (first | exact HB.out | apply below_drew1 | apply pw_below_drewN)); rintro e w' ⟨rfl, hi, hb, hk0⟩; have hk := KeepBut.trans (show KeepBut w w.drew g none from keep_drew (KeepBut.refl w g none)) hk0 (.inl rfl); have c0 := cellS68_0 hi.1; have c1 := cellS68_1 hi.1; have c4 := cellS68_4 hi.1; have fz := blk_frozen hi.1 1; have H2 := Aside0.mk (And.intro (hi.set_1 (wrap64 (At + 1))) (And.intro (below_set (j := 1) (v := .int .i64 (wrap64 (At + 1))) hb hi.2) (hk.set_ 1 (.int .i64 (wrap64 (At + 1)))))); clear hi hb hk hk0)
      all_goals (go_wp2; first | (go_end0; exact ⟨rfl, H2.out⟩) | (refine bodyPost_ret (results_none rfl _ _ _) rfl ?_; exact ⟨rfl, H2.out⟩))
    · rw [if_neg (fun x => h2 x.2)] at h
      simp only [Option.some.injEq, Prod.mk.injEq] at h
      obtain ⟨rfl, rfl, rfl, rfl, rfl⟩ := h
      have d2 : decide (At ≥ (S.size : Int)) = true := decide_eq_true (by omega)
      have d3 : decide ((S.size : Int) ≤ At) = true := decide_eq_true (by omega)
      clear h2
      go_enter Tryz.func85, Tryz.ntmps85
      go_wp2_with fail
      go_region_with (go_at_call 59; (with_reducible refine (T.out _ ?s1 ?s2).mono ?_); (case s1 => repeat (first | exact HI.out | apply IsS68.drew | apply IsS68.drewN)); (case s2 => repeat (first | exact HB.out | apply below_drew1 | apply pw_below_drewN)); rintro e w' ⟨rfl, hi, hb, hk0⟩; have hk := KeepBut.trans (show KeepBut w w.drew g none from keep_drew (KeepBut.refl w g none)) hk0 (.inl rfl); have c0 := cellS68_0 hi.1; have c1 := cellS68_1 hi.1; have c4 := cellS68_4 hi.1; have fz := blk_frozen hi.1 4; have H2 := Aside0.mk (And.intro (hi.set_4 true) (And.intro (below_set (j := 4) (v := .bool true) hb hi.2) (hk.set_ 4 (.bool true)))); clear hi hb hk hk0)
      all_goals (go_wp2; first | (go_end0; exact ⟨rfl, H2.out⟩) | (refine bodyPost_ret (results_none rfl _ _ _) rfl ?_; exact ⟨rfl, H2.out⟩))
  · rw [if_neg (fun x => h1 x.1)] at h
    simp only [Option.some.injEq, Prod.mk.injEq] at h
    obtain ⟨rfl, rfl, rfl, rfl, rfl⟩ := h
    have d1 : (c != a1) = true := bne_iff_ne.mpr h1
    clear h1
    go_enter Tryz.func85, Tryz.ntmps85
    go_wp2_with fail
    refine wp_region_any (by kernel_rfl) ?_
    (try (change wpAny _ _ _ _ _ _ _ (World.drew _)))
    (try simp only [Act.put, List.setIfInBounds_toArray, List.set_cons_zero, List.set_cons_succ])
    refine wpAny_take (i := 0) (oi := ⟨some 4, _, _, _, _, _⟩) (v := .pointer (some ⟨g, 0, none⟩)) rfl (by kernel_rfl) (by kernel_rfl) (by kernel_rfl) (fun _ _ _ h => h) (Or.inl ⟨by kernel_rfl, fun _ => by go_simp⟩) ?_
    (try simp only [Act.put, List.setIfInBounds_toArray, List.set_cons_zero, List.set_cons_succ])
    refine wpAny_take (i := 2) (oi := ⟨some 6, _, _, _, _, _⟩) (v := .int .u8 a1) rfl (by kernel_rfl) (by kernel_rfl) (by kernel_rfl) (fun _ _ _ h => h) (Or.inl ⟨by kernel_rfl, fun _ => by go_simp⟩) ?_
    (try simp only [Act.put, List.setIfInBounds_toArray, List.set_cons_zero, List.set_cons_succ])
    refine wpAny_ready (rs := [1]) (by kernel_rfl) (by simp) ?_
    refine AllReady.cons rfl (fun K hK => ?_) AllReady.nil
    go_simp
    go_wp2_with (go_at_call 59; (with_reducible refine (T.out _ ?s1 ?s2).mono ?_); (case s1 => repeat (first | exact HI.out | apply IsS68.drew | apply IsS68.drewN)); (case s2 => repeat (first | exact HB.out | apply below_drew1 | apply pw_below_drewN)); rintro e w' ⟨rfl, hi, hb, hk0⟩; have hk := KeepBut.trans (show KeepBut w w.drew g none from keep_drew (KeepBut.refl w g none)) hk0 (.inl rfl); have c0 := cellS68_0 hi.1; have c1 := cellS68_1 hi.1; have c4 := cellS68_4 hi.1; have fz := blk_frozen hi.1 4; have H2 := Aside0.mk (And.intro (hi.set_4 true) (And.intro (below_set (j := 4) (v := .bool true) hb hi.2) (hk.set_ 4 (.bool true)))); clear hi hb hk hk0)
    (try simp only [Act.put, List.setIfInBounds_toArray, List.set_cons_zero, List.set_cons_succ])
    refine wpAny_take (i := 3) (oi := ⟨some 7, _, _, _, _, _⟩) (v := .bool true) rfl (by kernel_rfl) (by kernel_rfl) (by kernel_rfl) (fun _ _ _ h => h) (Or.inl ⟨by kernel_rfl, fun _ => by go_simp⟩) ?_
    (try simp only [Act.put, List.setIfInBounds_toArray, List.set_cons_zero, List.set_cons_succ])
    refine wpAny_take (i := 4) (oi := ⟨some 8, _, _, _, _, _⟩) (v := .bool true) rfl (by kernel_rfl) (by kernel_rfl) (by kernel_rfl) (fun _ _ _ h => h) (Or.inl ⟨by kernel_rfl, fun _ => by go_simp⟩) ?_
    (try simp only [Act.put, List.setIfInBounds_toArray, List.set_cons_zero, List.set_cons_succ])
    refine wpAny_take (i := 5) (oi := ⟨some 9, _, _, _, _, _⟩) (v := undef) rfl (by kernel_rfl) (by kernel_rfl) (by kernel_rfl) (fun _ _ _ h => h) (Or.inr ⟨by kernel_rfl, rfl⟩) ?_
    (try simp only [Act.put, List.setIfInBounds_toArray, List.set_cons_zero, List.set_cons_succ])
    refine wpAny_take (i := 6) (oi := ⟨some 10, _, _, _, _, _⟩) (v := undef) rfl (by kernel_rfl) (by kernel_rfl) (by kernel_rfl) (fun _ _ _ h => h) (Or.inr ⟨by kernel_rfl, rfl⟩) ?_
    (try simp only [Act.put, List.setIfInBounds_toArray, List.set_cons_zero, List.set_cons_succ])
    refine wpAny_take (i := 7) (oi := ⟨some 11, _, _, _, _, _⟩) (v := undef) rfl (by kernel_rfl) (by kernel_rfl) (by kernel_rfl) (fun _ _ _ h => h) (Or.inr ⟨by kernel_rfl, rfl⟩) ?_
    (try simp only [Act.put, List.setIfInBounds_toArray, List.set_cons_zero, List.set_cons_succ])
    refine wpAny_take (i := 8) (oi := ⟨some 12, _, _, _, _, _⟩) (v := undef) rfl (by kernel_rfl) (by kernel_rfl) (by kernel_rfl) (fun _ _ _ h => h) (Or.inr ⟨by kernel_rfl, rfl⟩) ?_
    (try simp only [Act.put, List.setIfInBounds_toArray, List.set_cons_zero, List.set_cons_succ])
    refine wpAny_take (i := 9) (oi := ⟨some 13, _, _, _, _, _⟩) (v := undef) rfl (by kernel_rfl) (by kernel_rfl) (by kernel_rfl) (fun _ _ _ h => h) (Or.inr ⟨by kernel_rfl, rfl⟩) ?_
    (try simp only [Act.put, List.setIfInBounds_toArray, List.set_cons_zero, List.set_cons_succ])
    refine wpAny_take (i := 10) (oi := ⟨some 14, _, _, _, _, _⟩) (v := undef) rfl (by kernel_rfl) (by kernel_rfl) (by kernel_rfl) (fun _ _ _ h => h) (Or.inr ⟨by kernel_rfl, rfl⟩) ?_
    (try simp only [Act.put, List.setIfInBounds_toArray, List.set_cons_zero, List.set_cons_succ])
    refine wpAny_take (i := 11) (oi := ⟨some 15, _, _, _, _, _⟩) (v := undef) rfl (by kernel_rfl) (by kernel_rfl) (by kernel_rfl) (fun _ _ _ h => h) (Or.inr ⟨by kernel_rfl, rfl⟩) ?_
    (try simp only [Act.put, List.setIfInBounds_toArray, List.set_cons_zero, List.set_cons_succ])
    refine wpAny_take (i := 12) (oi := ⟨some 16, _, _, _, _, _⟩) (v := undef) rfl (by kernel_rfl) (by kernel_rfl) (by kernel_rfl) (fun _ _ _ h => h) (Or.inr ⟨by kernel_rfl, rfl⟩) ?_
    (try simp only [Act.put, List.setIfInBounds_toArray, List.set_cons_zero, List.set_cons_succ])
    refine wpAny_take (i := 13) (oi := ⟨some 17, _, _, _, _, _⟩) (v := undef) rfl (by kernel_rfl) (by kernel_rfl) (by kernel_rfl) (fun _ _ _ h => h) (Or.inr ⟨by kernel_rfl, rfl⟩) ?_
    (try simp only [Act.put, List.setIfInBounds_toArray, List.set_cons_zero, List.set_cons_succ])
    refine wpAny_take (i := 14) (oi := ⟨some 18, _, _, _, _, _⟩) (v := undef) rfl (by kernel_rfl) (by kernel_rfl) (by kernel_rfl) (fun _ _ _ h => h) (Or.inr ⟨by kernel_rfl, rfl⟩) ?_
    (try simp only [Act.put, List.setIfInBounds_toArray, List.set_cons_zero, List.set_cons_succ])
    refine wpAny_take (i := 15) (oi := ⟨some 19, _, _, _, _, _⟩) (v := .bool true) rfl (by kernel_rfl) (by kernel_rfl) (by kernel_rfl) (fun _ _ _ h => h) (Or.inl ⟨by kernel_rfl, fun _ => by go_simp⟩) ?_
    (try simp only [Act.put, List.setIfInBounds_toArray, List.set_cons_zero, List.set_cons_succ])
    refine wpAny_done (by kernel_rfl) ?_ _
    (try simp only [Act.put, List.setIfInBounds_toArray, List.set_cons_zero, List.set_cons_succ])
    (go_wp2; first | (go_end0; exact ⟨rfl, H2.out⟩) | (refine bodyPost_ret (results_none rfl _ _ _) rfl ?_; exact ⟨rfl, H2.out⟩))
end Go.Proofs.YthiehmogphknlaaGreatDoor.PQ
