/- The reference's parser: factor, by its own text, over the contract of base. -/
import Derived.Test.YthiehmogphknlaaGreatDoorPKnot
import Derived.Deep.QuietTactic
import Derived.BigQuiet
import Derived.Deep.LoopGhost
import Derived.Deep.RegionWith
namespace Go.Proofs.YthiehmogphknlaaGreatDoor.PQ
open Go.RowKit Go.Proofs.YthiehmogphknlaaGreatDoor.G Go.Proofs.YthiehmogphknlaaGreatDoor.PA Go.Proofs.YthiehmogphknlaaGreatDoor.PT Go.Proofs.YthiehmogphknlaaGreatDoor.PV Go.Proofs.YthiehmogphknlaaGreatDoorW.PrintWords Go.Proofs.YthiehmogphknlaaGreatDoorW.PrintMore
/-- One operation of a region that draws, at the world where it stands. -/
theorem step_in {P : Program} {ops : Array Oper} {Q : Exit → Act → World → Prop} {o : Oper} {v : Value} {K : Act → World → Prop} {a : Act} {w : World} (hw : Region.wanted o (yielded ops a.tmps) = true) (hx : (execOp a.eval o).run P w = .ok (.value v) w) (h : K (a.put o.dst v) w) :
    if Region.wanted o (yielded ops a.tmps) = true then Oper.wp P o a w K Q else K (a.put o.dst undef) w := by
  rw [if_pos hw]
  unfold Oper.wp
  rw [hx]
  exact h
/-- The parser's state stands at g; all else is as it was. -/
structure PI (w0 w W : World) (g : Nat) (S : ByteArray) (At K : Int) (Lo Ba : Bool) : Prop where
  is : IsS68 w0 W g S At K Lo Ba
  below : Below w0.heap.size w0 W
  keep : KeepBut w W g none
section
variable {w0 w W : World} {g : Nat} {S : ByteArray} {At K : Int} {Lo Ba : Bool}
theorem PI.drewN (h : PI w0 w W g S At K Lo Ba) (n : Nat) : PI w0 w (W.drewN n) g S At K Lo Ba := ⟨h.is.drewN n, pw_below_drewN h.below n, keep_drewN h.keep n⟩
theorem PI.drew (h : PI w0 w W g S At K Lo Ba) : PI w0 w W.drew g S At K Lo Ba := ⟨h.is.drew, below_drew1 h.below, keep_drew h.keep⟩
theorem PI.later (h : PI w0 w W g S At K Lo Ba) {W1 : World} (hb : Below W.heap.size W W1) : PI w0 w W1 g S At K Lo Ba := ⟨h.is.below hb, below_then h.below (h.below.size) hb, h.keep.trans (KeepBut.of_below hb g none) (.inl rfl)⟩
theorem PI.step (h : PI w0 w W g S At K Lo Ba) {W1 : World} {S1 : ByteArray} {At1 K1 : Int} {Lo1 Ba1 : Bool} (h1 : IsS68 w0 W1 g S1 At1 K1 Lo1 Ba1) (h2 : Below w0.heap.size w0 W1) (h3 : KeepBut W W1 g none) : PI w0 w W1 g S1 At1 K1 Lo1 Ba1 := ⟨h1, h2, h.keep.trans h3 (.inl rfl)⟩
theorem PI.at (h : PI w0 w W g S At K Lo Ba) (x : Int) : PI w0 w (W.setCell ⟨g, 1, none⟩ (.int .i64 x)) g S x K Lo Ba := ⟨h.is.set_1 x, below_set h.below h.is.2, h.keep.set_ 1 _⟩
theorem PI.bad (h : PI w0 w W g S At K Lo Ba) : PI w0 w (W.setCell ⟨g, 4, none⟩ (.bool true)) g S At K Lo true := ⟨h.is.set_4 true, below_set h.below h.is.2, h.keep.set_ 4 _⟩
theorem PI.next {k : Nat} {c : Int} {S1 : ByteArray} {At1 K1 : Int} {Lo1 Ba1 : Bool} (hn : cayleyref01_Parser_next.f k S At K Lo Ba = some (c, S1, At1, K1, Lo1, Ba1)) (h : PI w0 w W g S At K Lo Ba) :
    Calls Tryz.prog 59 #[.pointer (some ⟨g, 0, none⟩)] W fun e w' => e = .returned (.int .u8 c) ∧ PI w0 w w' g S1 At1 K1 Lo1 Ba1 :=
  (cayleyref01_Parser_next.calls k g S At K Lo Ba c S1 At1 K1 Lo1 Ba1 w0 W h.is h.below hn).mono fun _ _ ⟨he, h1, h2, h3⟩ => ⟨he, h.step h1 h2 h3⟩
theorem PI.take {k : Nat} {c : Int} {S1 : ByteArray} {At1 K1 : Int} {Lo1 Ba1 : Bool} (hn : cayleyref01_Parser_take.f k S At K Lo Ba c = some (S1, At1, K1, Lo1, Ba1)) (h : PI w0 w W g S At K Lo Ba) :
    Calls Tryz.prog 85 #[.pointer (some ⟨g, 0, none⟩), .int .u8 c] W fun e w' => e = .returned (.tuple #[]) ∧ PI w0 w w' g S1 At1 K1 Lo1 Ba1 :=
  (cayleyref01_Parser_take.calls k g S At K Lo Ba c S1 At1 K1 Lo1 Ba1 w0 W h.is h.below hn).mono fun _ _ ⟨he, h1, h2, h3⟩ => ⟨he, h.step h1 h2 h3⟩
theorem PI.long {n : Int} {b : Bool} {S1 : ByteArray} {At1 K1 : Int} {Lo1 Ba1 : Bool} (hn : cayleyref01_Parser_long.f S At K Lo Ba n = some (b, S1, At1, K1, Lo1, Ba1)) (h : PI w0 w W g S At K Lo Ba) :
    Calls Tryz.prog 73 #[.pointer (some ⟨g, 0, none⟩), .int .i64 n] W fun e w' => e = .returned (.bool b) ∧ PI w0 w w' g S1 At1 K1 Lo1 Ba1 :=
  (cayleyref01_Parser_long.calls g S At K Lo Ba n b S1 At1 K1 Lo1 Ba1 w0 W h.is h.below hn).mono fun _ _ ⟨he, h1, h2, h3⟩ => ⟨he, h.step h1 h2 h3⟩
end
set_option maxHeartbeats 16000000 in
set_option maxRecDepth 100000 in
theorem cayleyref01_Parser_factor.calls (BF : Nat → ByteArray → Int → Int → Bool → Bool → Int → Option (ByteArray × ByteArray × Int × Int × Bool × Bool))
    (BC : ∀ (k : Nat) (g : Nat) (s0_0 : ByteArray) (s0_1 : Int) (s0_2 : Int) (s0_3 : Bool) (s0_4 : Bool) (a1 : Int) (r1 : ByteArray) (r2 : ByteArray) (r3 : Int) (r4 : Int) (r5 : Bool) (r6 : Bool) (w0 w : World), IsS68 w0 w g s0_0 s0_1 s0_2 s0_3 s0_4 → Below w0.heap.size w0 w → BF k s0_0 s0_1 s0_2 s0_3 s0_4 a1 = some (r1, r2, r3, r4, r5, r6) →
      Calls Tryz.prog 84 #[.pointer (some ⟨g, 0, none⟩), .int .i64 a1] w fun e w' => e = .returned (.string r1) ∧ IsS68 w0 w' g r2 r3 r4 r5 r6 ∧ Below w0.heap.size w0 w' ∧ KeepBut w w' g none)
    (k : Nat) (g : Nat) (s0_0 : ByteArray) (s0_1 : Int) (s0_2 : Int) (s0_3 : Bool) (s0_4 : Bool) (a1 : Int) (r1 : ByteArray) (r2 : ByteArray) (r3 : Int) (r4 : Int) (r5 : Bool) (r6 : Bool) (w0 w : World) (hI : IsS68 w0 w g s0_0 s0_1 s0_2 s0_3 s0_4) (hB : Below w0.heap.size w0 w) (h : cayleyref01_Parser_factor.f BF k s0_0 s0_1 s0_2 s0_3 s0_4 a1 = some (r1, r2, r3, r4, r5, r6)) :
    Calls Tryz.prog 72 #[.pointer (some ⟨g, 0, none⟩), .int .i64 a1] w fun e w' => e = .returned (.string r1) ∧ IsS68 w0 w' g r2 r3 r4 r5 r6 ∧ Below w0.heap.size w0 w' ∧ KeepBut w w' g none := by
  unfold cayleyref01_Parser_factor.f at h
  obtain ⟨⟨b1, S, At, K, Lo, Ba⟩, hb, h⟩ := Option.bind_eq_some_iff.mp h
  dsimp only at h
  have T := Lib.hid (BC k g s0_0 s0_1 s0_2 s0_3 s0_4 a1 b1 S At K Lo Ba w0 w hI hB hb)
  clear BC hb hI hB
  have H := Lib.hid h
  clear h
  go_enter Tryz.func72, Tryz.ntmps72
  go_upto_region 2 with (go_at_call 84; refine T.out.mono ?_; rintro e w1 ⟨rfl, hi, hb, hk⟩; have HP := Aside0.mk (PI.mk hi hb hk); clear hi hb hk)
  go_cut [32] (fun v32 wc => ∃ (t : Bool) (S1 : ByteArray) (At1 K1 : Int) (Lo1 Ba1 : Bool), v32 = .bool t ∧ Aside0 (fp t k b1 S1 At1 K1 Lo1 Ba1 = some (r1, r2, r3, r4, r5, r6)) ∧ Aside0 (PI w0 w wc g S1 At1 K1 Lo1 Ba1))
  case first =>
    have H2 := H.out
    clear H
    have c4 := cellS68_4 HP.out.is.1
    cases Ba with
    | true =>
      rw [if_pos rfl] at H2
      have H3 := Aside0.mk H2
      clear H2
      go_wp2_with fail
      refine wp_region_any (by kernel_rfl) ?_
      (try (change wpAny _ _ _ _ _ _ _ (World.drew _)))
      (try simp only [Act.put, List.setIfInBounds_toArray, List.set_cons_zero, List.set_cons_succ])
      refine wpAny_take (i := 0) (oi := ⟨some 12, _, _, _, _, _⟩) (v := .pointer (some ⟨g, 0, none⟩)) rfl (by kernel_rfl) (by kernel_rfl) (by kernel_rfl) (fun _ _ _ h => h) (Or.inl ⟨by kernel_rfl, fun _ => by go_simp⟩) ?_
      (try simp only [Act.put, List.setIfInBounds_toArray, List.set_cons_zero, List.set_cons_succ])
      refine wpAny_take (i := 1) (oi := ⟨some 13, _, _, _, _, _⟩) (v := .pointer (some ⟨g, 0, none⟩)) rfl (by kernel_rfl) (by kernel_rfl) (by kernel_rfl) (fun _ _ _ h => h) (Or.inl ⟨by kernel_rfl, fun _ => by go_simp⟩) ?_
      (try simp only [Act.put, List.setIfInBounds_toArray, List.set_cons_zero, List.set_cons_succ])
      refine wpAny_take (i := 2) (oi := ⟨some 14, _, _, _, _, _⟩) (v := .pointer (some ⟨g, 4, none⟩)) rfl (by kernel_rfl) (by kernel_rfl) (by kernel_rfl) (fun _ _ _ h => h) (Or.inl ⟨by kernel_rfl, fun _ => by go_simp⟩) ?_
      (try simp only [Act.put, List.setIfInBounds_toArray, List.set_cons_zero, List.set_cons_succ])
      refine wpAny_ready (rs := [3]) (by kernel_rfl) (by simp) ?_
      refine AllReady.cons (o := ⟨some 15, _, _, _, _, _⟩) rfl (fun K hK => ?_) AllReady.nil
      refine step_in (v := .bool true) (by kernel_rfl) (by go_simp) ?_
      refine hK _ _ ?_
      clear hK K
      (try simp only [Act.put, List.setIfInBounds_toArray, List.set_cons_zero, List.set_cons_succ])
      refine wpAny_take (i := 4) (oi := ⟨some 16, _, _, _, _, _⟩) (v := .bool true) rfl (by kernel_rfl) (by kernel_rfl) (by kernel_rfl) (fun _ _ _ h => h) (Or.inl ⟨by kernel_rfl, fun _ => by go_simp⟩) ?_
      (try simp only [Act.put, List.setIfInBounds_toArray, List.set_cons_zero, List.set_cons_succ])
      refine wpAny_take (i := 5) (oi := ⟨some 17, _, _, _, _, _⟩) (v := undef) rfl (by kernel_rfl) (by kernel_rfl) (by kernel_rfl) (fun _ _ _ h => h) (Or.inr ⟨by kernel_rfl, rfl⟩) ?_
      (try simp only [Act.put, List.setIfInBounds_toArray, List.set_cons_zero, List.set_cons_succ])
      refine wpAny_take (i := 6) (oi := ⟨some 18, _, _, _, _, _⟩) (v := undef) rfl (by kernel_rfl) (by kernel_rfl) (by kernel_rfl) (fun _ _ _ h => h) (Or.inr ⟨by kernel_rfl, rfl⟩) ?_
      (try simp only [Act.put, List.setIfInBounds_toArray, List.set_cons_zero, List.set_cons_succ])
      refine wpAny_take (i := 7) (oi := ⟨some 19, _, _, _, _, _⟩) (v := undef) rfl (by kernel_rfl) (by kernel_rfl) (by kernel_rfl) (fun _ _ _ h => h) (Or.inr ⟨by kernel_rfl, rfl⟩) ?_
      (try simp only [Act.put, List.setIfInBounds_toArray, List.set_cons_zero, List.set_cons_succ])
      refine wpAny_take (i := 8) (oi := ⟨some 20, _, _, _, _, _⟩) (v := .bool true) rfl (by kernel_rfl) (by kernel_rfl) (by kernel_rfl) (fun _ _ _ h => h) (Or.inl ⟨by kernel_rfl, fun _ => by go_simp⟩) ?_
      (try simp only [Act.put, List.setIfInBounds_toArray, List.set_cons_zero, List.set_cons_succ])
      refine wpAny_take (i := 9) (oi := ⟨some 21, _, _, _, _, _⟩) (v := .bool true) rfl (by kernel_rfl) (by kernel_rfl) (by kernel_rfl) (fun _ _ _ h => h) (Or.inl ⟨by kernel_rfl, fun _ => by go_simp⟩) ?_
      (try simp only [Act.put, List.setIfInBounds_toArray, List.set_cons_zero, List.set_cons_succ])
      refine wpAny_take (i := 10) (oi := ⟨some 22, _, _, _, _, _⟩) (v := undef) rfl (by kernel_rfl) (by kernel_rfl) (by kernel_rfl) (fun _ _ _ h => h) (Or.inr ⟨by kernel_rfl, rfl⟩) ?_
      (try simp only [Act.put, List.setIfInBounds_toArray, List.set_cons_zero, List.set_cons_succ])
      refine wpAny_take (i := 11) (oi := ⟨some 23, _, _, _, _, _⟩) (v := undef) rfl (by kernel_rfl) (by kernel_rfl) (by kernel_rfl) (fun _ _ _ h => h) (Or.inr ⟨by kernel_rfl, rfl⟩) ?_
      (try simp only [Act.put, List.setIfInBounds_toArray, List.set_cons_zero, List.set_cons_succ])
      refine wpAny_take (i := 12) (oi := ⟨some 24, _, _, _, _, _⟩) (v := undef) rfl (by kernel_rfl) (by kernel_rfl) (by kernel_rfl) (fun _ _ _ h => h) (Or.inr ⟨by kernel_rfl, rfl⟩) ?_
      (try simp only [Act.put, List.setIfInBounds_toArray, List.set_cons_zero, List.set_cons_succ])
      refine wpAny_take (i := 13) (oi := ⟨some 25, _, _, _, _, _⟩) (v := undef) rfl (by kernel_rfl) (by kernel_rfl) (by kernel_rfl) (fun _ _ _ h => h) (Or.inr ⟨by kernel_rfl, rfl⟩) ?_
      (try simp only [Act.put, List.setIfInBounds_toArray, List.set_cons_zero, List.set_cons_succ])
      refine wpAny_take (i := 14) (oi := ⟨some 26, _, _, _, _, _⟩) (v := undef) rfl (by kernel_rfl) (by kernel_rfl) (by kernel_rfl) (fun _ _ _ h => h) (Or.inr ⟨by kernel_rfl, rfl⟩) ?_
      (try simp only [Act.put, List.setIfInBounds_toArray, List.set_cons_zero, List.set_cons_succ])
      refine wpAny_take (i := 15) (oi := ⟨some 27, _, _, _, _, _⟩) (v := undef) rfl (by kernel_rfl) (by kernel_rfl) (by kernel_rfl) (fun _ _ _ h => h) (Or.inr ⟨by kernel_rfl, rfl⟩) ?_
      (try simp only [Act.put, List.setIfInBounds_toArray, List.set_cons_zero, List.set_cons_succ])
      refine wpAny_take (i := 16) (oi := ⟨some 28, _, _, _, _, _⟩) (v := undef) rfl (by kernel_rfl) (by kernel_rfl) (by kernel_rfl) (fun _ _ _ h => h) (Or.inr ⟨by kernel_rfl, rfl⟩) ?_
      (try simp only [Act.put, List.setIfInBounds_toArray, List.set_cons_zero, List.set_cons_succ])
      refine wpAny_take (i := 17) (oi := ⟨some 29, _, _, _, _, _⟩) (v := undef) rfl (by kernel_rfl) (by kernel_rfl) (by kernel_rfl) (fun _ _ _ h => h) (Or.inr ⟨by kernel_rfl, rfl⟩) ?_
      (try simp only [Act.put, List.setIfInBounds_toArray, List.set_cons_zero, List.set_cons_succ])
      refine wpAny_take (i := 18) (oi := ⟨some 30, _, _, _, _, _⟩) (v := undef) rfl (by kernel_rfl) (by kernel_rfl) (by kernel_rfl) (fun _ _ _ h => h) (Or.inr ⟨by kernel_rfl, rfl⟩) ?_
      (try simp only [Act.put, List.setIfInBounds_toArray, List.set_cons_zero, List.set_cons_succ])
      refine wpAny_take (i := 19) (oi := ⟨some 31, _, _, _, _, _⟩) (v := undef) rfl (by kernel_rfl) (by kernel_rfl) (by kernel_rfl) (fun _ _ _ h => h) (Or.inr ⟨by kernel_rfl, rfl⟩) ?_
      (try simp only [Act.put, List.setIfInBounds_toArray, List.set_cons_zero, List.set_cons_succ])
      refine wpAny_take (i := 20) (oi := ⟨some 32, _, _, _, _, _⟩) (v := .bool true) rfl (by kernel_rfl) (by kernel_rfl) (by kernel_rfl) (fun _ _ _ h => h) (Or.inl ⟨by kernel_rfl, fun _ => by go_simp⟩) ?_
      (try simp only [Act.put, List.setIfInBounds_toArray, List.set_cons_zero, List.set_cons_succ])
      refine wpAny_done (by kernel_rfl) ?_ _
      (try simp only [Act.put, List.setIfInBounds_toArray, List.set_cons_zero, List.set_cons_succ])
      go_wp2_with fail
      go_meet
      exact ⟨_, _, _, _, _, _, rfl, H3, ⟨HP.out.drew⟩⟩
    | false =>
      rw [if_neg (by simp)] at H2
      obtain ⟨⟨c, S1, At1, K1, Lo1, Ba1⟩, hn, H2⟩ := Option.bind_eq_some_iff.mp H2
      dsimp only at H2
      have N := Lib.hid (fun (W : World) (hp : PI w0 w W g S At K Lo false) => hp.next hn)
      clear hn
      by_cases hc : c = 94
      · subst hc
        have H3 := Aside0.mk H2
        clear H2
        go_wp2_with fail
        refine wp_region_any (by kernel_rfl) ?_
        (try (change wpAny _ _ _ _ _ _ _ (World.drew _)))
        (try simp only [Act.put, List.setIfInBounds_toArray, List.set_cons_zero, List.set_cons_succ])
        refine wpAny_take (i := 0) (oi := ⟨some 12, _, _, _, _, _⟩) (v := .pointer (some ⟨g, 0, none⟩)) rfl (by kernel_rfl) (by kernel_rfl) (by kernel_rfl) (fun _ _ _ h => h) (Or.inl ⟨by kernel_rfl, fun _ => by go_simp⟩) ?_
        (try simp only [Act.put, List.setIfInBounds_toArray, List.set_cons_zero, List.set_cons_succ])
        refine wpAny_take (i := 1) (oi := ⟨some 13, _, _, _, _, _⟩) (v := .pointer (some ⟨g, 0, none⟩)) rfl (by kernel_rfl) (by kernel_rfl) (by kernel_rfl) (fun _ _ _ h => h) (Or.inl ⟨by kernel_rfl, fun _ => by go_simp⟩) ?_
        (try simp only [Act.put, List.setIfInBounds_toArray, List.set_cons_zero, List.set_cons_succ])
        refine wpAny_take (i := 2) (oi := ⟨some 14, _, _, _, _, _⟩) (v := .pointer (some ⟨g, 4, none⟩)) rfl (by kernel_rfl) (by kernel_rfl) (by kernel_rfl) (fun _ _ _ h => h) (Or.inl ⟨by kernel_rfl, fun _ => by go_simp⟩) ?_
        (try simp only [Act.put, List.setIfInBounds_toArray, List.set_cons_zero, List.set_cons_succ])
        refine wpAny_ready (rs := [3]) (by kernel_rfl) (by simp) ?_
        refine AllReady.cons (o := ⟨some 15, _, _, _, _, _⟩) rfl (fun K hK => ?_) AllReady.nil
        refine step_in (v := .bool false) (by kernel_rfl) (by go_simp) ?_
        refine hK _ _ ?_
        clear hK K
        (try simp only [Act.put, List.setIfInBounds_toArray, List.set_cons_zero, List.set_cons_succ])
        refine wpAny_take (i := 4) (oi := ⟨some 16, _, _, _, _, _⟩) (v := .bool false) rfl (by kernel_rfl) (by kernel_rfl) (by kernel_rfl) (fun _ _ _ h => h) (Or.inl ⟨by kernel_rfl, fun _ => by go_simp⟩) ?_
        (try simp only [Act.put, List.setIfInBounds_toArray, List.set_cons_zero, List.set_cons_succ])
        refine wpAny_take (i := 5) (oi := ⟨some 17, _, _, _, _, _⟩) (v := .pointer (some ⟨g, 0, none⟩)) rfl (by kernel_rfl) (by kernel_rfl) (by kernel_rfl) (fun _ _ _ h => h) (Or.inl ⟨by kernel_rfl, fun _ => by go_simp⟩) ?_
        (try simp only [Act.put, List.setIfInBounds_toArray, List.set_cons_zero, List.set_cons_succ])
        refine wpAny_ready (rs := [6]) (by kernel_rfl) (by simp) ?_
        refine AllReady.cons (o := ⟨some 18, _, _, _, _, _⟩) rfl (fun K hK => ?_) AllReady.nil
        go_simp
        go_wp2_with (go_at_call 59; (with_reducible refine (N.out _ ?s1).mono ?_); (case s1 => first | exact HP.out | exact HP.out.drew | exact HP.out.drew.drew); rintro e w2 ⟨rfl, hp⟩; have q0 := cellS68_0 hp.is.1; have q1 := cellS68_1 hp.is.1; have HQ := Aside0.mk hp; clear hp)
        (try simp only [Act.put, List.setIfInBounds_toArray, List.set_cons_zero, List.set_cons_succ])
        refine wpAny_take (i := 7) (oi := ⟨some 19, _, _, _, _, _⟩) (v := .bool false) rfl (by kernel_rfl) (by kernel_rfl) (by kernel_rfl) (fun _ _ _ h => h) (Or.inl ⟨by kernel_rfl, fun _ => by go_simp⟩) ?_
        (try simp only [Act.put, List.setIfInBounds_toArray, List.set_cons_zero, List.set_cons_succ])
        refine wpAny_take (i := 8) (oi := ⟨some 20, _, _, _, _, _⟩) (v := .bool false) rfl (by kernel_rfl) (by kernel_rfl) (by kernel_rfl) (fun _ _ _ h => h) (Or.inl ⟨by kernel_rfl, fun _ => by go_simp⟩) ?_
        (try simp only [Act.put, List.setIfInBounds_toArray, List.set_cons_zero, List.set_cons_succ])
        refine wpAny_take (i := 9) (oi := ⟨some 21, _, _, _, _, _⟩) (v := .bool false) rfl (by kernel_rfl) (by kernel_rfl) (by kernel_rfl) (fun _ _ _ h => h) (Or.inl ⟨by kernel_rfl, fun _ => by go_simp⟩) ?_
        (try simp only [Act.put, List.setIfInBounds_toArray, List.set_cons_zero, List.set_cons_succ])
        refine wpAny_take (i := 10) (oi := ⟨some 22, _, _, _, _, _⟩) (v := .pointer (some ⟨g, 0, none⟩)) rfl (by kernel_rfl) (by kernel_rfl) (by kernel_rfl) (fun _ _ _ h => h) (Or.inl ⟨by kernel_rfl, fun _ => by go_simp⟩) ?_
        (try simp only [Act.put, List.setIfInBounds_toArray, List.set_cons_zero, List.set_cons_succ])
        refine wpAny_take (i := 11) (oi := ⟨some 23, _, _, _, _, _⟩) (v := .pointer (some ⟨g, 0, none⟩)) rfl (by kernel_rfl) (by kernel_rfl) (by kernel_rfl) (fun _ _ _ h => h) (Or.inl ⟨by kernel_rfl, fun _ => by go_simp⟩) ?_
        (try simp only [Act.put, List.setIfInBounds_toArray, List.set_cons_zero, List.set_cons_succ])
        refine wpAny_take (i := 12) (oi := ⟨some 24, _, _, _, _, _⟩) (v := .pointer (some ⟨g, 1, none⟩)) rfl (by kernel_rfl) (by kernel_rfl) (by kernel_rfl) (fun _ _ _ h => h) (Or.inl ⟨by kernel_rfl, fun _ => by go_simp⟩) ?_
        (try simp only [Act.put, List.setIfInBounds_toArray, List.set_cons_zero, List.set_cons_succ])
        refine wpAny_take (i := 14) (oi := ⟨some 26, _, _, _, _, _⟩) (v := .pointer (some ⟨g, 0, none⟩)) rfl (by kernel_rfl) (by kernel_rfl) (by kernel_rfl) (fun _ _ _ h => h) (Or.inl ⟨by kernel_rfl, fun _ => by go_simp⟩) ?_
        (try simp only [Act.put, List.setIfInBounds_toArray, List.set_cons_zero, List.set_cons_succ])
        refine wpAny_take (i := 15) (oi := ⟨some 27, _, _, _, _, _⟩) (v := .pointer (some ⟨g, 0, none⟩)) rfl (by kernel_rfl) (by kernel_rfl) (by kernel_rfl) (fun _ _ _ h => h) (Or.inl ⟨by kernel_rfl, fun _ => by go_simp⟩) ?_
        (try simp only [Act.put, List.setIfInBounds_toArray, List.set_cons_zero, List.set_cons_succ])
        refine wpAny_take (i := 16) (oi := ⟨some 28, _, _, _, _, _⟩) (v := .pointer (some ⟨g, 0, none⟩)) rfl (by kernel_rfl) (by kernel_rfl) (by kernel_rfl) (fun _ _ _ h => h) (Or.inl ⟨by kernel_rfl, fun _ => by go_simp⟩) ?_
        (try simp only [Act.put, List.setIfInBounds_toArray, List.set_cons_zero, List.set_cons_succ])
        refine wpAny_ready (rs := [13, 17]) (by kernel_rfl) (by simp) ?_
        refine AllReady.cons (o := ⟨some 25, _, _, _, _, _⟩) rfl (fun K hK => ?_) (AllReady.cons (o := ⟨some 29, _, _, _, _, _⟩) rfl (fun K hK => ?_) AllReady.nil)
        · refine step_in (v := .int .i64 At1) (by kernel_rfl) (by go_simp) ?_
          refine hK _ _ ?_
          clear hK K
          (try simp only [Act.put, List.setIfInBounds_toArray, List.set_cons_zero, List.set_cons_succ])
          refine wpAny_ready (rs := [17]) (by kernel_rfl) (by simp) ?_
          refine AllReady.cons (o := ⟨some 29, _, _, _, _, _⟩) rfl (fun K hK => ?_) AllReady.nil
          refine step_in (v := .string S1) (by kernel_rfl) (by go_simp) ?_
          refine hK _ _ ?_
          clear hK K
          (try simp only [Act.put, List.setIfInBounds_toArray, List.set_cons_zero, List.set_cons_succ])
          refine wpAny_take (i := 18) (oi := ⟨some 30, _, _, _, _, _⟩) (v := .int .i64 (S1.size : Int)) rfl (by kernel_rfl) (by kernel_rfl) (by kernel_rfl) (fun _ _ _ h => h) (Or.inl ⟨by kernel_rfl, fun _ => by go_simp⟩) ?_
          (try simp only [Act.put, List.setIfInBounds_toArray, List.set_cons_zero, List.set_cons_succ])
          refine wpAny_take (i := 19) (oi := ⟨some 31, _, _, _, _, _⟩) (v := .bool (decide ((S1.size : Int) ≤ At1))) rfl (by kernel_rfl) (by kernel_rfl) (by kernel_rfl) (fun _ _ _ h => h) (Or.inl ⟨by kernel_rfl, fun _ => by go_simp⟩) ?_
          (try simp only [Act.put, List.setIfInBounds_toArray, List.set_cons_zero, List.set_cons_succ])
          refine wpAny_take (i := 20) (oi := ⟨some 32, _, _, _, _, _⟩) (v := .bool (decide ((S1.size : Int) ≤ At1))) rfl (by kernel_rfl) (by kernel_rfl) (by kernel_rfl) (fun _ _ _ h => h) (Or.inl ⟨by kernel_rfl, fun _ => by go_simp⟩) ?_
          (try simp only [Act.put, List.setIfInBounds_toArray, List.set_cons_zero, List.set_cons_succ])
          refine wpAny_done (by kernel_rfl) ?_ _
          (try simp only [Act.put, List.setIfInBounds_toArray, List.set_cons_zero, List.set_cons_succ])
          go_wp2_with fail
          go_meet
          exact ⟨_, _, _, _, _, _, rfl, H3, HQ⟩
        · refine step_in (v := .string S1) (by kernel_rfl) (by go_simp) ?_
          refine hK _ _ ?_
          clear hK K
          (try simp only [Act.put, List.setIfInBounds_toArray, List.set_cons_zero, List.set_cons_succ])
          refine wpAny_take (i := 18) (oi := ⟨some 30, _, _, _, _, _⟩) (v := .int .i64 (S1.size : Int)) rfl (by kernel_rfl) (by kernel_rfl) (by kernel_rfl) (fun _ _ _ h => h) (Or.inl ⟨by kernel_rfl, fun _ => by go_simp⟩) ?_
          (try simp only [Act.put, List.setIfInBounds_toArray, List.set_cons_zero, List.set_cons_succ])
          refine wpAny_ready (rs := [13]) (by kernel_rfl) (by simp) ?_
          refine AllReady.cons (o := ⟨some 25, _, _, _, _, _⟩) rfl (fun K hK => ?_) AllReady.nil
          refine step_in (v := .int .i64 At1) (by kernel_rfl) (by go_simp) ?_
          refine hK _ _ ?_
          clear hK K
          (try simp only [Act.put, List.setIfInBounds_toArray, List.set_cons_zero, List.set_cons_succ])
          refine wpAny_take (i := 19) (oi := ⟨some 31, _, _, _, _, _⟩) (v := .bool (decide ((S1.size : Int) ≤ At1))) rfl (by kernel_rfl) (by kernel_rfl) (by kernel_rfl) (fun _ _ _ h => h) (Or.inl ⟨by kernel_rfl, fun _ => by go_simp⟩) ?_
          (try simp only [Act.put, List.setIfInBounds_toArray, List.set_cons_zero, List.set_cons_succ])
          refine wpAny_take (i := 20) (oi := ⟨some 32, _, _, _, _, _⟩) (v := .bool (decide ((S1.size : Int) ≤ At1))) rfl (by kernel_rfl) (by kernel_rfl) (by kernel_rfl) (fun _ _ _ h => h) (Or.inl ⟨by kernel_rfl, fun _ => by go_simp⟩) ?_
          (try simp only [Act.put, List.setIfInBounds_toArray, List.set_cons_zero, List.set_cons_succ])
          refine wpAny_done (by kernel_rfl) ?_ _
          (try simp only [Act.put, List.setIfInBounds_toArray, List.set_cons_zero, List.set_cons_succ])
          go_wp2_with fail
          go_meet
          exact ⟨_, _, _, _, _, _, rfl, H3, HQ⟩
      · have d1 : (c != 94) = true := bne_iff_ne.mpr hc
        rw [d1] at H2
        have H3 := Aside0.mk H2
        clear H2 hc
        go_wp2_with fail
        refine wp_region_any (by kernel_rfl) ?_
        (try (change wpAny _ _ _ _ _ _ _ (World.drew _)))
        (try simp only [Act.put, List.setIfInBounds_toArray, List.set_cons_zero, List.set_cons_succ])
        refine wpAny_take (i := 0) (oi := ⟨some 12, _, _, _, _, _⟩) (v := .pointer (some ⟨g, 0, none⟩)) rfl (by kernel_rfl) (by kernel_rfl) (by kernel_rfl) (fun _ _ _ h => h) (Or.inl ⟨by kernel_rfl, fun _ => by go_simp⟩) ?_
        (try simp only [Act.put, List.setIfInBounds_toArray, List.set_cons_zero, List.set_cons_succ])
        refine wpAny_take (i := 1) (oi := ⟨some 13, _, _, _, _, _⟩) (v := .pointer (some ⟨g, 0, none⟩)) rfl (by kernel_rfl) (by kernel_rfl) (by kernel_rfl) (fun _ _ _ h => h) (Or.inl ⟨by kernel_rfl, fun _ => by go_simp⟩) ?_
        (try simp only [Act.put, List.setIfInBounds_toArray, List.set_cons_zero, List.set_cons_succ])
        refine wpAny_take (i := 2) (oi := ⟨some 14, _, _, _, _, _⟩) (v := .pointer (some ⟨g, 4, none⟩)) rfl (by kernel_rfl) (by kernel_rfl) (by kernel_rfl) (fun _ _ _ h => h) (Or.inl ⟨by kernel_rfl, fun _ => by go_simp⟩) ?_
        (try simp only [Act.put, List.setIfInBounds_toArray, List.set_cons_zero, List.set_cons_succ])
        refine wpAny_ready (rs := [3]) (by kernel_rfl) (by simp) ?_
        refine AllReady.cons (o := ⟨some 15, _, _, _, _, _⟩) rfl (fun K hK => ?_) AllReady.nil
        refine step_in (v := .bool false) (by kernel_rfl) (by go_simp) ?_
        refine hK _ _ ?_
        clear hK K
        (try simp only [Act.put, List.setIfInBounds_toArray, List.set_cons_zero, List.set_cons_succ])
        refine wpAny_take (i := 4) (oi := ⟨some 16, _, _, _, _, _⟩) (v := .bool false) rfl (by kernel_rfl) (by kernel_rfl) (by kernel_rfl) (fun _ _ _ h => h) (Or.inl ⟨by kernel_rfl, fun _ => by go_simp⟩) ?_
        (try simp only [Act.put, List.setIfInBounds_toArray, List.set_cons_zero, List.set_cons_succ])
        refine wpAny_take (i := 5) (oi := ⟨some 17, _, _, _, _, _⟩) (v := .pointer (some ⟨g, 0, none⟩)) rfl (by kernel_rfl) (by kernel_rfl) (by kernel_rfl) (fun _ _ _ h => h) (Or.inl ⟨by kernel_rfl, fun _ => by go_simp⟩) ?_
        (try simp only [Act.put, List.setIfInBounds_toArray, List.set_cons_zero, List.set_cons_succ])
        refine wpAny_ready (rs := [6]) (by kernel_rfl) (by simp) ?_
        refine AllReady.cons (o := ⟨some 18, _, _, _, _, _⟩) rfl (fun K hK => ?_) AllReady.nil
        go_simp
        go_wp2_with (go_at_call 59; (with_reducible refine (N.out _ ?s1).mono ?_); (case s1 => first | exact HP.out | exact HP.out.drew | exact HP.out.drew.drew); rintro e w2 ⟨rfl, hp⟩; have q0 := cellS68_0 hp.is.1; have q1 := cellS68_1 hp.is.1; have HQ := Aside0.mk hp; clear hp)
        (try simp only [Act.put, List.setIfInBounds_toArray, List.set_cons_zero, List.set_cons_succ])
        refine wpAny_take (i := 7) (oi := ⟨some 19, _, _, _, _, _⟩) (v := .bool true) rfl (by kernel_rfl) (by kernel_rfl) (by kernel_rfl) (fun _ _ _ h => h) (Or.inl ⟨by kernel_rfl, fun _ => by go_simp⟩) ?_
        (try simp only [Act.put, List.setIfInBounds_toArray, List.set_cons_zero, List.set_cons_succ])
        refine wpAny_take (i := 8) (oi := ⟨some 20, _, _, _, _, _⟩) (v := .bool true) rfl (by kernel_rfl) (by kernel_rfl) (by kernel_rfl) (fun _ _ _ h => h) (Or.inl ⟨by kernel_rfl, fun _ => by go_simp⟩) ?_
        (try simp only [Act.put, List.setIfInBounds_toArray, List.set_cons_zero, List.set_cons_succ])
        refine wpAny_take (i := 9) (oi := ⟨some 21, _, _, _, _, _⟩) (v := .bool true) rfl (by kernel_rfl) (by kernel_rfl) (by kernel_rfl) (fun _ _ _ h => h) (Or.inl ⟨by kernel_rfl, fun _ => by go_simp⟩) ?_
        (try simp only [Act.put, List.setIfInBounds_toArray, List.set_cons_zero, List.set_cons_succ])
        refine wpAny_take (i := 10) (oi := ⟨some 22, _, _, _, _, _⟩) (v := undef) rfl (by kernel_rfl) (by kernel_rfl) (by kernel_rfl) (fun _ _ _ h => h) (Or.inr ⟨by kernel_rfl, rfl⟩) ?_
        (try simp only [Act.put, List.setIfInBounds_toArray, List.set_cons_zero, List.set_cons_succ])
        refine wpAny_take (i := 11) (oi := ⟨some 23, _, _, _, _, _⟩) (v := undef) rfl (by kernel_rfl) (by kernel_rfl) (by kernel_rfl) (fun _ _ _ h => h) (Or.inr ⟨by kernel_rfl, rfl⟩) ?_
        (try simp only [Act.put, List.setIfInBounds_toArray, List.set_cons_zero, List.set_cons_succ])
        refine wpAny_take (i := 12) (oi := ⟨some 24, _, _, _, _, _⟩) (v := undef) rfl (by kernel_rfl) (by kernel_rfl) (by kernel_rfl) (fun _ _ _ h => h) (Or.inr ⟨by kernel_rfl, rfl⟩) ?_
        (try simp only [Act.put, List.setIfInBounds_toArray, List.set_cons_zero, List.set_cons_succ])
        refine wpAny_take (i := 13) (oi := ⟨some 25, _, _, _, _, _⟩) (v := undef) rfl (by kernel_rfl) (by kernel_rfl) (by kernel_rfl) (fun _ _ _ h => h) (Or.inr ⟨by kernel_rfl, rfl⟩) ?_
        (try simp only [Act.put, List.setIfInBounds_toArray, List.set_cons_zero, List.set_cons_succ])
        refine wpAny_take (i := 14) (oi := ⟨some 26, _, _, _, _, _⟩) (v := undef) rfl (by kernel_rfl) (by kernel_rfl) (by kernel_rfl) (fun _ _ _ h => h) (Or.inr ⟨by kernel_rfl, rfl⟩) ?_
        (try simp only [Act.put, List.setIfInBounds_toArray, List.set_cons_zero, List.set_cons_succ])
        refine wpAny_take (i := 15) (oi := ⟨some 27, _, _, _, _, _⟩) (v := undef) rfl (by kernel_rfl) (by kernel_rfl) (by kernel_rfl) (fun _ _ _ h => h) (Or.inr ⟨by kernel_rfl, rfl⟩) ?_
        (try simp only [Act.put, List.setIfInBounds_toArray, List.set_cons_zero, List.set_cons_succ])
        refine wpAny_take (i := 16) (oi := ⟨some 28, _, _, _, _, _⟩) (v := undef) rfl (by kernel_rfl) (by kernel_rfl) (by kernel_rfl) (fun _ _ _ h => h) (Or.inr ⟨by kernel_rfl, rfl⟩) ?_
        (try simp only [Act.put, List.setIfInBounds_toArray, List.set_cons_zero, List.set_cons_succ])
        refine wpAny_take (i := 17) (oi := ⟨some 29, _, _, _, _, _⟩) (v := undef) rfl (by kernel_rfl) (by kernel_rfl) (by kernel_rfl) (fun _ _ _ h => h) (Or.inr ⟨by kernel_rfl, rfl⟩) ?_
        (try simp only [Act.put, List.setIfInBounds_toArray, List.set_cons_zero, List.set_cons_succ])
        refine wpAny_take (i := 18) (oi := ⟨some 30, _, _, _, _, _⟩) (v := undef) rfl (by kernel_rfl) (by kernel_rfl) (by kernel_rfl) (fun _ _ _ h => h) (Or.inr ⟨by kernel_rfl, rfl⟩) ?_
        (try simp only [Act.put, List.setIfInBounds_toArray, List.set_cons_zero, List.set_cons_succ])
        refine wpAny_take (i := 19) (oi := ⟨some 31, _, _, _, _, _⟩) (v := undef) rfl (by kernel_rfl) (by kernel_rfl) (by kernel_rfl) (fun _ _ _ h => h) (Or.inr ⟨by kernel_rfl, rfl⟩) ?_
        (try simp only [Act.put, List.setIfInBounds_toArray, List.set_cons_zero, List.set_cons_succ])
        refine wpAny_take (i := 20) (oi := ⟨some 32, _, _, _, _, _⟩) (v := .bool true) rfl (by kernel_rfl) (by kernel_rfl) (by kernel_rfl) (fun _ _ _ h => h) (Or.inl ⟨by kernel_rfl, fun _ => by go_simp⟩) ?_
        (try simp only [Act.put, List.setIfInBounds_toArray, List.set_cons_zero, List.set_cons_succ])
        refine wpAny_done (by kernel_rfl) ?_ _
        (try simp only [Act.put, List.setIfInBounds_toArray, List.set_cons_zero, List.set_cons_succ])
        go_wp2_with fail
        go_meet
        exact ⟨_, _, _, _, _, _, rfl, H3, HQ⟩
  case rest =>
    clear H T HP
    obtain ⟨t, S1, At1, K1, Lo1, Ba1, rfl, H, HP⟩ := hcut
    cases t with
    | true =>
      have H2 := H.out
      unfold fp at H2
      rw [if_pos rfl] at H2
      simp only [Option.some.injEq, Prod.mk.injEq] at H2
      obtain ⟨rfl, rfl, rfl, rfl, rfl, rfl⟩ := H2
      go_wp2_with fail
      go_ret
      exact ⟨rfl, HP.out.is, HP.out.below, HP.out.keep⟩
    | false =>
      have H2 := H.out
      clear H
      unfold fp at H2
      rw [if_neg (by simp)] at H2
      obtain ⟨⟨S2, At2, K2, Lo2, Ba2⟩, ht, H2⟩ := Option.bind_eq_some_iff.mp H2
      dsimp only at H2
      have T1 := Lib.hid (HP.out.take ht)
      clear ht HP
      unfold fm at H2
      obtain ⟨⟨c3, S3, At3, K3, Lo3, Ba3⟩, hn, H2⟩ := Option.bind_eq_some_iff.mp H2
      dsimp only at H2
      have T2 := Lib.hid (fun (W : World) (hp : PI w0 w W g S2 At2 K2 Lo2 Ba2) => hp.next hn)
      clear hn
      obtain ⟨m, hm⟩ : ∃ m : Bool, (c3 == 45) = m := ⟨_, rfl⟩
      have HM := Aside0.mk hm
      have H3 := Aside0.mk H2
      clear H2
      go_upto_if 39 with (first
        | (go_at_call 85; (with_reducible refine T1.out.mono ?_); rintro e w2 ⟨rfl, hp⟩; have HQ := Aside0.mk hp; clear hp)
        | (go_at_call 59; (with_reducible refine (T2.out _ HQ.out).mono ?_); rintro e w3 ⟨rfl, hp⟩; have HR := Aside0.mk hp; clear hp))
      clear hm
      go_cut [] (fun wc => ∃ (S4 : ByteArray) (At4 K4 : Int) (Lo4 Ba4 : Bool), Aside0 (ft k b1 m S4 At4 K4 Lo4 Ba4 = some (r1, r2, r3, r4, r5, r6)) ∧ Aside0 (PI w0 w wc g S4 At4 K4 Lo4 Ba4))
      case first =>
        have H2 := H3.out
        clear H3
        cases m with
        | true =>
          have hc : c3 = 45 := beq_iff_eq.1 HM.out
          rw [if_pos hc] at H2
          obtain ⟨⟨S4, At4, K4, Lo4, Ba4⟩, ht, H2⟩ := Option.bind_eq_some_iff.mp H2
          dsimp only at H2
          have T3 := Lib.hid (HR.out.take ht)
          have H3 := Aside0.mk H2
          clear H2 ht hc
          go_wp2_with (go_at_call 85; (with_reducible refine T3.out.mono ?_); rintro e w4 ⟨rfl, hp⟩; have HS := Aside0.mk hp; clear hp)
          go_meet
          exact ⟨_, _, _, _, _, H3, HS⟩
        | false =>
          have hc : ¬ c3 = 45 := beq_eq_false_iff_ne.1 HM.out
          rw [if_neg hc] at H2
          have H3 := Aside0.mk H2
          clear H2 hc
          go_wp2_with fail
          go_meet
          exact ⟨_, _, _, _, _, H3, HR⟩
      case rest =>
        clear H3 T1 T2 HM HQ HR
        obtain ⟨S4, At4, K4, Lo4, Ba4, H, HP⟩ := hcut
        have H2 := H.out
        clear H
        unfold ft at H2
        obtain ⟨⟨c5, S5, At5, K5, Lo5, Ba5⟩, hn, H2⟩ := Option.bind_eq_some_iff.mp H2
        dsimp only at H2
        by_cases h0 : At5 < 0
        · rw [if_pos h0] at H2; cases H2
        rw [if_neg h0] at H2
        clear h0
        obtain ⟨⟨AtE, nE, dE⟩, hf, H2⟩ := Option.bind_eq_some_iff.mp H2
        dsimp only at H2
        have T1 := Lib.hid (HP.out.next hn)
        have HE := Aside0.mk H2
        have HF := Aside0.mk hf
        clear hn HP H2 hf
        go_wp2_with (go_at_call 59; (with_reducible refine T1.out.mono ?_); rintro e w2 ⟨rfl, hp⟩; have HQ := Aside0.mk hp; clear hp)
        go_loopg [7, 8] k (fun kq v7 v8 wx => ∃ (n d At : Int), v7 = .int .i64 n ∧ v8 = .int .i64 d ∧ Aside0 (fl kq S5 At n d = some (AtE, nE, dE)) ∧ Aside0 (PI w0 w wx g S5 At K5 Lo5 Ba5))
        case atStart => exact ⟨0, 0, At5, rfl, rfl, HF, HQ⟩
        case round =>
          clear HF HQ T1
          obtain ⟨n, d, At, rfl, rfl, HF, HP⟩ := hrel
          cases gk with
          | zero => exact absurd HF.out (by simp [fl])
          | succ kj =>
            have hF := HF.out
            clear HF
            simp only [fl] at hF
            by_cases h0 : At < 0
            · rw [if_pos h0] at hF; cases hF
            rw [if_neg h0] at hF
            have hx := bt_at S5 At
            have p0 : (0 ≤ At) = True := eq_true (Int.not_lt.1 h0)
            have c0 := cellS68_0 HP.out.is.1
            have c1 := cellS68_1 HP.out.is.1
            have c4 := cellS68_4 HP.out.is.1
            have f1 := blk_frozen HP.out.is.1 1
            have f4 := blk_frozen HP.out.is.1 4
            clear h0
            by_cases hc : At < (S5.size : Int) ∧ 48 ≤ bt S5 At ∧ bt S5 At ≤ 57
            · rw [if_pos hc] at hF
              obtain ⟨e1, e2, e3⟩ := hc
              have d1 : decide (At < (S5.size : Int)) = true := decide_eq_true e1
              have d2 : decide (48 ≤ bt S5 At) = true := decide_eq_true e2
              have d3 : decide (bt S5 At ≤ 57) = true := decide_eq_true e3
              have p1 : (At < (S5.size : Int)) = True := eq_true e1
              clear e1 e2 e3
              by_cases h7 : d < 7
              · rw [if_pos h7] at hF
                have d4 : decide (d < 7) = true := decide_eq_true h7
                have HF := Aside0.mk hF
                clear hF h7
                go_wp2_with fail
                go_quiet (fail)
                go_wp2_with fail
                go_quiet (fail)
                go_wp2_with fail
                go_roundg kj
                case measure => omega
                case rel => exact ⟨wrap64 (wrap64 (10 * n) + (bt S5 At - 48) % 256), wrap64 (d + 1), wrap64 (At + 1), by first | rfl | (simp; done), by first | rfl | (simp; done), HF, ⟨(HP.out.drewN _).at _⟩⟩
              · rw [if_neg h7] at hF
                have d4 : decide (d < 7) = false := decide_eq_false h7
                have HF := Aside0.mk hF
                clear hF h7
                go_wp2_with fail
                go_quiet (fail)
                have HP2 := Aside0.mk ((HP.out.drewN nq).at (wrap64 (At + 1)))
                go_wp2_with fail
                go_roundg kj
                case measure => omega
                case rel => exact ⟨n, d, wrap64 (At + 1), rfl, rfl, HF, ⟨HP2.out⟩⟩
            · rw [if_neg hc] at hF
              simp only [Option.some.injEq, Prod.mk.injEq] at hF
              obtain ⟨rfl, rfl, rfl⟩ := hF
              have H2 := HE.out
              clear HE
              have hexit : decide (At < (S5.size : Int)) = false ∨ (decide (At < (S5.size : Int)) = true ∧ decide (48 ≤ bt S5 At) = false) ∨ (decide (At < (S5.size : Int)) = true ∧ decide (48 ≤ bt S5 At) = true ∧ decide (bt S5 At ≤ 57) = false) := by
                by_cases a : At < (S5.size : Int)
                · by_cases b : 48 ≤ bt S5 At
                  · exact .inr (.inr ⟨decide_eq_true a, decide_eq_true b, decide_eq_false (fun c => hc ⟨a, b, c⟩)⟩)
                  · exact .inr (.inl ⟨decide_eq_true a, decide_eq_false b⟩)
                · exact .inl (decide_eq_false a)
              clear hc
              unfold fe at H2
              by_cases e1 : d < 1 ∨ 6 < d
              · rw [if_pos e1] at H2
                simp only [Option.some.injEq, Prod.mk.injEq] at H2
                obtain ⟨rfl, rfl, rfl, rfl, rfl, rfl⟩ := H2
                have hd : decide (d < 1) = true ∨ (decide (d < 1) = false ∧ decide (6 < d) = true) := by
                  by_cases a : d < 1
                  · exact .inl (decide_eq_true a)
                  · exact .inr ⟨decide_eq_false a, decide_eq_true (e1.resolve_left a)⟩
                clear e1
                rcases hd with g1 | ⟨g1, g2⟩ <;> rcases hexit with x1 | ⟨x1, x2⟩ | ⟨x1, x2, x3⟩ <;> (first | (have p1 : (At < (S5.size : Int)) = True := eq_true (of_decide_eq_true x1)) | skip) <;> (go_wp2_with fail; go_quiet (fail); have HQ := Aside0.mk ((HP.out.drewN nq).bad); go_wp2_with fail; go_ret; exact ⟨rfl, HQ.out.is, HQ.out.below, HQ.out.keep⟩)
              · rw [if_neg e1] at H2
                have g1 : decide (d < 1) = false := decide_eq_false (fun x => e1 (.inl x))
                have g2 : decide (6 < d) = false := decide_eq_false (fun x => e1 (.inr x))
                clear e1
                obtain ⟨⟨b, S6, At6, K6, Lo6, Ba6⟩, hl, H2⟩ := Option.bind_eq_some_iff.mp H2
                dsimp only at H2
                have L := Lib.hid (fun (W : World) (hp : PI w0 w W g S5 At K5 Lo5 Ba5) => hp.long hl)
                clear hl
                cases b with
                | true =>
                  rw [if_pos (.inl rfl)] at H2
                  simp only [Option.some.injEq, Prod.mk.injEq] at H2
                  obtain ⟨rfl, rfl, rfl, rfl, rfl, rfl⟩ := H2
                  rcases hexit with x1 | ⟨x1, x2⟩ | ⟨x1, x2, x3⟩ <;> (first | (have p1 : (At < (S5.size : Int)) = True := eq_true (of_decide_eq_true x1)) | skip) <;> (go_wp2_with fail; go_quiet (fail); have HZ := Aside0.mk (HP.out.drewN nq); go_wp2_with (go_at_call 73; (with_reducible refine (L.out _ HZ.out).mono ?_); rintro e w5 ⟨rfl, hp⟩; have c9 := cellS68_4 hp.is.1; have HQ := Aside0.mk hp; clear hp); go_ret; exact ⟨rfl, HQ.out.is, HQ.out.below, HQ.out.keep⟩)
                | false =>
                  cases Ba6 with
                  | true =>
                    rw [if_pos (.inr rfl)] at H2
                    simp only [Option.some.injEq, Prod.mk.injEq] at H2
                    obtain ⟨rfl, rfl, rfl, rfl, rfl, rfl⟩ := H2
                    rcases hexit with x1 | ⟨x1, x2⟩ | ⟨x1, x2, x3⟩ <;> (first | (have p1 : (At < (S5.size : Int)) = True := eq_true (of_decide_eq_true x1)) | skip) <;> (go_wp2_with fail; go_quiet (fail); have HZ := Aside0.mk (HP.out.drewN nq); go_wp2_with (go_at_call 73; (with_reducible refine (L.out _ HZ.out).mono ?_); rintro e w5 ⟨rfl, hp⟩; have c9 := cellS68_4 hp.is.1; have HQ := Aside0.mk hp; clear hp); go_ret; exact ⟨rfl, HQ.out.is, HQ.out.below, HQ.out.keep⟩)
                  | false =>
                    rw [if_neg (by simp)] at H2
                    cases m with
                    | true =>
                      rw [if_pos rfl] at H2
                      obtain ⟨x, hi, H2⟩ := Option.bind_eq_some_iff.mp H2
                      obtain ⟨y, hc, H2⟩ := Option.bind_eq_some_iff.mp H2
                      obtain ⟨z, hr, H2⟩ := Option.bind_eq_some_iff.mp H2
                      simp only [Option.some.injEq, Prod.mk.injEq] at H2
                      obtain ⟨rfl, rfl, rfl, rfl, rfl, rfl⟩ := H2
                      have I := Lib.hid (fun (W : World) => cayleyref01_Inverse.calls k b1 x W hi)
                      have C := Lib.hid (fun (W : World) => cayleyref01_copies.calls k x n y W hc)
                      have R := Lib.hid (fun (W : World) => cayleyref01_Reduce.calls k y z W hr)
                      clear hi hc hr
                      rcases hexit with x1 | ⟨x1, x2⟩ | ⟨x1, x2, x3⟩ <;> (first | (have p1 : (At < (S5.size : Int)) = True := eq_true (of_decide_eq_true x1)) | skip) <;> (go_wp2_with fail; go_quiet (fail); have HZ := Aside0.mk (HP.out.drewN nq); go_wp2_with (first | (go_at_call 73; (with_reducible refine (L.out _ HZ.out).mono ?_); rintro e w5 ⟨rfl, hp⟩; have c9 := cellS68_4 hp.is.1; have HQ := Aside0.mk hp; clear hp) | (go_at_call 20; (with_reducible refine (I.out _).mono ?_); rintro e w6 ⟨rfl, hb⟩; have HQ' := Aside0.mk (HQ.out.later hb); clear HQ hb; have HQ := HQ'; clear HQ') | (go_at_call 52; (with_reducible refine (C.out _).mono ?_); rintro e w7 ⟨rfl, hb⟩; have HQ' := Aside0.mk (HQ.out.later hb); clear HQ hb; have HQ := HQ'; clear HQ') | (go_at_call 22; (with_reducible refine (R.out _).mono ?_); rintro e w8 ⟨rfl, hb⟩; have HQ' := Aside0.mk (HQ.out.later hb); clear HQ hb; have HQ := HQ'; clear HQ')); go_ret; exact ⟨rfl, HQ.out.is, HQ.out.below, HQ.out.keep⟩)
                    | false =>
                      rw [if_neg (by simp)] at H2
                      obtain ⟨y, hc, H2⟩ := Option.bind_eq_some_iff.mp H2
                      obtain ⟨z, hr, H2⟩ := Option.bind_eq_some_iff.mp H2
                      simp only [Option.some.injEq, Prod.mk.injEq] at H2
                      obtain ⟨rfl, rfl, rfl, rfl, rfl, rfl⟩ := H2
                      have C := Lib.hid (fun (W : World) => cayleyref01_copies.calls k b1 n y W hc)
                      have R := Lib.hid (fun (W : World) => cayleyref01_Reduce.calls k y z W hr)
                      clear hc hr
                      rcases hexit with x1 | ⟨x1, x2⟩ | ⟨x1, x2, x3⟩ <;> (first | (have p1 : (At < (S5.size : Int)) = True := eq_true (of_decide_eq_true x1)) | skip) <;> (go_wp2_with fail; go_quiet (fail); have HZ := Aside0.mk (HP.out.drewN nq); go_wp2_with (first | (go_at_call 73; (with_reducible refine (L.out _ HZ.out).mono ?_); rintro e w5 ⟨rfl, hp⟩; have c9 := cellS68_4 hp.is.1; have HQ := Aside0.mk hp; clear hp) | (go_at_call 52; (with_reducible refine (C.out _).mono ?_); rintro e w7 ⟨rfl, hb⟩; have HQ' := Aside0.mk (HQ.out.later hb); clear HQ hb; have HQ := HQ'; clear HQ') | (go_at_call 22; (with_reducible refine (R.out _).mono ?_); rintro e w8 ⟨rfl, hb⟩; have HQ' := Aside0.mk (HQ.out.later hb); clear HQ hb; have HQ := HQ'; clear HQ')); go_ret; exact ⟨rfl, HQ.out.is, HQ.out.below, HQ.out.keep⟩)
end Go.Proofs.YthiehmogphknlaaGreatDoor.PQ
