/- The parser's base: the walk, over a contract of what reads the brackets' contents. (Printed by wip/gen_parse4.py.) The parser's factor. The parser's sum: the walk, by induction on the rounds. word.Parse: the deferred closure, and the whole. word.Parse itself: the box, the deferred catch, the readings that are no word. -/
import Derived.Test.YthiehmogphknlaaGreatDoorParseA
import Derived.Deep.QuietTactic
import Derived.BigQuiet
import Derived.Deep.LoopGhost
import Derived.Recover
import Derived.RegionTactic
import Derived.BigRegion
import Derived.Laws.Pointers
import Derived.Defers
import Derived.Deep.Heap
namespace Go.Proofs.YthiehmogphknlaaGreatDoor.Parse
open Go.RowKit Go.Proofs.YthiehmogphknlaaGreatDoor.G Go.Proofs.YthiehmogphknlaaGreatDoor.PA Go.Proofs.YthiehmogphknlaaGreatDoorW.PrintWords Go.Proofs.YthiehmogphknlaaGreatDoor.Free Go.Proofs.YthiehmogphknlaaGreatDoor.Pure1
/-- The contract of the reading of a sum. -/
def SumC (k D : Int) (F : Int → List UInt8 → Bool → Res (List UInt8)) : Prop :=
  ∀ (g : Nat) (w : World) (l : List UInt8) (o : Bool) (d : Int) (r : Option (List UInt8 × List UInt8 × Bool)), 0 ≤ d → d ≤ D → l.length ≤ 140737488355328 → (o = false → l.length ≤ 100000) → PS g k w l o → GP g w → F d l o = some r →
    Calls Tryz.prog 61 #[.pointer (some ⟨g, 0, none⟩), .int .i64 d] w (POut g k w r)
theorem PS.drewN {g : Nat} {k : Int} {w : World} {l : List UInt8} {o : Bool} (h : PS g k w l o) (n : Nat) : PS g k (w.drewN n) l o := h
theorem conv_one (x : UInt8) (y : Int) (hy : (x.toNat : Int) = y) : ∀ W : World, (convert 55 9 (.slice (some ⟨W.heap.size, 0, none⟩) 1 1)).run Tryz.prog (W.alloc (.cells #[.int .u8 y] 5)) = .ok (.string (B [x])) (W.alloc (.cells #[.int .u8 y] 5)) := by
  intro W
  have hC : (Kd.int .u8).C (W.alloc (.cells #[.int .u8 y] 5)) (some ⟨W.heap.size, 0, none⟩) 1 [y] := by
    refine Kd.C_of_reads (enc := Value.int .u8) (d := (0 : Int)) (h1 := fun _ => rfl) ⟨rfl, by decide, fun _ => ⟨_, rfl, fun j hj => ?_⟩⟩
    have hb : (W.alloc (.cells #[.int .u8 y] 5)).heap[W.heap.size]? = some (.cells #[.int .u8 y] 5 (0, 0)) := by
      show (W.heap.push _)[W.heap.size]? = _
      rw [Array.getElem?_push_size]
    obtain rfl : j = 0 := by omega
    rw [add_plain, blk_cell hb]
    rfl
  have := Kd.C_string (P := Tryz.prog) (c := 1) Tryz.underlying55 Tryz.underlying5 Tryz.underlying9 hC
  rw [this, ← hy]
  have e : strOfNums [(x.toNat : Int)] = B [x] := str_toI [x]
  rw [e]
theorem lit_C (xs : List ByteArray) (w : World) (e : TypeId) (hn : xs.length ≤ 9223372036854775807) : Kd.C Kd.string (w.alloc (.cells (xs.map Value.string).toArray e)) (some ⟨w.heap.size, 0, none⟩) xs.length xs := by
  refine Kd.C_of_reads (enc := Value.string) (d := ByteArray.empty) (h1 := fun _ => rfl) ⟨rfl, hn, fun _ => ⟨_, rfl, fun j hj => ?_⟩⟩
  have hb : (w.alloc (.cells (xs.map Value.string).toArray e)).heap[w.heap.size]? = some (.cells (xs.map Value.string).toArray e (0, 0)) := by
    show (w.heap.push _)[w.heap.size]? = _
    rw [Array.getElem?_push_size]
  rw [add_plain, blk_cell hb, List.getElem?_toArray, List.getElem?_map, List.getElem?_eq_getElem hj, List.getD_eq_getElem?_getD, List.getElem?_eq_getElem hj]
  rfl
theorem reduce_four (a b c d : List UInt8) (w : World) (hl : (a ++ b ++ c ++ d).length < 140737488355328) :
    Calls Tryz.prog 47 #[.slice (some ⟨w.heap.size, 0, none⟩) 4 4] (w.alloc (.cells #[.string (B a), .string (B b), .string (B c), .string (B d)] 9)) fun e w' => e = .returned (.string (B (red (a ++ b ++ c ++ d)))) ∧ Below w.heap.size w w' := by
  have hcat : cat [B a, B b, B c, B d] = a ++ b ++ c ++ d := by simp [cat, L_B]
  have h := reduce_any (some ⟨w.heap.size, 0, none⟩) 4 [B a, B b, B c, B d] (w.alloc (.cells #[.string (B a), .string (B b), .string (B c), .string (B d)] 9)) (lit_C _ w _ (by simp)) (by simp) (by rw [hcat]; exact hl) (by simp)
  rw [hcat] at h
  exact h.mono fun e w' ⟨he, hb⟩ => ⟨he, below_then (below_alloc (Below.refl _ _) _) (by simp) hb⟩
theorem fits_int (g : Nat) (k : Int) (w : World) (l : List UInt8) (o : Bool) (n : Nat) (x : Int) (hx : x = n) (h : PS g k w l o) :
    Calls Tryz.prog 75 #[.pointer (some ⟨g, 0, none⟩), .int .i64 x] w fun e w' => e = .returned (.bool (!over n o)) ∧ PS g k w' l (over n o) ∧ Kp g w w' := by
  subst hx
  exact fits_any g k w l o n h
theorem expect_ok {g : Nat} {k : Int} {w : World} {l l' : List UInt8} {o : Bool} {c : Int} (h : PS g k w l o) (he : expectP c l = some l') :
    Calls Tryz.prog 102 #[.pointer (some ⟨g, 0, none⟩), .int .u8 c] w fun e w' => e = .returned (.tuple #[]) ∧ PS g k w' l' o ∧ Kp g w w' := by
  have := expect_any g k w l o c h
  rw [he] at this
  exact this
theorem expect_bad {g : Nat} {k : Int} {w : World} {l : List UInt8} {o : Bool} {c : Int} (h : PS g k w l o) (he : expectP c l = none) :
    Calls Tryz.prog 102 #[.pointer (some ⟨g, 0, none⟩), .int .u8 c] w fun e w' => e = .panicked bad ∧ Kp g w w' := by
  have := expect_any g k w l o c h
  rw [he] at this
  exact this
theorem expect_at {l : List UInt8} {c : Int} (hc : hdC (trimL l) = c) (h0 : c ≠ 0) : expectP c (trimL l) = some (trimL l).tail := by
  unfold expectP
  rw [trim_trim, if_neg (by rintro (h | h); exact h hc; exact h0 h)]
set_option maxHeartbeats 4000000 in
set_option maxRecDepth 100000 in
theorem base_any (k : Int) (hk0 : 1 ≤ k) (hk1 : k ≤ 8) (D : Int) (hD : D ≤ 4611686018427387904) (sum : Int → List UInt8 → Bool → Res (List UInt8)) (hS : SumC k D sum) (hGood : ∀ d, Good (sum d))
    (g : Nat) (w : World) (l : List UInt8) (o : Bool) (d : Int) (r : Option (List UInt8 × List UInt8 × Bool)) (hd0 : 0 ≤ d) (hd1 : d + 1 ≤ D) (hl : l.length ≤ 140737488355328) (ho : o = false → l.length ≤ 100000) (hP : PS g k w l o) (hG : GP g w) (hr : baseP sum k d l o = some r) :
    Calls Tryz.prog 86 #[.pointer (some ⟨g, 0, none⟩), .int .i64 d] w (POut g k w r) := by
  have T := next_any g k w l o hP
  have hlt := trimL_le l
  have htl : (trimL l).tail.length ≤ (trimL l).length := by simp
  unfold baseP at hr
  dsimp only at hr
  have hSS := Lib.hid hS
  have hGG := Lib.hid hGood
  clear hS hGood hP
  by_cases hc : hdC (trimL l) = 49
  · rw [if_pos hc] at hr
    obtain rfl := Option.some.inj hr
    have he := expect_at hc (by decide)
    have HE := Aside0.mk he
    clear he hr
    rw [hc] at T
    have TT := Lib.hid T
    clear T
    go_enter Tryz.func86, Tryz.ntmps86
    go_wp2_with fail
    refine (TT.out).mono ?_
    rintro e w1 ⟨rfl, hp1, hk1⟩
    have Hp1 := Aside0.mk hp1
    have Hk1 := Aside0.mk hk1
    clear hp1 hk1
    go_wp2_with fail
    refine (expect_ok Hp1.out (c := 49) (HE.out)).mono ?_
    rintro e w2 ⟨rfl, hp2, hk2⟩
    have Hp2 := Aside0.mk hp2
    have Hk2 := Aside0.mk (Hk1.out.trans hk2)
    clear hp2 hk2
    go_wp2
    go_ret
    exact ⟨rfl, Hp2.out, Hk2.out⟩
  · rw [if_neg hc] at hr
    have m1 : (hdC (trimL l) == 49) = false := beq_eq_false_iff_ne.mpr hc
    clear hc
    by_cases hc : hdC (trimL l) = 40
    · rw [if_pos hc] at hr
      have HE := Aside0.mk (expect_at hc (by decide))
      cases hq : sum (d + 1) (trimL l).tail (o || decide (20 < d)) with
      | none => rw [hq] at hr; cases hr
      | some r1 =>
        rw [hq] at hr
        have HQ := Aside0.mk hq
        clear hq
        cases r1 with
        | none =>
          obtain rfl := Option.some.inj hr
          clear hr
          rw [hc] at T
          have TT := Lib.hid T
          clear T
          go_enter Tryz.func86, Tryz.ntmps86
          go_wp2_with fail
          refine (TT.out).mono ?_
          rintro e w1 ⟨rfl, hp1, hk1⟩
          have Hp1 := Aside0.mk hp1
          have Hk1 := Aside0.mk hk1
          clear hp1 hk1
          go_wp2_with fail
          refine (expect_ok Hp1.out (c := 40) (HE.out)).mono ?_
          rintro e w2 ⟨rfl, hp2, hk2⟩
          have Hp2 := Aside0.mk hp2
          have Hk2 := Aside0.mk (Hk1.out.trans hk2)
          clear hp2 hk2
          go_wp2_with fail
          refine (deeper_any g k _ _ _ d hd0 (by omega) Hp2.out).mono ?_
          rintro e w3 ⟨rfl, hp3, hk3⟩
          have Hp3 := Aside0.mk hp3
          have Hk3 := Aside0.mk (Hk2.out.trans hk3)
          clear hp3 hk3
          go_wp2_with fail
          refine (hSS.out g _ _ _ (d + 1) _ (by omega) (by omega) (by omega) (fun h => by have := ho (Bool.or_eq_false_iff.mp h).1; omega) Hp3.out (hG.kp Hk3.out) HQ.out).mono ?_
          rintro e w4 ⟨rfl, hk4⟩
          (try go_wp2)
          exact ⟨rfl, rfl, Hk3.out.trans hk4⟩
        | some r1 =>
          obtain ⟨v, l1, o1⟩ := r1
          have hg1 := (hGG.out _ _ _ _ _ _ HQ.out).2.1
          dsimp only [Res.bind] at hr
          cases he : expectP 41 l1 with
          | none =>
            rw [he] at hr
            obtain rfl := Option.some.inj hr
            have HF := Aside0.mk he
            clear he hr
            rw [hc] at T
            have TT := Lib.hid T
            clear T
            go_enter Tryz.func86, Tryz.ntmps86
            go_wp2_with fail
            refine (TT.out).mono ?_
            rintro e w1 ⟨rfl, hp1, hk1⟩
            have Hp1 := Aside0.mk hp1
            have Hk1 := Aside0.mk hk1
            clear hp1 hk1
            go_wp2_with fail
            refine (expect_ok Hp1.out (c := 40) (HE.out)).mono ?_
            rintro e w2 ⟨rfl, hp2, hk2⟩
            have Hp2 := Aside0.mk hp2
            have Hk2 := Aside0.mk (Hk1.out.trans hk2)
            clear hp2 hk2
            go_wp2_with fail
            refine (deeper_any g k _ _ _ d hd0 (by omega) Hp2.out).mono ?_
            rintro e w3 ⟨rfl, hp3, hk3⟩
            have Hp3 := Aside0.mk hp3
            have Hk3 := Aside0.mk (Hk2.out.trans hk3)
            clear hp3 hk3
            go_wp2_with fail
            refine (hSS.out g _ _ _ (d + 1) _ (by omega) (by omega) (by omega) (fun h => by have := ho (Bool.or_eq_false_iff.mp h).1; omega) Hp3.out (hG.kp Hk3.out) HQ.out).mono ?_
            rintro e w4 ⟨rfl, hp4, hk4⟩
            have Hp4 := Aside0.mk hp4
            have Hk4 := Aside0.mk (Hk3.out.trans hk4)
            clear hp4 hk4
            go_wp2_with fail
            refine (expect_bad Hp4.out (c := 41) (HF.out)).mono ?_
            rintro e w5 ⟨rfl, hk5⟩
            (try go_wp2)
            exact ⟨rfl, rfl, Hk4.out.trans hk5⟩
          | some l2 =>
            rw [he] at hr
            obtain rfl := Option.some.inj hr
            have HF := Aside0.mk he
            clear he hr
            rw [hc] at T
            have TT := Lib.hid T
            clear T
            go_enter Tryz.func86, Tryz.ntmps86
            go_wp2_with fail
            refine (TT.out).mono ?_
            rintro e w1 ⟨rfl, hp1, hk1⟩
            have Hp1 := Aside0.mk hp1
            have Hk1 := Aside0.mk hk1
            clear hp1 hk1
            go_wp2_with fail
            refine (expect_ok Hp1.out (c := 40) (HE.out)).mono ?_
            rintro e w2 ⟨rfl, hp2, hk2⟩
            have Hp2 := Aside0.mk hp2
            have Hk2 := Aside0.mk (Hk1.out.trans hk2)
            clear hp2 hk2
            go_wp2_with fail
            refine (deeper_any g k _ _ _ d hd0 (by omega) Hp2.out).mono ?_
            rintro e w3 ⟨rfl, hp3, hk3⟩
            have Hp3 := Aside0.mk hp3
            have Hk3 := Aside0.mk (Hk2.out.trans hk3)
            clear hp3 hk3
            go_wp2_with fail
            refine (hSS.out g _ _ _ (d + 1) _ (by omega) (by omega) (by omega) (fun h => by have := ho (Bool.or_eq_false_iff.mp h).1; omega) Hp3.out (hG.kp Hk3.out) HQ.out).mono ?_
            rintro e w4 ⟨rfl, hp4, hk4⟩
            have Hp4 := Aside0.mk hp4
            have Hk4 := Aside0.mk (Hk3.out.trans hk4)
            clear hp4 hk4
            go_wp2_with fail
            refine (expect_ok Hp4.out (c := 41) (HF.out)).mono ?_
            rintro e w5 ⟨rfl, hp5, hk5⟩
            have Hp5 := Aside0.mk hp5
            have Hk5 := Aside0.mk (Hk4.out.trans hk5)
            clear hp5 hk5
            go_wp2
            go_ret
            exact ⟨rfl, Hp5.out, Hk5.out⟩
    · rw [if_neg hc] at hr
      have m2 : (hdC (trimL l) == 40) = false := beq_eq_false_iff_ne.mpr hc
      clear hc
      by_cases hc : hdC (trimL l) = 91
      · rw [if_pos hc] at hr
        have HE := Aside0.mk (expect_at hc (by decide))
        cases hq : sum (d + 1) (trimL l).tail (o || decide (20 < d)) with
        | none => rw [hq] at hr; cases hr
        | some r1 =>
          rw [hq] at hr
          have HQ := Aside0.mk hq
          clear hq
          cases r1 with
          | none =>
            obtain rfl := Option.some.inj hr
            clear hr
            rw [hc] at T
            have TT := Lib.hid T
            clear T
            go_enter Tryz.func86, Tryz.ntmps86
            go_wp2_with fail
            refine (TT.out).mono ?_
            rintro e w1 ⟨rfl, hp1, hk1⟩
            have Hp1 := Aside0.mk hp1
            have Hk1 := Aside0.mk hk1
            clear hp1 hk1
            go_wp2_with fail
            refine (expect_ok Hp1.out (c := 91) (HE.out)).mono ?_
            rintro e w2 ⟨rfl, hp2, hk2⟩
            have Hp2 := Aside0.mk hp2
            have Hk2 := Aside0.mk (Hk1.out.trans hk2)
            clear hp2 hk2
            go_wp2_with fail
            refine (deeper_any g k _ _ _ d hd0 (by omega) Hp2.out).mono ?_
            rintro e w3 ⟨rfl, hp3, hk3⟩
            have Hp3 := Aside0.mk hp3
            have Hk3 := Aside0.mk (Hk2.out.trans hk3)
            clear hp3 hk3
            go_wp2_with fail
            refine (hSS.out g _ _ _ (d + 1) _ (by omega) (by omega) (by omega) (fun h => by have := ho (Bool.or_eq_false_iff.mp h).1; omega) Hp3.out (hG.kp Hk3.out) HQ.out).mono ?_
            rintro e w4 ⟨rfl, hk4⟩
            (try go_wp2)
            exact ⟨rfl, rfl, Hk3.out.trans hk4⟩
          | some r1 =>
            obtain ⟨u, l1, o1⟩ := r1
            have HO : Aside0 (o1 = false → o = false) := ⟨fun h => by cases o with | false => rfl | true => exact absurd ((hGG.out _ _ _ _ _ _ HQ.out).2.2 rfl) (by rw [h]; decide)⟩
            have hg1 := (hGG.out _ _ _ _ _ _ HQ.out).2.1
            have hu := (hGG.out _ _ _ _ _ _ HQ.out).1
            dsimp only [Res.bind] at hr
            cases he : expectP 44 l1 with
            | none =>
              rw [he] at hr
              obtain rfl := Option.some.inj hr
              have HF := Aside0.mk he
              clear he hr
              rw [hc] at T
              have TT := Lib.hid T
              clear T
              go_enter Tryz.func86, Tryz.ntmps86
              go_wp2_with fail
              refine (TT.out).mono ?_
              rintro e w1 ⟨rfl, hp1, hk1⟩
              have Hp1 := Aside0.mk hp1
              have Hk1 := Aside0.mk hk1
              clear hp1 hk1
              go_wp2_with fail
              refine (expect_ok Hp1.out (c := 91) (HE.out)).mono ?_
              rintro e w2 ⟨rfl, hp2, hk2⟩
              have Hp2 := Aside0.mk hp2
              have Hk2 := Aside0.mk (Hk1.out.trans hk2)
              clear hp2 hk2
              go_wp2_with fail
              refine (deeper_any g k _ _ _ d hd0 (by omega) Hp2.out).mono ?_
              rintro e w3 ⟨rfl, hp3, hk3⟩
              have Hp3 := Aside0.mk hp3
              have Hk3 := Aside0.mk (Hk2.out.trans hk3)
              clear hp3 hk3
              go_wp2_with fail
              refine (hSS.out g _ _ _ (d + 1) _ (by omega) (by omega) (by omega) (fun h => by have := ho (Bool.or_eq_false_iff.mp h).1; omega) Hp3.out (hG.kp Hk3.out) HQ.out).mono ?_
              rintro e w4 ⟨rfl, hp4, hk4⟩
              have Hp4 := Aside0.mk hp4
              have Hk4 := Aside0.mk (Hk3.out.trans hk4)
              clear hp4 hk4
              go_wp2_with fail
              refine (expect_bad Hp4.out (c := 44) (HF.out)).mono ?_
              rintro e w5 ⟨rfl, hk5⟩
              (try go_wp2)
              exact ⟨rfl, rfl, Hk4.out.trans hk5⟩
            | some l2 =>
              rw [he] at hr
              have hle2 := expectP_le he
              have HF := Aside0.mk he
              clear he
              dsimp only at hr
              cases hq2 : sum (d + 1) l2 o1 with
              | none => rw [hq2] at hr; cases hr
              | some r2 =>
                rw [hq2] at hr
                have HQ2 := Aside0.mk hq2
                clear hq2
                cases r2 with
                | none =>
                  obtain rfl := Option.some.inj hr
                  clear hr
                  rw [hc] at T
                  have TT := Lib.hid T
                  clear T
                  go_enter Tryz.func86, Tryz.ntmps86
                  go_wp2_with fail
                  refine (TT.out).mono ?_
                  rintro e w1 ⟨rfl, hp1, hk1⟩
                  have Hp1 := Aside0.mk hp1
                  have Hk1 := Aside0.mk hk1
                  clear hp1 hk1
                  go_wp2_with fail
                  refine (expect_ok Hp1.out (c := 91) (HE.out)).mono ?_
                  rintro e w2 ⟨rfl, hp2, hk2⟩
                  have Hp2 := Aside0.mk hp2
                  have Hk2 := Aside0.mk (Hk1.out.trans hk2)
                  clear hp2 hk2
                  go_wp2_with fail
                  refine (deeper_any g k _ _ _ d hd0 (by omega) Hp2.out).mono ?_
                  rintro e w3 ⟨rfl, hp3, hk3⟩
                  have Hp3 := Aside0.mk hp3
                  have Hk3 := Aside0.mk (Hk2.out.trans hk3)
                  clear hp3 hk3
                  go_wp2_with fail
                  refine (hSS.out g _ _ _ (d + 1) _ (by omega) (by omega) (by omega) (fun h => by have := ho (Bool.or_eq_false_iff.mp h).1; omega) Hp3.out (hG.kp Hk3.out) HQ.out).mono ?_
                  rintro e w4 ⟨rfl, hp4, hk4⟩
                  have Hp4 := Aside0.mk hp4
                  have Hk4 := Aside0.mk (Hk3.out.trans hk4)
                  clear hp4 hk4
                  go_wp2_with fail
                  refine (expect_ok Hp4.out (c := 44) (HF.out)).mono ?_
                  rintro e w5 ⟨rfl, hp5, hk5⟩
                  have Hp5 := Aside0.mk hp5
                  have Hk5 := Aside0.mk (Hk4.out.trans hk5)
                  clear hp5 hk5
                  go_wp2_with fail
                  refine (hSS.out g _ _ _ (d + 1) _ (by omega) (by omega) (by omega) (fun h => by have := ho (HO.out h); omega) Hp5.out (hG.kp Hk5.out) HQ2.out).mono ?_
                  rintro e w6 ⟨rfl, hk6⟩
                  (try go_wp2)
                  exact ⟨rfl, rfl, Hk5.out.trans hk6⟩
                | some r2 =>
                  obtain ⟨v, l3, o3⟩ := r2
                  have hv := (hGG.out _ _ _ _ _ _ HQ2.out).1
                  dsimp only [Res.bind] at hr
                  cases he : expectP 93 l3 with
                  | none =>
                    rw [he] at hr
                    obtain rfl := Option.some.inj hr
                    have HF3 := Aside0.mk he
                    clear he hr
                    rw [hc] at T
                    have TT := Lib.hid T
                    clear T
                    go_enter Tryz.func86, Tryz.ntmps86
                    go_wp2_with fail
                    refine (TT.out).mono ?_
                    rintro e w1 ⟨rfl, hp1, hk1⟩
                    have Hp1 := Aside0.mk hp1
                    have Hk1 := Aside0.mk hk1
                    clear hp1 hk1
                    go_wp2_with fail
                    refine (expect_ok Hp1.out (c := 91) (HE.out)).mono ?_
                    rintro e w2 ⟨rfl, hp2, hk2⟩
                    have Hp2 := Aside0.mk hp2
                    have Hk2 := Aside0.mk (Hk1.out.trans hk2)
                    clear hp2 hk2
                    go_wp2_with fail
                    refine (deeper_any g k _ _ _ d hd0 (by omega) Hp2.out).mono ?_
                    rintro e w3 ⟨rfl, hp3, hk3⟩
                    have Hp3 := Aside0.mk hp3
                    have Hk3 := Aside0.mk (Hk2.out.trans hk3)
                    clear hp3 hk3
                    go_wp2_with fail
                    refine (hSS.out g _ _ _ (d + 1) _ (by omega) (by omega) (by omega) (fun h => by have := ho (Bool.or_eq_false_iff.mp h).1; omega) Hp3.out (hG.kp Hk3.out) HQ.out).mono ?_
                    rintro e w4 ⟨rfl, hp4, hk4⟩
                    have Hp4 := Aside0.mk hp4
                    have Hk4 := Aside0.mk (Hk3.out.trans hk4)
                    clear hp4 hk4
                    go_wp2_with fail
                    refine (expect_ok Hp4.out (c := 44) (HF.out)).mono ?_
                    rintro e w5 ⟨rfl, hp5, hk5⟩
                    have Hp5 := Aside0.mk hp5
                    have Hk5 := Aside0.mk (Hk4.out.trans hk5)
                    clear hp5 hk5
                    go_wp2_with fail
                    refine (hSS.out g _ _ _ (d + 1) _ (by omega) (by omega) (by omega) (fun h => by have := ho (HO.out h); omega) Hp5.out (hG.kp Hk5.out) HQ2.out).mono ?_
                    rintro e w6 ⟨rfl, hp6, hk6⟩
                    have Hp6 := Aside0.mk hp6
                    have Hk6 := Aside0.mk (Hk5.out.trans hk6)
                    clear hp6 hk6
                    go_wp2_with fail
                    refine (expect_bad Hp6.out (c := 93) (HF3.out)).mono ?_
                    rintro e w7 ⟨rfl, hk7⟩
                    (try go_wp2)
                    exact ⟨rfl, rfl, Hk6.out.trans hk7⟩
                  | some l4 =>
                    rw [he] at hr
                    have HF3 := Aside0.mk he
                    clear he
                    dsimp only at hr
                    have hsu : (B u).size = u.length := size_B u
                    have hsv : (B v).size = v.length := size_B v
                    have HSU := Aside0.mk (And.intro hsu hsv)
                    clear hsu hsv
                    have hb1 : (B u).size ≤ 100000 := by rw [HSU.out.1]; exact hu
                    have hb2 : (B v).size ≤ 100000 := by rw [HSU.out.2]; exact hv
                    have FT := Lib.hid (fun W hW => fits_int g k W l4 o3 (2 * ((B u).size + (B v).size)) (2 * (((B u).size : Int) + ((B v).size : Int))) (by omega) hW)
                    cases hov : over (2 * (u.length + v.length)) o3 with
                    | true =>
                      rw [if_pos hov] at hr
                      obtain rfl := Option.some.inj hr
                      clear hr
                      simp only [HSU.out.1, HSU.out.2, hov] at FT
                      have HOV := Aside0.mk hov
                      clear hov
                      rw [hc] at T
                      have TT := Lib.hid T
                      clear T
                      go_enter Tryz.func86, Tryz.ntmps86
                      go_wp2_with fail
                      refine (TT.out).mono ?_
                      rintro e w1 ⟨rfl, hp1, hk1⟩
                      have Hp1 := Aside0.mk hp1
                      have Hk1 := Aside0.mk hk1
                      clear hp1 hk1
                      go_wp2_with fail
                      refine (expect_ok Hp1.out (c := 91) (HE.out)).mono ?_
                      rintro e w2 ⟨rfl, hp2, hk2⟩
                      have Hp2 := Aside0.mk hp2
                      have Hk2 := Aside0.mk (Hk1.out.trans hk2)
                      clear hp2 hk2
                      go_wp2_with fail
                      refine (deeper_any g k _ _ _ d hd0 (by omega) Hp2.out).mono ?_
                      rintro e w3 ⟨rfl, hp3, hk3⟩
                      have Hp3 := Aside0.mk hp3
                      have Hk3 := Aside0.mk (Hk2.out.trans hk3)
                      clear hp3 hk3
                      go_wp2_with fail
                      refine (hSS.out g _ _ _ (d + 1) _ (by omega) (by omega) (by omega) (fun h => by have := ho (Bool.or_eq_false_iff.mp h).1; omega) Hp3.out (hG.kp Hk3.out) HQ.out).mono ?_
                      rintro e w4 ⟨rfl, hp4, hk4⟩
                      have Hp4 := Aside0.mk hp4
                      have Hk4 := Aside0.mk (Hk3.out.trans hk4)
                      clear hp4 hk4
                      go_wp2_with fail
                      refine (expect_ok Hp4.out (c := 44) (HF.out)).mono ?_
                      rintro e w5 ⟨rfl, hp5, hk5⟩
                      have Hp5 := Aside0.mk hp5
                      have Hk5 := Aside0.mk (Hk4.out.trans hk5)
                      clear hp5 hk5
                      go_wp2_with fail
                      refine (hSS.out g _ _ _ (d + 1) _ (by omega) (by omega) (by omega) (fun h => by have := ho (HO.out h); omega) Hp5.out (hG.kp Hk5.out) HQ2.out).mono ?_
                      rintro e w6 ⟨rfl, hp6, hk6⟩
                      have Hp6 := Aside0.mk hp6
                      have Hk6 := Aside0.mk (Hk5.out.trans hk6)
                      clear hp6 hk6
                      go_wp2_with fail
                      refine (expect_ok Hp6.out (c := 93) (HF3.out)).mono ?_
                      rintro e w7 ⟨rfl, hp7, hk7⟩
                      have Hp7 := Aside0.mk hp7
                      have Hk7 := Aside0.mk (Hk6.out.trans hk7)
                      clear hp7 hk7
                      go_wp2_with fail
                      refine (FT.out _ Hp7.out).mono ?_
                      rintro e w8 ⟨rfl, hp8, hk8⟩
                      have Hp8 := Aside0.mk hp8
                      have Hk8 := Aside0.mk (Hk7.out.trans hk8)
                      clear hp8 hk8
                      go_wp2
                      go_ret
                      exact ⟨rfl, Hp8.out, Hk8.out⟩
                    | false =>
                      rw [if_neg (by rw [hov]; decide)] at hr
                      obtain rfl := Option.some.inj hr
                      clear hr
                      simp only [HSU.out.1, HSU.out.2, hov] at FT
                      have HOV := Aside0.mk hov
                      clear hov
                      have ho3 : o3 = false := (over_false (n := 2 * (u.length + v.length)) (by rw [HOV.out]; decide)).2
                      subst ho3
                      have R4 := Lib.hid (fun W => reduce_four u v (inv u) (inv v) W (by rw [List.length_append, List.length_append, List.length_append, inv_length, inv_length]; omega))
                      obtain ⟨x, hx⟩ : ∃ x, red (u ++ v ++ inv u ++ inv v) = x := ⟨_, rfl⟩
                      rw [hx] at R4
                      rw [hx]
                      clear hx
                      rw [hc] at T
                      have TT := Lib.hid T
                      clear T
                      go_enter Tryz.func86, Tryz.ntmps86
                      go_wp2_with fail
                      refine (TT.out).mono ?_
                      rintro e w1 ⟨rfl, hp1, hk1⟩
                      have Hp1 := Aside0.mk hp1
                      have Hk1 := Aside0.mk hk1
                      clear hp1 hk1
                      go_wp2_with fail
                      refine (expect_ok Hp1.out (c := 91) (HE.out)).mono ?_
                      rintro e w2 ⟨rfl, hp2, hk2⟩
                      have Hp2 := Aside0.mk hp2
                      have Hk2 := Aside0.mk (Hk1.out.trans hk2)
                      clear hp2 hk2
                      go_wp2_with fail
                      refine (deeper_any g k _ _ _ d hd0 (by omega) Hp2.out).mono ?_
                      rintro e w3 ⟨rfl, hp3, hk3⟩
                      have Hp3 := Aside0.mk hp3
                      have Hk3 := Aside0.mk (Hk2.out.trans hk3)
                      clear hp3 hk3
                      go_wp2_with fail
                      refine (hSS.out g _ _ _ (d + 1) _ (by omega) (by omega) (by omega) (fun h => by have := ho (Bool.or_eq_false_iff.mp h).1; omega) Hp3.out (hG.kp Hk3.out) HQ.out).mono ?_
                      rintro e w4 ⟨rfl, hp4, hk4⟩
                      have Hp4 := Aside0.mk hp4
                      have Hk4 := Aside0.mk (Hk3.out.trans hk4)
                      clear hp4 hk4
                      go_wp2_with fail
                      refine (expect_ok Hp4.out (c := 44) (HF.out)).mono ?_
                      rintro e w5 ⟨rfl, hp5, hk5⟩
                      have Hp5 := Aside0.mk hp5
                      have Hk5 := Aside0.mk (Hk4.out.trans hk5)
                      clear hp5 hk5
                      go_wp2_with fail
                      refine (hSS.out g _ _ _ (d + 1) _ (by omega) (by omega) (by omega) (fun h => by have := ho (HO.out h); omega) Hp5.out (hG.kp Hk5.out) HQ2.out).mono ?_
                      rintro e w6 ⟨rfl, hp6, hk6⟩
                      have Hp6 := Aside0.mk hp6
                      have Hk6 := Aside0.mk (Hk5.out.trans hk6)
                      clear hp6 hk6
                      go_wp2_with fail
                      refine (expect_ok Hp6.out (c := 93) (HF3.out)).mono ?_
                      rintro e w7 ⟨rfl, hp7, hk7⟩
                      have Hp7 := Aside0.mk hp7
                      have Hk7 := Aside0.mk (Hk6.out.trans hk7)
                      clear hp7 hk7
                      go_wp2_with fail
                      refine (FT.out _ Hp7.out).mono ?_
                      rintro e w8 ⟨rfl, hp8, hk8⟩
                      have Hp8 := Aside0.mk hp8
                      have Hk8 := Aside0.mk (Hk7.out.trans hk8)
                      clear hp8 hk8
                      have I1 := Lib.hid (fun W => inverse_any (B u) (by omega) W)
                      have I2 := Lib.hid (fun W => inverse_any (B v) (by omega) W)
                      rw [L_B] at I1 I2
                      go_wp2_with fail
                      refine (I1.out _).mono ?_
                      rintro e w9 ⟨rfl, hb9⟩
                      have Hp9 := Aside0.mk (Hp8.out.later hb9)
                      have Hk9 := Aside0.mk (Hk8.out.trans (Kp.of_below hb9))
                      clear hb9
                      go_wp2_with fail
                      refine (I2.out _).mono ?_
                      rintro e w10 ⟨rfl, hb10⟩
                      have Hp10 := Aside0.mk (Hp9.out.later hb10)
                      have Hk10 := Aside0.mk (Hk9.out.trans (Kp.of_below hb10))
                      clear hb10
                      go_wp2_with fail
                      refine (R4.out _).mono ?_
                      rintro e w11 ⟨rfl, hb11⟩
                      have Hp11 := Aside0.mk (Hp10.out.later hb11)
                      have Hk11 := Aside0.mk (Hk10.out.trans (Kp.of_below hb11))
                      clear hb11
                      go_wp2
                      go_ret
                      exact ⟨rfl, Hp11.out, Hk11.out⟩
      · rw [if_neg hc] at hr
        have m3 : (hdC (trimL l) == 91) = false := beq_eq_false_iff_ne.mpr hc
        have hrg := hdC_range (trimL l)
        have hix := idx_le (hdC (trimL l))
        by_cases hn : hdC (trimL l) ≠ 0 ∧ 0 ≤ idx (hdC (trimL l)) ∧ idx (hdC (trimL l)) < 2 * k
        · rw [if_pos hn] at hr
          obtain rfl := Option.some.inj hr
          clear hr
          have HE := Aside0.mk (expect_at rfl hn.1)
          cases ht : trimL l with
          | nil => rw [ht] at hn; exact absurd rfl hn.1
          | cons x t =>
            rw [ht] at hn hrg hix HE T m1 m2 m3
            have hy : hdC (x :: t) = (x.toNat : Int) := rfl
            obtain ⟨y, hy'⟩ : ∃ y, hdC (x :: t) = y := ⟨_, rfl⟩
            rw [hy'] at hn hrg hix HE T m1 m2 m3
            have HY := Aside0.mk (hy.symm.trans hy')
            clear hy hy' ht hc
            have CI := Lib.hid (fun W hW => index_any y hrg.1 hrg.2 W hW)
            obtain ⟨q, hq⟩ : ∃ q, idx y = q := ⟨_, rfl⟩
            rw [hq] at CI hn hix
            clear hq
            have d1 : (y != 0) = true := bne_iff_ne.mpr hn.1
            have d2 : decide (0 ≤ q) = true := decide_eq_true hn.2.1
            have d3 : decide (q < 2 * k) = true := decide_eq_true hn.2.2
            clear hn
            have TT := Lib.hid T
            clear T
            go_enter Tryz.func86, Tryz.ntmps86
            go_wp2_with fail
            refine (TT.out).mono ?_
            rintro e w1 ⟨rfl, hp1, hk1⟩
            have Hp1 := Aside0.mk hp1
            have Hk1 := Aside0.mk hk1
            have hc1 := hp1.cell1
            have hgl := (hG.kp hk1).gl
            clear hp1 hk1
            go_wp2
            go_quiet ((go_at_call 15; exact Calls.quiet_of_same (CI.out _ (hgl.drawn ⟨⟨_, rfl⟩⟩))))
            go_wp2_with fail
            refine (expect_ok (Hp1.out.drewN nq) HE.out).mono ?_
            rintro e w2 ⟨rfl, hp2, hk2⟩
            have Hp2 := Aside0.mk hp2
            have Hk2 := Aside0.mk ((Hk1.out.drewN nq).trans hk2)
            clear hp2 hk2
            have hconv := conv_one x y HY.out
            go_wp2
            go_ret
            exact ⟨rfl, Hp2.out.later ((Below.refl _ _).alloc (Nat.le_refl _) _), Hk2.out.alloc _⟩
        · rw [if_neg hn] at hr
          obtain rfl := Option.some.inj hr
          clear hr
          have CI := Lib.hid (fun W hW => index_any (hdC (trimL l)) hrg.1 hrg.2 W hW)
          obtain ⟨y, hy'⟩ : ∃ y, hdC (trimL l) = y := ⟨_, rfl⟩
          rw [hy'] at hn hrg hix CI T m1 m2 m3
          clear hy' hc
          obtain ⟨q, hq⟩ : ∃ q, idx y = q := ⟨_, rfl⟩
          rw [hq] at CI hn hix
          clear hq
          have TT := Lib.hid T
          clear T
          by_cases e1 : y = 0
          · have d1 : (y != 0) = false := by rw [e1]; rfl
            clear hn e1
            go_enter Tryz.func86, Tryz.ntmps86
            go_wp2_with fail
            refine (TT.out).mono ?_
            rintro e w1 ⟨rfl, hp1, hk1⟩
            have Hp1 := Aside0.mk hp1
            have Hk1 := Aside0.mk hk1
            have hc1 := hp1.cell1
            have hgl := (hG.kp hk1).gl
            clear hp1 hk1
            go_wp2
            go_quiet (fail)
            go_wp2
            exact ⟨rfl, rfl, Hk1.out.drewN _⟩
          · have d1 : (y != 0) = true := bne_iff_ne.mpr e1
            by_cases e2 : 0 ≤ q
            · have d2 : decide (0 ≤ q) = true := decide_eq_true e2
              have d3 : decide (q < 2 * k) = false := decide_eq_false (fun h => hn ⟨e1, e2, h⟩)
              clear hn e1 e2
              go_enter Tryz.func86, Tryz.ntmps86
              go_wp2_with fail
              refine (TT.out).mono ?_
              rintro e w1 ⟨rfl, hp1, hk1⟩
              have Hp1 := Aside0.mk hp1
              have Hk1 := Aside0.mk hk1
              have hc1 := hp1.cell1
              have hgl := (hG.kp hk1).gl
              clear hp1 hk1
              go_wp2
              go_quiet ((go_at_call 15; exact Calls.quiet_of_same (CI.out _ (hgl.drawn ⟨⟨_, rfl⟩⟩))))
              go_wp2
              exact ⟨rfl, rfl, Hk1.out.drewN _⟩
            · have d2 : decide (0 ≤ q) = false := decide_eq_false e2
              clear hn e1 e2
              go_enter Tryz.func86, Tryz.ntmps86
              go_wp2_with fail
              refine (TT.out).mono ?_
              rintro e w1 ⟨rfl, hp1, hk1⟩
              have Hp1 := Aside0.mk hp1
              have Hk1 := Aside0.mk hk1
              have hc1 := hp1.cell1
              have hgl := (hG.kp hk1).gl
              clear hp1 hk1
              go_wp2
              go_quiet ((go_at_call 15; exact Calls.quiet_of_same (CI.out _ (hgl.drawn ⟨⟨_, rfl⟩⟩))))
              go_wp2
              exact ⟨rfl, rfl, Hk1.out.drewN _⟩
end Go.Proofs.YthiehmogphknlaaGreatDoor.Parse
namespace Go.Proofs.YthiehmogphknlaaGreatDoor.Parse
open Go.RowKit Go.Proofs.YthiehmogphknlaaGreatDoor.G Go.Proofs.YthiehmogphknlaaGreatDoor.PA Go.Proofs.YthiehmogphknlaaGreatDoorW.PrintWords Go.Proofs.YthiehmogphknlaaGreatDoor.Free Go.Proofs.YthiehmogphknlaaGreatDoor.Pure1
theorem acc_yes {c : Int} {l : List UInt8} (h : hdC (trimL l) = c) (h0 : c ≠ 0) : acceptP c l = (true, (trimL l).tail) := by
  unfold acceptP; rw [if_neg (by rintro (h1 | h1); exact h1 h; exact h0 h1)]
theorem acc_no {c : Int} {l : List UInt8} (h : hdC (trimL l) ≠ c) : acceptP c l = (false, trimL l) := by
  unfold acceptP; rw [if_pos (.inl h)]
theorem accept_yes {g : Nat} {k : Int} {w : World} {l : List UInt8} {o : Bool} {c : Int} (hP : PS g k w l o) (h : hdC (trimL l) = c) (h0 : c ≠ 0) :
    Calls Tryz.prog 87 #[.pointer (some ⟨g, 0, none⟩), .int .u8 c] w fun e w' => e = .returned (.bool true) ∧ PS g k w' (trimL l).tail o ∧ Kp g w w' := by
  have := accept_any g k w l o c hP
  rw [acc_yes h h0] at this
  exact this
theorem accept_no {g : Nat} {k : Int} {w : World} {l : List UInt8} {o : Bool} {c : Int} (hP : PS g k w l o) (h : hdC (trimL l) ≠ c) :
    Calls Tryz.prog 87 #[.pointer (some ⟨g, 0, none⟩), .int .u8 c] w fun e w' => e = .returned (.bool false) ∧ PS g k w' (trimL l) o ∧ Kp g w w' := by
  have := accept_any g k w l o c hP
  rw [acc_no h] at this
  exact this
theorem expo_some {g : Nat} {k : Int} {w : World} {l l' : List UInt8} {o : Bool} {n : Int} (hl : l.length ≤ 9223372036854775806) (hP : PS g k w l o) (h : expoP l = some (n, l')) :
    Calls Tryz.prog 88 #[.pointer (some ⟨g, 0, none⟩)] w fun e w' => e = .returned (.int .i64 n) ∧ PS g k w' l' o ∧ Kp g w w' := by
  have := expo_any g k w l o hl hP
  rw [h] at this
  exact this
theorem expo_none {g : Nat} {k : Int} {w : World} {l : List UInt8} {o : Bool} (hl : l.length ≤ 9223372036854775806) (hP : PS g k w l o) (h : expoP l = none) :
    Calls Tryz.prog 88 #[.pointer (some ⟨g, 0, none⟩)] w fun e w' => e = .panicked bad ∧ Kp g w w' := by
  have := expo_any g k w l o hl hP
  rw [h] at this
  exact this
theorem mul_max (v : List UInt8) (n : Int) (hv : v.length ≤ 100000) (hn : -1000000 < n ∧ n < 1000000) : wrap64 (((B v).size : Int) * max n (-n)) = ((v.length * n.natAbs : Nat) : Int) := by
  have hmx : max n (-n) = ((n.natAbs : Nat) : Int) := by omega
  rw [hmx, size_B, ← Int.natCast_mul]
  have : v.length * n.natAbs ≤ 100000 * 1000000 := Nat.mul_le_mul hv (by omega)
  exact w64 _ (by omega) (by omega)
set_option maxHeartbeats 4000000 in
set_option maxRecDepth 100000 in
theorem factor_any (k : Int) (hk0 : 1 ≤ k) (hk1 : k ≤ 8) (D : Int) (hD : D ≤ 4611686018427387904) (sum : Int → List UInt8 → Bool → Res (List UInt8)) (hS : SumC k D sum) (hGood : ∀ d, Good (sum d))
    (g : Nat) (w : World) (l : List UInt8) (o : Bool) (d : Int) (r : Option (List UInt8 × List UInt8 × Bool)) (hd0 : 0 ≤ d) (hd1 : d + 1 ≤ D) (hl : l.length ≤ 140737488355328) (ho : o = false → l.length ≤ 100000) (hP : PS g k w l o) (hG : GP g w) (hr : factorP (baseP sum k d) l o = some r) :
    Calls Tryz.prog 74 #[.pointer (some ⟨g, 0, none⟩), .int .i64 d] w (POut g k w r) := by
  unfold factorP at hr
  have hbg := base_good (sum := sum) k d (hGood (d + 1))
  have hB := base_any k hk0 hk1 D hD sum hS hGood g w l o d
  clear hS hGood
  cases hb : baseP sum k d l o with
  | none => rw [hb] at hr; cases hr
  | some r1 =>
    rw [hb] at hr
    have T := Lib.hid (hB r1 hd0 hd1 hl ho hP hG hb)
    clear hB
    cases r1 with
    | none =>
      obtain rfl := Option.some.inj hr
      clear hr
      go_enter Tryz.func74, Tryz.ntmps74
      go_wp2_with fail
      refine T.out.mono ?_
      rintro e w1 ⟨rfl, hk⟩
      exact ⟨rfl, rfl, hk⟩
    | some r1 =>
      obtain ⟨v, l1, o1⟩ := r1
      have hg1 := hbg _ _ _ _ _ hb
      have ht1 := trimL_le l1
      have htl : (trimL l1).tail.length ≤ (trimL l1).length := by simp
      clear hb hbg
      dsimp only [Res.bind] at hr
      by_cases h94 : hdC (trimL l1) ≠ 94
      · rw [if_pos h94] at hr
        obtain rfl := Option.some.inj hr
        clear hr
        have H94 := Aside0.mk h94
        clear h94
        go_enter Tryz.func74, Tryz.ntmps74
        go_wp2_with fail
        refine T.out.mono ?_
        rintro e w1 ⟨rfl, hp1, hk1⟩
        go_wp2_with fail
        refine (accept_no hp1 H94.out).mono ?_
        rintro e w2 ⟨rfl, hp2, hk2⟩
        go_wp2
        go_ret
        exact ⟨rfl, hp2, hk1.trans hk2⟩
      · rw [if_neg h94] at hr
        have h94' : hdC (trimL l1) = 94 := Decidable.not_not.mp h94
        have H94 := Aside0.mk h94'
        clear h94 h94'
        cases he : expoP (trimL l1).tail with
        | none =>
          rw [he] at hr
          obtain rfl := Option.some.inj hr
          clear hr
          have HE := Aside0.mk he
          clear he
          go_enter Tryz.func74, Tryz.ntmps74
          go_wp2_with fail
          refine T.out.mono ?_
          rintro e w1 ⟨rfl, hp1, hk1⟩
          go_wp2_with fail
          refine (accept_yes hp1 H94.out (by decide)).mono ?_
          rintro e w2 ⟨rfl, hp2, hk2⟩
          go_wp2_with fail
          refine (expo_none (by omega) hp2 HE.out).mono ?_
          rintro e w3 ⟨rfl, hk3⟩
          exact ⟨rfl, rfl, hk1.trans (hk2.trans hk3)⟩
        | some p =>
          obtain ⟨n, l2⟩ := p
          rw [he] at hr
          dsimp only at hr
          have hnb := expoP_bound he
          have HE := Aside0.mk he
          clear he
          have hv : (B v).size ≤ 100000 := by rw [size_B]; exact hg1.1
          have FT := Lib.hid (fun W hW => fits_int g k W l2 o1 (v.length * n.natAbs) (wrap64 (((B v).size : Int) * max n (-n))) (mul_max v n hg1.1 hnb) hW)
          cases hov : over (v.length * n.natAbs) o1 with
          | true =>
            rw [if_pos hov] at hr
            obtain rfl := Option.some.inj hr
            clear hr
            simp only [hov] at FT
            clear hov
            go_enter Tryz.func74, Tryz.ntmps74
            go_wp2_with fail
            refine T.out.mono ?_
            rintro e w1 ⟨rfl, hp1, hk1⟩
            go_wp2_with fail
            refine (accept_yes hp1 H94.out (by decide)).mono ?_
            rintro e w2 ⟨rfl, hp2, hk2⟩
            go_wp2_with fail
            refine (expo_some (by omega) hp2 HE.out).mono ?_
            rintro e w3 ⟨rfl, hp3, hk3⟩
            go_wp2_with fail
            refine (FT.out _ hp3).mono ?_
            rintro e w4 ⟨rfl, hp4, hk4⟩
            go_wp2
            go_ret
            exact ⟨rfl, hp4, hk1.trans (hk2.trans (hk3.trans hk4))⟩
          | false =>
            rw [if_neg (by rw [hov]; decide)] at hr
            have ho1 := (over_false (n := v.length * n.natAbs) (o := o1) (by rw [hov]; decide)).2
            subst ho1
            simp only [hov] at FT
            clear hov
            cases hpw : powL v n with
            | none =>
              rw [hpw] at hr
              obtain rfl := Option.some.inj hr
              clear hr
              have PW := Lib.hid (fun W => power_none (B v) (by omega) n (by omega) (by omega) (by rw [L_B]; exact hpw) W)
              clear hpw
              go_enter Tryz.func74, Tryz.ntmps74
              go_wp2_with fail
              refine T.out.mono ?_
              rintro e w1 ⟨rfl, hp1, hk1⟩
              go_wp2_with fail
              refine (accept_yes hp1 H94.out (by decide)).mono ?_
              rintro e w2 ⟨rfl, hp2, hk2⟩
              go_wp2_with fail
              refine (expo_some (by omega) hp2 HE.out).mono ?_
              rintro e w3 ⟨rfl, hp3, hk3⟩
              go_wp2_with fail
              refine (FT.out _ hp3).mono ?_
              rintro e w4 ⟨rfl, hp4, hk4⟩
              go_wp2_with fail
              refine (PW.out _).mono ?_
              rintro e w5 ⟨rfl, hb5⟩
              go_wp2
              go_ret
              exact ⟨rfl, hp4.later hb5, hk1.trans (hk2.trans (hk3.trans (hk4.trans (Kp.of_below hb5))))⟩
            | some x =>
              rw [hpw] at hr
              obtain rfl := Option.some.inj hr
              clear hr
              have PW := Lib.hid (fun W => power_some (B v) (by omega) n (by omega) (by omega) x (by rw [L_B]; exact hpw) W)
              clear hpw
              go_enter Tryz.func74, Tryz.ntmps74
              go_wp2_with fail
              refine T.out.mono ?_
              rintro e w1 ⟨rfl, hp1, hk1⟩
              go_wp2_with fail
              refine (accept_yes hp1 H94.out (by decide)).mono ?_
              rintro e w2 ⟨rfl, hp2, hk2⟩
              go_wp2_with fail
              refine (expo_some (by omega) hp2 HE.out).mono ?_
              rintro e w3 ⟨rfl, hp3, hk3⟩
              go_wp2_with fail
              refine (FT.out _ hp3).mono ?_
              rintro e w4 ⟨rfl, hp4, hk4⟩
              go_wp2_with fail
              refine (PW.out _).mono ?_
              rintro e w5 ⟨rfl, hb5⟩
              go_wp2
              go_ret
              exact ⟨rfl, hp4.later hb5, hk1.trans (hk2.trans (hk3.trans (hk4.trans (Kp.of_below hb5))))⟩
end Go.Proofs.YthiehmogphknlaaGreatDoor.Parse
namespace Go.Proofs.YthiehmogphknlaaGreatDoor.Parse
open Go.RowKit Go.Proofs.YthiehmogphknlaaGreatDoor.G Go.Proofs.YthiehmogphknlaaGreatDoor.PA Go.Proofs.YthiehmogphknlaaGreatDoorW.PrintWords Go.Proofs.YthiehmogphknlaaGreatDoorW.PrintLast Go.Proofs.YthiehmogphknlaaGreatDoor.Free Go.Proofs.YthiehmogphknlaaGreatDoor.Pure1
theorem Kp.then_below {g : Nat} {w W W1 : World} (h : Kp g w W) (hb : Below w.heap.size W W1) : Kp g w W1 :=
  ⟨hb.os.trans h.os, hb.tape.trans h.tape, hb.output.trans h.output, Nat.le_trans h.size hb.size, fun i hi hg => (hb.block i hi).trans (h.block i hi hg)⟩
theorem PS.under {g B : Nat} {k : Int} {w w' : World} {l : List UInt8} {o : Bool} (h : PS g k w l o) (hg : g < B) (hb : Below B w w') : PS g k w' l o := (hb.block g hg).trans h
theorem cat_map (ws : List (List UInt8)) : cat (ws.map B) = ws.flatten := by
  unfold cat
  induction ws with
  | nil => rfl
  | cons a ws ih => rw [List.map_cons, List.flatMap_cons, ih, L_B]; rfl
abbrev RW (g B : Nat) (W : World) (v : Value) (ws : List (List UInt8)) : Prop := Kd.R Kd.string 9 W B (fun k => k ≠ g) v (ws.map Pure1.B)
theorem RW.kp {g B : Nat} {W W1 : World} {v : Value} {ws : List (List UInt8)} (h : RW g B W v ws) (hk : Kp g W W1) : RW g B W1 v ws := Kd.R_step h (fun k hne hlt => hk.block k hlt hne)
theorem RW.one {g B : Nat} {W : World} (x : List UInt8) (hB : B ≤ W.heap.size) (hg : g < W.heap.size) : RW g B (W.alloc (.cells #[.string (Pure1.B x)] 9)) (.slice (some ⟨W.heap.size, 0, none⟩) 1 1) [x] := by
  refine ⟨fun k hk => ?_, [.string (Pure1.B x)], own_lit_of (enc := Value.string) W B 9 [Pure1.B x] hB (by simp), Reps.one (show Kd.M Kd.string _ _ _ (Pure1.B x) [.string (Pure1.B x)] from rfl) (Reps.none _ _)⟩
  have : k = W.heap.size := (Option.some.inj hk).symm
  omega
theorem info_string : (Tryz.prog.info? 9).map (fun i => (i.zero, i.size, i.bytes)) = some (some (.string ⟨#[]⟩), 1, 16) := by kernel_rfl
theorem loop_rounds {fac : List UInt8 → Bool → Res (List UInt8)} (f : Nat) (ws : List (List UInt8)) (n : Nat) (l : List UInt8) (o : Bool) (r : Option (List UInt8 × List UInt8 × Bool)) (h : loopP fac f ws n l o = some r) : ∃ f', f = f' + 1 := by
  cases f with
  | zero => cases h
  | succ f => exact ⟨f, rfl⟩
/-- What a round of the sum holds. -/
def LI (fac : List UInt8 → Bool → Res (List UInt8)) (r : Option (List UInt8 × List UInt8 × Bool)) (l : List UInt8) (o : Bool) (gf : Nat) (ws : List (List UInt8)) (n y : Int) (lx : List UInt8) (ox : Bool) : Prop :=
  loopP fac gf ws n.toNat lx ox = some r ∧ n = (ws.flatten.length : Int) ∧ n ≤ 100000 ∧ 0 ≤ n ∧ y = hdC lx ∧ trimL lx = lx ∧ ws.length + lx.length ≤ l.length ∧ (ox = false → o = false)
theorem reduce_ws (g Bs : Nat) (W : World) (A : Option Addr) (c : Nat) (ws : List (List UInt8)) (h : RW g Bs W (.slice A ws.length c) ws) (hl : ws.flatten.length < 140737488355328) (hn : ws.length ≤ 9223372036854775806) :
    Calls Tryz.prog 47 #[.slice A ws.length c] W fun e w' => e = .returned (.string (B (red ws.flatten))) ∧ Below W.heap.size W w' := by
  have hr := Kd.R_reads' h
  have := reduce_any A c (ws.map B) W hr.2.2 (by rw [List.length_map]; exact hr.2.1) (by rw [cat_map]; exact hl) (by rw [List.length_map]; exact hn)
  rw [cat_map, List.length_map] at this
  exact this
set_option maxHeartbeats 4000000 in
set_option maxRecDepth 100000 in
theorem sum_step (k : Int) (hk0 : 1 ≤ k) (hk1 : k ≤ 8) (D : Int) (hD : D ≤ 4611686018427387904) (f : Nat) (hS : SumC k D (sumN k f)) : SumC k (D - 1) (sumN k (f + 1)) := by
  intro g w l o d r hd0 hd1 hl ho hP hG hr
  rw [sumN] at hr
  have hF : ∀ (w : World) (l : List UInt8) (o : Bool) (r : Option (List UInt8 × List UInt8 × Bool)), l.length ≤ 140737488355328 → (o = false → l.length ≤ 100000) → PS g k w l o → GP g w → factorP (baseP (sumN k f) k d) l o = some r →
      Calls Tryz.prog 74 #[.pointer (some ⟨g, 0, none⟩), .int .i64 d] w (POut g k w r) :=
    fun w l o r h1 h2 h3 h4 h5 => factor_any k hk0 hk1 D hD (sumN k f) hS (sum_good k f) g w l o d r hd0 (by omega) h1 h2 h3 h4 h5
  have hFG : Good (factorP (baseP (sumN k f) k d)) := factor_good (base_good k d (sum_good k f (d + 1)))
  obtain ⟨fac, hfac⟩ : ∃ fac, factorP (baseP (sumN k f) k d) = fac := ⟨_, rfl⟩
  rw [hfac] at hr hF hFG
  clear hfac hS
  have HF := Lib.hid hF
  have HFG := Lib.hid hFG
  clear hF hFG
  unfold sumP at hr
  have hgw := hP.lt
  cases hq : fac l o with
  | none => rw [hq] at hr; cases hr
  | some r1 =>
    rw [hq] at hr
    have T := Lib.hid (HF.out w l o r1 hl ho hP hG hq)
    cases r1 with
    | none =>
      obtain rfl := Option.some.inj hr
      clear hr
      go_enter Tryz.func61, Tryz.ntmps61
      go_wp2_with fail
      refine T.out.mono ?_
      rintro e w1 ⟨rfl, hk⟩
      exact ⟨rfl, rfl, hk⟩
    | some r1 =>
      obtain ⟨v, l1, o1⟩ := r1
      have hg1 := HFG.out _ _ _ _ _ hq
      dsimp only [Res.bind] at hr
      have ht1 := trimL_le l1
      have hv : (B v).size = v.length := size_B v
      have HR := Aside0.mk hr
      have HV := Aside0.mk hv
      clear hr hq hv
      go_enter Tryz.func61, Tryz.ntmps61
      go_wp2_with fail
      refine T.out.mono ?_
      rintro e w1 ⟨rfl, hp1, hk1⟩
      have hg1w : g < w1.heap.size := hp1.lt
      have hR1 := Aside0.mk (RW.one (g := g) (B := w.heap.size) (W := w1) v hk1.size hg1w)
      have hp1a := Aside0.mk (hp1.later (below_alloc (Below.refl _ _) (.cells #[.string (B v)] 9)))
      have hk1a := Aside0.mk (hk1.alloc (.cells #[.string (B v)] 9))
      clear hp1 hk1
      go_wp2_with fail
      refine (next_any g k _ l1 o1 hp1a.out).mono ?_
      rintro e w2 ⟨rfl, hp2, hk2⟩
      have hR2 := Aside0.mk (hR1.out.kp hk2)
      have hp2a := Aside0.mk hp2
      have hk2a := Aside0.mk (hk1a.out.trans hk2)
      clear hp2 hk2 hR1 hp1a hk1a
      go_wp2
      go_loopg [5, 6, 7] f (fun gf v5 v6 v7 wr => ∃ (ws : List (List UInt8)) (n y : Int) (lx : List UInt8) (ox : Bool), v6 = .int .i64 n ∧ v7 = .int .u8 y ∧ Aside0 (RW g w.heap.size wr v5 ws) ∧ Aside0 (PS g k wr lx ox) ∧ Aside0 (Kp g w wr) ∧ Aside0 (LI fac r l o gf ws n y lx ox))
      case atStart => exact ⟨[v], _, _, _, _, rfl, rfl, hR2, hp2a, hk2a, ⟨by
        refine ⟨?_, by rw [HV.out]; simp, by rw [HV.out]; omega, by omega, rfl, trim_trim l1, ?_, fun h => ?_⟩
        · rw [HV.out, Int.toNat_natCast]; exact HR.out
        · simp; omega
        · cases o with
          | false => rfl
          | true => exact absurd (hg1.2.2 rfl) (by rw [h]; decide)⟩⟩
      case round =>
        obtain ⟨ws, n, y, lx, ox, rfl, rfl, hRx, hPx, hKx, HL⟩ := hrel
        clear hR2 hp2a hk2a HR T
        obtain ⟨A, c, hA⟩ := Kd.R_slice hRx.out
        rw [List.length_map] at hA
        subst hA
        obtain ⟨gk', rfl⟩ := loop_rounds _ _ _ _ _ _ HL.out.1
        have hr := HL.out.1
        rw [loopP] at hr
        have hyr := hdC_range lx
        rw [← HL.out.2.2.2.2.1] at hr hyr
        by_cases hs : stopC y = true
        · rw [if_pos hs] at hr
          obtain rfl := Option.some.inj hr
          clear hr
          have RW5 := Lib.hid (fun W hW => reduce_ws g w.heap.size W A c ws hW (by have := HL.out.2.1; have := HL.out.2.2.1; omega) (by have := HL.out.2.2.2.2.2.2.1; omega))
          obtain ⟨z, hz⟩ : ∃ z, red ws.flatten = z := ⟨_, rfl⟩
          rw [hz] at RW5
          have HZ := Aside0.mk hz
          clear hz
          have hcase : y = 0 ∨ y = 41 ∨ y = 93 ∨ y = 44 := by
            unfold stopC at hs
            simp only [Bool.or_eq_true, beq_iff_eq] at hs
            omega
          clear hs
          rcases hcase with rfl | rfl | rfl | rfl
          all_goals
            go_wp2_with fail
            refine (RW5.out _ hRx.out).mono ?_
            rintro e w9 ⟨rfl, hb9⟩
            go_wp2
            go_ret
            exact ⟨by rw [HZ.out]; rfl, hPx.out.later hb9, hKx.out.trans (Kp.of_below hb9)⟩
        · rw [if_neg hs] at hr
          have s0 : (y != 0) = true := by unfold stopC at hs; simp only [Bool.or_eq_true, beq_iff_eq] at hs; rw [bne_iff_ne]; omega
          have s1 : (y != 41) = true := by unfold stopC at hs; simp only [Bool.or_eq_true, beq_iff_eq] at hs; rw [bne_iff_ne]; omega
          have s2 : (y != 93) = true := by unfold stopC at hs; simp only [Bool.or_eq_true, beq_iff_eq] at hs; rw [bne_iff_ne]; omega
          have s3 : (y != 44) = true := by unfold stopC at hs; simp only [Bool.or_eq_true, beq_iff_eq] at hs; rw [bne_iff_ne]; omega
          clear hs
          have hb1 := HL.out.2.2.1
          have hb2 := HL.out.2.2.2.1
          have hb3 := HL.out.2.2.2.2.2.2.1
          have hb4 : ox = false → lx.length ≤ 100000 := fun h => by have := ho (HL.out.2.2.2.2.2.2.2 h); omega
          cases hq : fac lx ox with
          | none => rw [hq] at hr; cases hr
          | some r1 =>
            rw [hq] at hr
            have hGx : GP g wr := hG.kp hKx.out
            have T := Lib.hid (HF.out wr lx ox r1 (by omega) hb4 hPx.out hGx hq)
            cases r1 with
            | none =>
              obtain rfl := Option.some.inj hr
              clear hr hq
              go_wp2_with fail
              refine T.out.mono ?_
              rintro e w1 ⟨rfl, hk⟩
              exact ⟨rfl, rfl, hKx.out.trans hk⟩
            | some r1 =>
              obtain ⟨x, l2, o2⟩ := r1
              have hg2 := HFG.out _ _ _ _ _ hq
              dsimp only [Res.bind] at hr
              have ht2 := trimL_le l2
              have hx1 : ((B x).size : Int) ≤ 100000 := by rw [size_B]; omega
              have FT := Lib.hid (fun W hW => fits_int g k W l2 o2 (n.toNat + x.length) (n + ((B x).size : Int)) (by rw [size_B]; omega) hW)
              clear hq
              cases hov : over (n.toNat + x.length) o2 with
              | true =>
                rw [if_pos hov] at hr
                simp only [hov] at FT
                have HR2 := Aside0.mk hr
                clear hr hov
                go_wp2_with fail
                refine T.out.mono ?_
                rintro e w3 ⟨rfl, hp3, hk3⟩
                go_wp2_with fail
                refine (FT.out _ hp3).mono ?_
                rintro e w4 ⟨rfl, hp4, hk4⟩
                go_wp2_with fail
                refine (next_any g k _ l2 true hp4).mono ?_
                rintro e w5 ⟨rfl, hp5, hk5⟩
                go_wp2
                go_roundg gk'
                case measure => omega
                case rel => exact ⟨[], 0, _, _, _, rfl, rfl, ⟨Kd.R_nil _ _ _ _ _⟩, ⟨hp5⟩, ⟨hKx.out.trans (hk3.trans (hk4.trans hk5))⟩, ⟨⟨HR2.out, rfl, by omega, by omega, rfl, trim_trim l2, by simp; omega, fun h => by cases h⟩⟩⟩
              | false =>
                rw [if_neg (by rw [hov]; decide)] at hr
                have hov' := over_false (n := n.toNat + x.length) (o := o2) (by rw [hov]; decide)
                obtain ⟨hov1, rfl⟩ := hov'
                simp only [hov] at FT
                have HR2 := Aside0.mk hr
                have hox : ox = false := by
                  cases ox with
                  | false => rfl
                  | true => exact absurd (hg2.2.2 rfl) (by decide)
                have hl1 := ho (HL.out.2.2.2.2.2.2.2 hox)
                clear hr hov hox
                go_wp2_with fail
                refine T.out.mono ?_
                rintro e w3 ⟨rfl, hp3, hk3⟩
                go_wp2_with fail
                refine (FT.out _ hp3).mono ?_
                rintro e w4 ⟨rfl, hp4, hk4⟩
                have hR4 := Aside0.mk ((hRx.out.kp hk3).kp hk4)
                have hp4a := Aside0.mk hp4
                have hk4a := Aside0.mk (hKx.out.trans (hk3.trans hk4))
                clear hp4 hp3 hk3 hk4
                have hgw4 : w.heap.size ≤ w4.heap.size := hk4a.out.size
                go_wp2_with (first | ((with_reducible refine gate_builtin (b := .append) (xs := #[.tmp 50, .tmp 52]) rfl ?_); at_builtin; refine Kd.R_append Kd.string (w0 := w4) w.heap.size rfl (.tmp 50) (.tmp 52) 51 9 (.string ⟨#[]⟩) 16 rfl Tryz.underlying51 info_string rfl (by decide) (by omega) (.slice A ws.length c) (ws.map B) (B x) [.string (B x)] (fun k => k ≠ g) (fun _ => False) rfl rfl ?aP (fun _ hk => hk.elim) ?aF ?aO ?aB ?aS ?aL ?_; (case aP => exact rfl); (case aB => exact Below.refl _ _); (case aF => exact (fun k hk => by omega)); (case aO => exact hR4.out); (case aS => exact hgw4); (case aL => rw [List.length_map]; omega); intro v9 w9 ho9 hb9 hg9 hat9; have hR9 := Aside0.mk ho9; have hp9 := Aside0.mk (hp4a.out.under hgw hb9); have hk9 := Aside0.mk (hk4a.out.then_below hb9); clear ho9 hb9 hg9 hat9))
                refine (next_any g k _ l2 false hp9.out).mono ?_
                rintro e w5 ⟨rfl, hp5, hk5⟩
                go_wp2
                go_roundg gk'
                case measure => omega
                case rel => exact ⟨ws ++ [x], n + ((B x).size : Int), _, _, _, rfl, rfl, ⟨by have := hR9.out; rw [show ws.map B ++ [B x] = (ws ++ [x]).map B by simp] at this; exact Kd.R_step this (fun k hne hlt => hk5.block k hlt hne)⟩, ⟨hp5⟩, ⟨hk9.out.trans hk5⟩, ⟨⟨by rw [show (n + ((B x).size : Int)).toNat = n.toNat + x.length by rw [size_B]; omega]; exact HR2.out, by rw [List.flatten_append, List.length_append, size_B, HL.out.2.1]; simp, by rw [size_B]; omega, by omega, rfl, trim_trim l2, by simp; omega, fun h => HL.out.2.2.2.2.2.2.2 (by cases ox with | false => rfl | true => exact absurd (hg2.2.2 rfl) (by decide))⟩⟩⟩
end Go.Proofs.YthiehmogphknlaaGreatDoor.Parse
namespace Go.Proofs.YthiehmogphknlaaGreatDoor.Parse
open Go.RowKit Go.Proofs.YthiehmogphknlaaGreatDoor.G Go.Proofs.YthiehmogphknlaaGreatDoor.PA Go.Proofs.YthiehmogphknlaaGreatDoorW.PrintWords Go.Proofs.YthiehmogphknlaaGreatDoor.Free Go.Proofs.YthiehmogphknlaaGreatDoor.Pure1
theorem sum_all (k : Int) (hk0 : 1 ≤ k) (hk1 : k ≤ 8) : ∀ f : Nat, f ≤ 4611686018427387904 → SumC k (4611686018427387904 - f) (sumN k f) := by
  intro f
  induction f with
  | zero => intro _ g w l o d r _ _ _ _ _ _ hr; cases hr
  | succ f ih =>
    intro hf
    have := sum_step k hk0 hk1 (4611686018427387904 - f) (by omega) f (ih (by omega))
    rw [show (4611686018427387904 : Int) - f - 1 = 4611686018427387904 - ((f + 1 : Nat) : Int) by omega] at this
    exact this
set_option maxHeartbeats 1000000 in
theorem catch_idle (a b : Value) (w : World) :
    CallsD Tryz.prog 60 #[a, b] .returning w fun e u' w' => e = .returned (.tuple #[]) ∧ u' = .returning ∧ w' = w := by
  refine callsD_of_wpS Tryz.func60 rfl fun c₀ cs hu => ?_
  apply wpS_seq
  apply wpS_region
  simp [wpOpsS, go_sem, recoverD, hu, Tryz.ntmps60, Exit.thenS]
  refine wpS_of_wp ?_
  go_wp2
  cases c₀
  simp_all [bodyPostS, results, Tryz.results60]
set_option maxHeartbeats 4000000 in
set_option maxRecDepth 100000 in
theorem catch_bad (bw be B : Nat) (s : ByteArray) (q : Int) (w : World) (hb1 : B ≤ bw) (hb2 : B ≤ be) (hne : bw ≠ be) (hB : B ≤ w.heap.size) (hw : w.cell? ⟨bw, 0, none⟩ = some (.string s)) (hwf : w.frozen? ⟨bw, 0, none⟩ = false) (he : w.cell? ⟨be, 0, none⟩ = some (.int .i64 q)) (hef : w.frozen? ⟨be, 0, none⟩ = false) :
    CallsD Tryz.prog 60 #[.pointer (some ⟨bw, 0, none⟩), .pointer (some ⟨be, 0, none⟩)] (.panicking bad) w fun e u' w' =>
      e = .returned (.tuple #[]) ∧ u' = .panicking [{ v := .iface 71 (.agg #[.int .i64 4]), recovered := true }] ∧ w'.cell? ⟨bw, 0, none⟩ = some (.string ⟨#[]⟩) ∧ w'.cell? ⟨be, 0, none⟩ = some (.int .i64 4) ∧ Below B w w' := by
  refine callsD_of_wpS Tryz.func60 rfl fun c₀ cs hu => ?_
  unfold bad at hu
  simp only [Tryz.ntmps60, List.size_toArray, List.length_cons, List.length_nil, Nat.reduceAdd, Nat.reduceSub, Array.replicate_succ, Array.replicate_zero, List.push_toArray, List.append_toArray, List.nil_append, List.cons_append]
  apply wpS_seq
  apply wpS_region
  simp [wpOpsS, go_sem, recoverD, hu, Exit.thenS]
  refine wpS_of_wp ?_
  clear hu
  have hlt1 : bw < w.heap.size := World.block_lt_of_cell? w _ hw
  have hlt2 : be < w.heap.size := World.block_lt_of_cell? w _ he
  have hta : ∀ W : World, (Instr.typeAssert (.iface 71 (.agg #[.int .i64 4])) 20 71 true).run Tryz.prog W = .ok (.tuple #[.agg #[.int .i64 4], .bool true]) W := fun W => by kernel_rfl
  go_wp2
  have hbw : Below B w (w.alloc (.cells #[.int .i64 4] 71)) := (Below.refl _ _).alloc hB _
  have w1 : (w.alloc (.cells #[.int .i64 4] 71)).cell? ⟨bw, 0, none⟩ = some (.string s) := (World.cell?_of_block (w := w) (Below.heap_alloc w _ bw hlt1)).trans hw
  have w2 : (w.alloc (.cells #[.int .i64 4] 71)).cell? ⟨be, 0, none⟩ = some (.int .i64 q) := (World.cell?_of_block (w := w) (Below.heap_alloc w _ be hlt2)).trans he
  have w3 : (w.alloc (.cells #[.int .i64 4] 71)).frozen? ⟨bw, 0, none⟩ = false := (World.frozen?_of_block (w := w) (Below.heap_alloc w _ bw hlt1)).trans hwf
  have w4 : (w.alloc (.cells #[.int .i64 4] 71)).frozen? ⟨be, 0, none⟩ = false := (World.frozen?_of_block (w := w) (Below.heap_alloc w _ be hlt2)).trans hef
  have w5 : (w.alloc (.cells #[.int .i64 4] 71)).cell? ⟨w.heap.size, 0, none⟩ = some (.int .i64 4) := by simp
  obtain ⟨W, hW⟩ : ∃ W, w.alloc (.cells #[.int .i64 4] 71) = W := ⟨_, rfl⟩
  rw [hW] at hbw w1 w2 w3 w4 w5 ⊢
  clear hW hw he hwf hef
  have n1 : ¬ bw = w.heap.size := by omega
  have n2 : ¬ be = w.heap.size := by omega
  have n3 : ¬ w.heap.size = bw := by omega
  have n4 : ¬ w.heap.size = be := by omega
  have n5 : ¬ bw = be := hne
  have n6 : ¬ be = bw := fun h => hne h.symm
  have HBW := Aside0.mk hbw
  clear hbw
  go_region
  go_wp2
  have k1 : ((W.setCell ⟨bw, 0, none⟩ (.string ⟨#[]⟩)).setCell ⟨be, 0, none⟩ (.int .i64 4)).drew.cell? ⟨bw, 0, none⟩ = some (.string ⟨#[]⟩) := by
    refine (World.cell?_drew _ _).trans ?_
    refine (World.cell?_setCell_far _ _ _ _ (by exact n6)).trans ?_
    exact World.cell?_setCell_same _ _ _ w1
  have k2 : ((W.setCell ⟨bw, 0, none⟩ (.string ⟨#[]⟩)).setCell ⟨be, 0, none⟩ (.int .i64 4)).drew.cell? ⟨be, 0, none⟩ = some (.int .i64 4) := by
    refine (World.cell?_drew _ _).trans ?_
    exact World.cell?_setCell_same _ _ _ ((World.cell?_setCell_far _ _ _ _ (by exact n5)).trans w2)
  have k3 : Below B w ((W.setCell ⟨bw, 0, none⟩ (.string ⟨#[]⟩)).setCell ⟨be, 0, none⟩ (.int .i64 4)).drew := ((HBW.out.setCell (p := ⟨bw, 0, none⟩) hb1 _).setCell (p := ⟨be, 0, none⟩) hb2 _).drew
  exact ⟨rfl, _, rfl, .tuple #[], by simp [results, Tryz.results60], rfl, rfl, k1, k2, k3⟩
end Go.Proofs.YthiehmogphknlaaGreatDoor.Parse
namespace Go.Proofs.YthiehmogphknlaaGreatDoor.Parse
open Go.RowKit Go.Proofs.YthiehmogphknlaaGreatDoor.G Go.Proofs.YthiehmogphknlaaGreatDoor.PA Go.Proofs.YthiehmogphknlaaGreatDoorW.PrintWords Go.Proofs.YthiehmogphknlaaGreatDoor.Free Go.Proofs.YthiehmogphknlaaGreatDoor.Pure1
set_option maxHeartbeats 2000000 in
set_option maxRecDepth 100000 in
theorem parse_out (k : Int) (hk : k < 1 ∨ 8 < k) (s : ByteArray) (w : World) :
    Calls Tryz.prog 39 #[.int .i64 k, .string s] w fun e w' => e = .returned (.tuple #[.string ⟨#[]⟩, .int .i64 1]) ∧ Below w.heap.size w w' := by
  go_enter_defers Tryz.func39, Tryz.ntmps39
  have hb : Below w.heap.size w ((w.alloc (.cells #[.string ⟨#[]⟩] 9)).alloc (.cells #[.int .i64 0] 24)) := ((Below.refl _ _).alloc (Nat.le_refl _) _).alloc (by simp) _
  have d1 : (!decide (k < 1) && !decide (k > 8)) = false := by simp; omega
  have d2 : (decide (k < 1) || decide (k > 8)) = true := by simp; omega
  go_wp2
  all_goals
    simp [bodyPostD, Leaves, results, Tryz.results39, go_sem]
    exact ((Below.refl _ _).alloc (Nat.le_refl _) _).alloc (by simp) _
/-- The world at the reading's first step. -/
def W3 (w : World) (k : Int) (l : List UInt8) (o : Bool) : World :=
  ((w.alloc (.cells #[.string ⟨#[]⟩] 9)).alloc (.cells #[.int .i64 0] 24)).alloc (.cells #[.string (B l), .int .i64 k, .bool o] 76)
theorem W3_size (w : World) (k : Int) (l : List UInt8) (o : Bool) : (W3 w k l o).heap.size = w.heap.size + 3 := by simp [W3]
theorem W3_below (w : World) (k : Int) (l : List UInt8) (o : Bool) : Below w.heap.size w (W3 w k l o) :=
  (((Below.refl _ _).alloc (Nat.le_refl _) _).alloc (by simp) _).alloc (by simp; omega) _
theorem W3_PS (w : World) (k : Int) (l : List UInt8) (o : Bool) : PS (w.heap.size + 2) k (W3 w k l o) l o := by
  have e : w.heap.size + 2 = ((w.alloc (.cells #[.string ⟨#[]⟩] 9)).alloc (.cells #[.int .i64 0] 24)).heap.size := by simp
  unfold PS W3
  rw [e]
  exact Go.Deep.blk_alloc_new _ _
theorem W3_h0 (w : World) (k : Int) (l : List UInt8) (o : Bool) : (W3 w k l o).heap[w.heap.size]? = some (.cells #[.string ⟨#[]⟩] 9 (0, 0)) := by
  unfold W3
  exact (Below.heap_alloc _ _ _ (by simp; omega)).trans ((Below.heap_alloc _ _ _ (by simp)).trans (Go.Deep.blk_alloc_new _ _))
theorem W3_h1 (w : World) (k : Int) (l : List UInt8) (o : Bool) : (W3 w k l o).heap[w.heap.size + 1]? = some (.cells #[.int .i64 0] 24 (0, 0)) := by
  have e : w.heap.size + 1 = (w.alloc (.cells #[.string ⟨#[]⟩] 9)).heap.size := by simp
  unfold W3
  rw [e]
  exact (Below.heap_alloc _ _ _ (by simp)).trans (Go.Deep.blk_alloc_new _ _)
/-- The two results' cells, beside the parser's variable. -/
structure At (w W : World) (x : ByteArray) (y : Int) : Prop where
  h0 : W.heap[w.heap.size]? = some (.cells #[.string x] 9 (0, 0))
  h1 : W.heap[w.heap.size + 1]? = some (.cells #[.int .i64 y] 24 (0, 0))
  size : w.heap.size + 3 ≤ W.heap.size
  below : Below w.heap.size w W
theorem At.start (w : World) (k : Int) (l : List UInt8) (o : Bool) : At w (W3 w k l o) ⟨#[]⟩ 0 :=
  ⟨W3_h0 w k l o, W3_h1 w k l o, by rw [W3_size]; omega, W3_below w k l o⟩
theorem At.kp {w W W1 : World} {x : ByteArray} {y : Int} (h : At w W x y) (hk : Kp (w.heap.size + 2) W W1) : At w W1 x y :=
  ⟨(hk.block _ (by have := h.size; omega) (by omega)).trans h.h0, (hk.block _ (by have := h.size; omega) (by omega)).trans h.h1, by have := h.size; have := hk.size; omega,
   h.below.trans (hk.below (by omega) (by have := h.size; omega))⟩
theorem At.set0 {w W : World} {x : ByteArray} {y : Int} (h : At w W x y) (x' : ByteArray) : At w (W.setCell ⟨w.heap.size, 0, none⟩ (.string x')) x' y :=
  ⟨blk_set h.h0 0 _, (Below.heap_setCell _ _ _ _ (by simp)).trans h.h1, by have := h.size; simpa [World.setCell] using this, h.below.setCell (p := ⟨w.heap.size, 0, none⟩) (Nat.le_refl _) _⟩
theorem At.set1 {w W : World} {x : ByteArray} {y : Int} (h : At w W x y) (y' : Int) : At w (W.setCell ⟨w.heap.size + 1, 0, none⟩ (.int .i64 y')) x y' :=
  ⟨(Below.heap_setCell _ _ _ _ (by simp)).trans h.h0, blk_set h.h1 0 _, by have := h.size; simpa [World.setCell] using this, h.below.setCell (p := ⟨w.heap.size + 1, 0, none⟩) (Nat.le_succ _) _⟩
theorem At.c0 {w W : World} {x : ByteArray} {y : Int} (h : At w W x y) : W.cell? ⟨w.heap.size, 0, none⟩ = some (.string x) := (blk_cell h.h0 0).trans rfl
theorem At.c1 {w W : World} {x : ByteArray} {y : Int} (h : At w W x y) : W.cell? ⟨w.heap.size + 1, 0, none⟩ = some (.int .i64 y) := (blk_cell h.h1 0).trans rfl
theorem At.f0 {w W : World} {x : ByteArray} {y : Int} (h : At w W x y) : W.frozen? ⟨w.heap.size, 0, none⟩ = false := blk_frozen h.h0 0
theorem At.f1 {w W : World} {x : ByteArray} {y : Int} (h : At w W x y) : W.frozen? ⟨w.heap.size + 1, 0, none⟩ = false := blk_frozen h.h1 0
set_option maxHeartbeats 2000000 in
set_option maxRecDepth 100000 in
theorem parse_none (k : Int) (h1 : 1 ≤ k) (h8 : k ≤ 8) (l : List UInt8) (w : World)
    (T : Calls Tryz.prog 61 #[.pointer (some ⟨w.heap.size + 2, 0, none⟩), .int .i64 0] (W3 w k l (decide (100000 < l.length))) (POut (w.heap.size + 2) k (W3 w k l (decide (100000 < l.length))) none)) :
    Calls Tryz.prog 39 #[.int .i64 k, .string (B l)] w fun e w' => e = .returned (.tuple #[.string ⟨#[]⟩, .int .i64 4]) ∧ Below w.heap.size w w' := by
  have hmf : ∀ (fn : Fn) (first cap : Array Value) (w : World), (Instr.makeFunc fn first cap).run Tryz.prog w = .ok (.func fn first cap) w := fun _ _ _ _ => rfl
  have sz : ((B l).size : Int) = (l.length : Int) := by rw [size_B]
  have dl : decide ((l.length : Int) > 100000) = decide (100000 < l.length) := decide_eq_decide.2 (by omega)
  go_enter_defers Tryz.func39, Tryz.ntmps39
  have d1 : decide (k < 1) = false := by simp; omega
  have d2 : decide (k > 8) = false := by simp; omega
  have d3 : decide (8 < k) = false := by simp; omega
  have T' := Lib.hid T
  clear T
  go_wp2_with (go_at_call 61; refine T'.out.mono ?_; rintro e w' ⟨rfl, hk⟩)
  have hA := (At.start w k l (decide (100000 < l.length))).kp hk
  refine leaves_cons (f := 60) (args := #[.pointer (some ⟨w.heap.size, 0, none⟩), .pointer (some ⟨w.heap.size + 1, 0, none⟩)]) (by simp) (by simp [go_sem]) ?_
  refine (catch_bad w.heap.size (w.heap.size + 1) w.heap.size ⟨#[]⟩ 0 _ (Nat.le_refl _) (Nat.le_succ _) (by omega) (by have := hA.size; omega) hA.c0 hA.f0 hA.c1 hA.f1).mono ?_
  rintro e u' w'' ⟨rfl, rfl, k1, k2, kb⟩
  simp [Leaves, settle, results, Tryz.results39, go_sem, k1, k2]
  exact hA.below.trans kb
set_option maxHeartbeats 4000000 in
set_option maxRecDepth 100000 in
theorem parse_some (k : Int) (h1 : 1 ≤ k) (h8 : k ≤ 8) (l : List UInt8) (w : World) (v l' : List UInt8) (o' : Bool)
    (T : Calls Tryz.prog 61 #[.pointer (some ⟨w.heap.size + 2, 0, none⟩), .int .i64 0] (W3 w k l (decide (100000 < l.length))) (POut (w.heap.size + 2) k (W3 w k l (decide (100000 < l.length))) (some (v, l', o')))) :
    Calls Tryz.prog 39 #[.int .i64 k, .string (B l)] w fun e w' =>
      e = .returned (if trimL l' ≠ [] then .tuple #[.string ⟨#[]⟩, .int .i64 4] else if o' = true then .tuple #[.string ⟨#[]⟩, .int .i64 2] else .tuple #[.string (B v), .int .i64 0]) ∧ Below w.heap.size w w' := by
  have hmf : ∀ (fn : Fn) (first cap : Array Value) (w : World), (Instr.makeFunc fn first cap).run Tryz.prog w = .ok (.func fn first cap) w := fun _ _ _ _ => rfl
  have sz : ((B l).size : Int) = (l.length : Int) := by rw [size_B]
  have dl : decide ((l.length : Int) > 100000) = decide (100000 < l.length) := decide_eq_decide.2 (by omega)
  have d1 : decide (k < 1) = false := by simp; omega
  have d2 : decide (k > 8) = false := by simp; omega
  have d3 : decide (8 < k) = false := by simp; omega
  have T' := Lib.hid T
  clear T
  have T2 : ∀ (W : World), PS (w.heap.size + 2) k W l' o' → At w W (B v) 0 → Calls Tryz.prog 62 #[.pointer (some ⟨w.heap.size + 2, 0, none⟩)] W fun e w' =>
      e = .returned (.int .u8 (hdC (trimL l'))) ∧ PS (w.heap.size + 2) k w' (trimL l') o' ∧ At w w' (B v) 0 := fun W hp hA =>
    (next_any (w.heap.size + 2) k W l' o' hp).mono fun e w' ⟨a, b, c⟩ => ⟨a, b, hA.kp c⟩
  cases ht : trimL l' with
  | nil =>
    rw [ht] at T2
    have hh : hdC ([] : List UInt8) = 0 := rfl
    rw [hh] at T2
    have T2' := Lib.hid T2
    clear T2 hh
    have em := empty_nil
    cases o' with
    | true =>
      simp only [ne_eq, not_true_eq_false, if_false, if_true]
      go_enter_defers Tryz.func39, Tryz.ntmps39
      go_wp2_with (first
        | (go_at_call 61; refine T'.out.mono ?_; rintro e w' ⟨rfl, hp, hk⟩
           have hA := (At.start w k l (decide (100000 < l.length))).kp hk
           have a0 := hA.c0
           have a1 := hA.f0
           have hp' := Aside0.mk (show PS (w.heap.size + 2) k (w'.setCell ⟨w.heap.size, 0, none⟩ (.string (B v))) l' true from (Below.heap_setCell _ _ _ _ (by simp)).trans hp)
           have hA' := Aside0.mk (hA.set0 (B v)))
        | (go_at_call 62; refine (T2'.out _ hp'.out hA'.out).mono ?_; rintro e w2 ⟨rfl, hp2, hA2⟩
           have b0 : w2.cell? ⟨w.heap.size + 1 + 1, 0, none⟩ = some (.string (B ([]))) := hp2.cell0
           have b2 : w2.cell? ⟨w.heap.size + 1 + 1, 2, none⟩ = some (.bool true) := hp2.cell2
           have b4 := hA2.c0
           have b5 := hA2.f0
           have b6 := hA2.c1
           have b7 := hA2.f1
           have hF := Aside0.mk ((hA2.set0 ⟨#[]⟩).set1 2)
           clear hA2 hp2))
      refine leaves_cons (f := 60) (args := #[.pointer (some ⟨w.heap.size, 0, none⟩), .pointer (some ⟨w.heap.size + 1, 0, none⟩)]) (by simp) (by simp [go_sem]) ?_
      refine (catch_idle _ _ _).mono ?_
      rintro e u' w'' ⟨rfl, rfl, rfl⟩
      have k1 := hF.out.c0
      have k2 := hF.out.c1
      have k3 := hF.out.below
      clear hF b4 b5 b6 b7 b0 b2
      simp [Leaves, settle, results, Tryz.results39, go_sem, k1, k2]
      exact k3
    | false =>
      simp only [ne_eq, not_true_eq_false, if_false, Bool.false_eq_true]
      go_enter_defers Tryz.func39, Tryz.ntmps39
      go_wp2_with (first
        | (go_at_call 61; refine T'.out.mono ?_; rintro e w' ⟨rfl, hp, hk⟩
           have hA := (At.start w k l (decide (100000 < l.length))).kp hk
           have a0 := hA.c0
           have a1 := hA.f0
           have hp' := Aside0.mk (show PS (w.heap.size + 2) k (w'.setCell ⟨w.heap.size, 0, none⟩ (.string (B v))) l' false from (Below.heap_setCell _ _ _ _ (by simp)).trans hp)
           have hA' := Aside0.mk (hA.set0 (B v)))
        | (go_at_call 62; refine (T2'.out _ hp'.out hA'.out).mono ?_; rintro e w2 ⟨rfl, hp2, hA2⟩
           have b0 : w2.cell? ⟨w.heap.size + 1 + 1, 0, none⟩ = some (.string (B ([]))) := hp2.cell0
           have b2 : w2.cell? ⟨w.heap.size + 1 + 1, 2, none⟩ = some (.bool false) := hp2.cell2
           have b4 := hA2.c0
           have b5 := hA2.f0
           have b6 := hA2.c1
           have b7 := hA2.f1
           have hF := Aside0.mk ((hA2.set0 (B v)).set1 0)
           clear hA2 hp2))
      refine leaves_cons (f := 60) (args := #[.pointer (some ⟨w.heap.size, 0, none⟩), .pointer (some ⟨w.heap.size + 1, 0, none⟩)]) (by simp) (by simp [go_sem]) ?_
      refine (catch_idle _ _ _).mono ?_
      rintro e u' w'' ⟨rfl, rfl, rfl⟩
      have k1 := hF.out.c0
      have k2 := hF.out.c1
      have k3 := hF.out.below
      clear hF b4 b5 b6 b7 b0 b2
      simp [Leaves, settle, results, Tryz.results39, go_sem, k1, k2]
      exact k3
  | cons c t =>
    rw [ht] at T2
    have hh : hdC (c :: t) = (c.toNat : Int) := rfl
    rw [hh] at T2
    have em := empty_cons c t
    have ne : ((c :: t) ≠ []) = True := by simp
    simp only [ne, if_true]
    clear ht ne hh
    by_cases hc : c.toNat = 0
    · have dc : ((c.toNat : Int) != 0) = false := by rw [hc]; rfl
      clear hc
      have T2' := Lib.hid T2
      clear T2
      go_enter_defers Tryz.func39, Tryz.ntmps39
      go_wp2_with (first
        | (go_at_call 61; refine T'.out.mono ?_; rintro e w' ⟨rfl, hp, hk⟩
           have hA := (At.start w k l (decide (100000 < l.length))).kp hk
           have a0 := hA.c0
           have a1 := hA.f0
           have hp' := Aside0.mk (show PS (w.heap.size + 2) k (w'.setCell ⟨w.heap.size, 0, none⟩ (.string (B v))) l' o' from (Below.heap_setCell _ _ _ _ (by simp)).trans hp)
           have hA' := Aside0.mk (hA.set0 (B v)))
        | (go_at_call 62; refine (T2'.out _ hp'.out hA'.out).mono ?_; rintro e w2 ⟨rfl, hp2, hA2⟩
           have b0 : w2.cell? ⟨w.heap.size + 1 + 1, 0, none⟩ = some (.string (B (c :: t))) := hp2.cell0
           have b2 : w2.cell? ⟨w.heap.size + 1 + 1, 2, none⟩ = some (.bool o') := hp2.cell2
           have b4 := hA2.c0
           have b5 := hA2.f0
           have b6 := hA2.c1
           have b7 := hA2.f1
           have hF := Aside0.mk ((hA2.set0 ⟨#[]⟩).set1 4)
           clear hA2 hp2))
      refine leaves_cons (f := 60) (args := #[.pointer (some ⟨w.heap.size, 0, none⟩), .pointer (some ⟨w.heap.size + 1, 0, none⟩)]) (by simp) (by simp [go_sem]) ?_
      refine (catch_idle _ _ _).mono ?_
      rintro e u' w'' ⟨rfl, rfl, rfl⟩
      have k1 := hF.out.c0
      have k2 := hF.out.c1
      have k3 := hF.out.below
      clear hF b4 b5 b6 b7 b0 b2
      simp [Leaves, settle, results, Tryz.results39, go_sem, k1, k2]
      exact k3
    · have dc : ((c.toNat : Int) != 0) = true := by simpa using hc
      clear hc
      have T2' := Lib.hid T2
      clear T2
      go_enter_defers Tryz.func39, Tryz.ntmps39
      go_wp2_with (first
        | (go_at_call 61; refine T'.out.mono ?_; rintro e w' ⟨rfl, hp, hk⟩
           have hA := (At.start w k l (decide (100000 < l.length))).kp hk
           have a0 := hA.c0
           have a1 := hA.f0
           have hp' := Aside0.mk (show PS (w.heap.size + 2) k (w'.setCell ⟨w.heap.size, 0, none⟩ (.string (B v))) l' o' from (Below.heap_setCell _ _ _ _ (by simp)).trans hp)
           have hA' := Aside0.mk (hA.set0 (B v)))
        | (go_at_call 62; refine (T2'.out _ hp'.out hA'.out).mono ?_; rintro e w2 ⟨rfl, hp2, hA2⟩
           have b0 : w2.cell? ⟨w.heap.size + 1 + 1, 0, none⟩ = some (.string (B (c :: t))) := hp2.cell0
           have b2 : w2.cell? ⟨w.heap.size + 1 + 1, 2, none⟩ = some (.bool o') := hp2.cell2
           have b4 := hA2.c0
           have b5 := hA2.f0
           have b6 := hA2.c1
           have b7 := hA2.f1
           have hF := Aside0.mk ((hA2.set0 ⟨#[]⟩).set1 4)
           clear hA2 hp2))
      refine leaves_cons (f := 60) (args := #[.pointer (some ⟨w.heap.size, 0, none⟩), .pointer (some ⟨w.heap.size + 1, 0, none⟩)]) (by simp) (by simp [go_sem]) ?_
      refine (catch_idle _ _ _).mono ?_
      rintro e u' w'' ⟨rfl, rfl, rfl⟩
      have k1 := hF.out.c0
      have k2 := hF.out.c1
      have k3 := hF.out.below
      clear hF b4 b5 b6 b7 b0 b2
      simp [Leaves, settle, results, Tryz.results39, go_sem, k1, k2]
      exact k3
end Go.Proofs.YthiehmogphknlaaGreatDoor.Parse
namespace Go.Proofs.YthiehmogphknlaaGreatDoor.G
open Go.RowKit Go.Proofs.YthiehmogphknlaaGreatDoor.Parse Go.Proofs.YthiehmogphknlaaGreatDoor.Pure1 Go.Proofs.YthiehmogphknlaaGreatDoorW.PrintWords
/-- word.Parse: rounds enough for the text's length. -/
def word_Parse.f (a0 : Int) (a1 : ByteArray) : Option (ByteArray × Int) :=
  if a1.size ≤ 140737488355328 then (parseN (a1.size + 2) a0 (L a1)).map (fun p => (Pure1.B p.1, p.2)) else none
theorem word_Parse.calls (a0 : Int) (a1 r1 : ByteArray) (r2 : Int) (w : World) (h : word_Parse.f a0 a1 = some (r1, r2)) (hG : GL w) :
    Calls Tryz.prog 39 #[.int .i64 a0, .string a1] w fun e w' => e = .returned (.tuple #[.string r1, .int .i64 r2]) ∧ Below w.heap.size w w' := by
  unfold word_Parse.f at h
  split at h
  case isFalse => exact absurd h (by simp)
  rename_i hs
  unfold parseN at h
  split at h
  · rename_i hk
    simp only [Option.map_some, Option.some.injEq, Prod.mk.injEq] at h
    obtain ⟨rfl, rfl⟩ := h
    exact parse_out a0 hk a1 w
  rename_i hk
  have hl : (L a1).length ≤ 140737488355328 := by rw [← size_L]; exact hs
  have S := sum_all a0 (by omega) (by omega) (a1.size + 2) (by omega)
  have T : ∀ r, sumN a0 (a1.size + 2) 0 (L a1) (decide (100000 < (L a1).length)) = some r → _ := fun r hr => S (w.heap.size + 2) (W3 w a0 (L a1) (decide (100000 < (L a1).length))) (L a1) (decide (100000 < (L a1).length)) 0 r (by omega) (by omega) hl (fun ho => by simpa using ho) (W3_PS w a0 (L a1) _) ⟨w, hG, W3_below w a0 (L a1) _, by omega⟩ hr
  show Calls Tryz.prog 39 #[.int .i64 a0, .string (Pure1.B (L a1))] w _
  cases hr : sumN a0 (a1.size + 2) 0 (L a1) (decide (100000 < (L a1).length)) with
  | none => rw [hr] at h; exact absurd h (by simp)
  | some r =>
    have T' := T r hr
    rw [hr] at h
    cases r with
    | none =>
      simp only [Option.map_some, Option.some.injEq, Prod.mk.injEq] at h
      obtain ⟨rfl, rfl⟩ := h
      exact parse_none a0 (by omega) (by omega) (L a1) w T'
    | some r =>
      obtain ⟨v, l', o'⟩ := r
      refine (parse_some a0 (by omega) (by omega) (L a1) w v l' o' T').mono ?_
      rintro e w' ⟨rfl, hb⟩
      refine ⟨?_, hb⟩
      dsimp only at h
      split at h
      · rename_i h1
        rw [if_pos h1]
        simp only [Option.map_some, Option.some.injEq, Prod.mk.injEq] at h
        obtain ⟨rfl, rfl⟩ := h
        rfl
      · rename_i h1
        rw [if_neg h1]
        split at h
        · rename_i h2
          rw [if_pos h2]
          simp only [Option.map_some, Option.some.injEq, Prod.mk.injEq] at h
          obtain ⟨rfl, rfl⟩ := h
          rfl
        · rename_i h2
          rw [if_neg h2]
          simp only [Option.map_some, Option.some.injEq, Prod.mk.injEq] at h
          obtain ⟨rfl, rfl⟩ := h
          rfl
end Go.Proofs.YthiehmogphknlaaGreatDoor.G
