/- The parser's base: the walk, over a contract of what reads the brackets' contents. (Printed by wip/gen_parse4.py.) -/
import Derived.Test.YthiehmogphknlaaGreatDoorParse3
import Derived.Deep.QuietTactic
import Derived.BigQuiet
namespace Go.Proofs.YthiehmogphknlaaGreatDoor.Parse
open Go.RowKit Go.Proofs.YthiehmogphknlaaGreatDoor.G Go.Proofs.YthiehmogphknlaaGreatDoor.PA Go.Proofs.YthiehmogphknlaaGreatDoorW.PrintWords Go.Proofs.YthiehmogphknlaaGreatDoor.Free Go.Proofs.YthiehmogphknlaaGreatDoor.Pure1

/-- The contract of the reading of a sum. -/
def SumC (k D : Int) (F : Int → List UInt8 → Bool → Res (List UInt8)) : Prop :=
  ∀ (g : Nat) (w : World) (l : List UInt8) (o : Bool) (d : Int) (r : Option (List UInt8 × List UInt8 × Bool)), 0 ≤ d → d ≤ D → l.length ≤ 140737488355328 → (o = false → l.length ≤ 100000) → PS g k w l o → GP g w → F d l o = some r →
    Calls Tryz.prog 61 #[.pointer (some ⟨g, 0, none⟩), .int .i64 d] w (POut g k w r)

theorem PS.drewN {g : Nat} {k : Int} {w : World} {l : List UInt8} {o : Bool} (h : PS g k w l o) (n : Nat) : PS g k (w.drewN n) l o := h
theorem conv_one (x : UInt8) (y : Int) (hy : (x.toNat : Int) = y) : ∀ W : World, (convert 55 9 (.slice (some ⟨W.heap.size, 0, none⟩) 1 1)).run Tryz.prog (W.alloc (.cells #[.int .u8 y] 5)) = .ok (.string (B [x])) (W.alloc (.cells #[.int .u8 y] 5)) := by
  intro W
  have hC : (Kd.int .u8).C (W.alloc (.cells #[.int .u8 y] 5)) (some ⟨W.heap.size, 0, none⟩) 1 [y] := by
    refine Kd.C_of_reads (enc := Value.int .u8) (d := (0 : Int)) (h1 := fun _ => rfl) ⟨rfl, by decide, fun _ => ⟨_, rfl, fun j hj => ?_⟩⟩
    have hb : (W.alloc (.cells #[.int .u8 y] 5)).heap[W.heap.size]? = some (.cells #[.int .u8 y] 5 (0, 0)) := by
      show (W.heap.push _)[W.heap.size]? = _
      rw [Array.getElem?_push_size]
    obtain rfl : j = 0 := by omega
    rw [add_plain, blk_cell hb]
    rfl
  have := Kd.C_string (P := Tryz.prog) (c := 1) Tryz.underlying55 Tryz.underlying5 Tryz.underlying9 hC
  rw [this, ← hy]
  have e : strOfNums [(x.toNat : Int)] = B [x] := str_toI [x]
  rw [e]
theorem lit_C (xs : List ByteArray) (w : World) (e : TypeId) (hn : xs.length ≤ 9223372036854775807) : Kd.C Kd.string (w.alloc (.cells (xs.map Value.string).toArray e)) (some ⟨w.heap.size, 0, none⟩) xs.length xs := by
  refine Kd.C_of_reads (enc := Value.string) (d := ByteArray.empty) (h1 := fun _ => rfl) ⟨rfl, hn, fun _ => ⟨_, rfl, fun j hj => ?_⟩⟩
  have hb : (w.alloc (.cells (xs.map Value.string).toArray e)).heap[w.heap.size]? = some (.cells (xs.map Value.string).toArray e (0, 0)) := by
    show (w.heap.push _)[w.heap.size]? = _
    rw [Array.getElem?_push_size]
  rw [add_plain, blk_cell hb, List.getElem?_toArray, List.getElem?_map, List.getElem?_eq_getElem hj, List.getD_eq_getElem?_getD, List.getElem?_eq_getElem hj]
  rfl
theorem reduce_four (a b c d : List UInt8) (w : World) (hl : (a ++ b ++ c ++ d).length < 140737488355328) :
    Calls Tryz.prog 47 #[.slice (some ⟨w.heap.size, 0, none⟩) 4 4] (w.alloc (.cells #[.string (B a), .string (B b), .string (B c), .string (B d)] 9)) fun e w' => e = .returned (.string (B (red (a ++ b ++ c ++ d)))) ∧ Below w.heap.size w w' := by
  have hcat : cat [B a, B b, B c, B d] = a ++ b ++ c ++ d := by simp [cat, L_B]
  have h := reduce_any (some ⟨w.heap.size, 0, none⟩) 4 [B a, B b, B c, B d] (w.alloc (.cells #[.string (B a), .string (B b), .string (B c), .string (B d)] 9)) (lit_C _ w _ (by simp)) (by simp) (by rw [hcat]; exact hl) (by simp)
  rw [hcat] at h
  exact h.mono fun e w' ⟨he, hb⟩ => ⟨he, below_then (below_alloc (Below.refl _ _) _) (by simp) hb⟩
theorem fits_int (g : Nat) (k : Int) (w : World) (l : List UInt8) (o : Bool) (n : Nat) (x : Int) (hx : x = n) (h : PS g k w l o) :
    Calls Tryz.prog 75 #[.pointer (some ⟨g, 0, none⟩), .int .i64 x] w fun e w' => e = .returned (.bool (!over n o)) ∧ PS g k w' l (over n o) ∧ Kp g w w' := by
  subst hx
  exact fits_any g k w l o n h
theorem expect_ok {g : Nat} {k : Int} {w : World} {l l' : List UInt8} {o : Bool} {c : Int} (h : PS g k w l o) (he : expectP c l = some l') :
    Calls Tryz.prog 102 #[.pointer (some ⟨g, 0, none⟩), .int .u8 c] w fun e w' => e = .returned (.tuple #[]) ∧ PS g k w' l' o ∧ Kp g w w' := by
  have := expect_any g k w l o c h
  rw [he] at this
  exact this
theorem expect_bad {g : Nat} {k : Int} {w : World} {l : List UInt8} {o : Bool} {c : Int} (h : PS g k w l o) (he : expectP c l = none) :
    Calls Tryz.prog 102 #[.pointer (some ⟨g, 0, none⟩), .int .u8 c] w fun e w' => e = .panicked bad ∧ Kp g w w' := by
  have := expect_any g k w l o c h
  rw [he] at this
  exact this
theorem expect_at {l : List UInt8} {c : Int} (hc : hdC (trimL l) = c) (h0 : c ≠ 0) : expectP c (trimL l) = some (trimL l).tail := by
  unfold expectP
  rw [trim_trim, if_neg (by rintro (h | h); exact h hc; exact h0 h)]

set_option maxHeartbeats 4000000 in
set_option maxRecDepth 100000 in
theorem base_any (k : Int) (hk0 : 1 ≤ k) (hk1 : k ≤ 8) (D : Int) (hD : D ≤ 4611686018427387904) (sum : Int → List UInt8 → Bool → Res (List UInt8)) (hS : SumC k D sum) (hGood : ∀ d, Good (sum d))
    (g : Nat) (w : World) (l : List UInt8) (o : Bool) (d : Int) (r : Option (List UInt8 × List UInt8 × Bool)) (hd0 : 0 ≤ d) (hd1 : d + 1 ≤ D) (hl : l.length ≤ 140737488355328) (ho : o = false → l.length ≤ 100000) (hP : PS g k w l o) (hG : GP g w) (hr : baseP sum k d l o = some r) :
    Calls Tryz.prog 86 #[.pointer (some ⟨g, 0, none⟩), .int .i64 d] w (POut g k w r) := by
  have T := next_any g k w l o hP
  have hlt := trimL_le l
  have htl : (trimL l).tail.length ≤ (trimL l).length := by simp
  unfold baseP at hr
  dsimp only at hr
  have hSS := Lib.hid hS
  have hGG := Lib.hid hGood
  clear hS hGood hP
  by_cases hc : hdC (trimL l) = 49
  · rw [if_pos hc] at hr
    obtain rfl := Option.some.inj hr
    have he := expect_at hc (by decide)
    have HE := Aside0.mk he
    clear he hr
    rw [hc] at T
    have TT := Lib.hid T
    clear T
    go_enter Tryz.func86, Tryz.ntmps86
    go_wp2_with fail
    refine (TT.out).mono ?_
    rintro e w1 ⟨rfl, hp1, hk1⟩
    have Hp1 := Aside0.mk hp1
    have Hk1 := Aside0.mk hk1
    clear hp1 hk1
    go_wp2_with fail
    refine (expect_ok Hp1.out (c := 49) (HE.out)).mono ?_
    rintro e w2 ⟨rfl, hp2, hk2⟩
    have Hp2 := Aside0.mk hp2
    have Hk2 := Aside0.mk (Hk1.out.trans hk2)
    clear hp2 hk2
    go_wp2
    go_ret
    exact ⟨rfl, Hp2.out, Hk2.out⟩
  · rw [if_neg hc] at hr
    have m1 : (hdC (trimL l) == 49) = false := beq_eq_false_iff_ne.mpr hc
    clear hc
    by_cases hc : hdC (trimL l) = 40
    · rw [if_pos hc] at hr
      have HE := Aside0.mk (expect_at hc (by decide))
      cases hq : sum (d + 1) (trimL l).tail (o || decide (20 < d)) with
      | none => rw [hq] at hr; cases hr
      | some r1 =>
        rw [hq] at hr
        have HQ := Aside0.mk hq
        clear hq
        cases r1 with
        | none =>
          obtain rfl := Option.some.inj hr
          clear hr
          rw [hc] at T
          have TT := Lib.hid T
          clear T
          go_enter Tryz.func86, Tryz.ntmps86
          go_wp2_with fail
          refine (TT.out).mono ?_
          rintro e w1 ⟨rfl, hp1, hk1⟩
          have Hp1 := Aside0.mk hp1
          have Hk1 := Aside0.mk hk1
          clear hp1 hk1
          go_wp2_with fail
          refine (expect_ok Hp1.out (c := 40) (HE.out)).mono ?_
          rintro e w2 ⟨rfl, hp2, hk2⟩
          have Hp2 := Aside0.mk hp2
          have Hk2 := Aside0.mk (Hk1.out.trans hk2)
          clear hp2 hk2
          go_wp2_with fail
          refine (deeper_any g k _ _ _ d hd0 (by omega) Hp2.out).mono ?_
          rintro e w3 ⟨rfl, hp3, hk3⟩
          have Hp3 := Aside0.mk hp3
          have Hk3 := Aside0.mk (Hk2.out.trans hk3)
          clear hp3 hk3
          go_wp2_with fail
          refine (hSS.out g _ _ _ (d + 1) _ (by omega) (by omega) (by omega) (fun h => by have := ho (Bool.or_eq_false_iff.mp h).1; omega) Hp3.out (hG.kp Hk3.out) HQ.out).mono ?_
          rintro e w4 ⟨rfl, hk4⟩
          (try go_wp2)
          exact ⟨rfl, rfl, Hk3.out.trans hk4⟩
        | some r1 =>
          obtain ⟨v, l1, o1⟩ := r1
          have hg1 := (hGG.out _ _ _ _ _ _ HQ.out).2.1
          dsimp only [Res.bind] at hr
          cases he : expectP 41 l1 with
          | none =>
            rw [he] at hr
            obtain rfl := Option.some.inj hr
            have HF := Aside0.mk he
            clear he hr
            rw [hc] at T
            have TT := Lib.hid T
            clear T
            go_enter Tryz.func86, Tryz.ntmps86
            go_wp2_with fail
            refine (TT.out).mono ?_
            rintro e w1 ⟨rfl, hp1, hk1⟩
            have Hp1 := Aside0.mk hp1
            have Hk1 := Aside0.mk hk1
            clear hp1 hk1
            go_wp2_with fail
            refine (expect_ok Hp1.out (c := 40) (HE.out)).mono ?_
            rintro e w2 ⟨rfl, hp2, hk2⟩
            have Hp2 := Aside0.mk hp2
            have Hk2 := Aside0.mk (Hk1.out.trans hk2)
            clear hp2 hk2
            go_wp2_with fail
            refine (deeper_any g k _ _ _ d hd0 (by omega) Hp2.out).mono ?_
            rintro e w3 ⟨rfl, hp3, hk3⟩
            have Hp3 := Aside0.mk hp3
            have Hk3 := Aside0.mk (Hk2.out.trans hk3)
            clear hp3 hk3
            go_wp2_with fail
            refine (hSS.out g _ _ _ (d + 1) _ (by omega) (by omega) (by omega) (fun h => by have := ho (Bool.or_eq_false_iff.mp h).1; omega) Hp3.out (hG.kp Hk3.out) HQ.out).mono ?_
            rintro e w4 ⟨rfl, hp4, hk4⟩
            have Hp4 := Aside0.mk hp4
            have Hk4 := Aside0.mk (Hk3.out.trans hk4)
            clear hp4 hk4
            go_wp2_with fail
            refine (expect_bad Hp4.out (c := 41) (HF.out)).mono ?_
            rintro e w5 ⟨rfl, hk5⟩
            (try go_wp2)
            exact ⟨rfl, rfl, Hk4.out.trans hk5⟩
          | some l2 =>
            rw [he] at hr
            obtain rfl := Option.some.inj hr
            have HF := Aside0.mk he
            clear he hr
            rw [hc] at T
            have TT := Lib.hid T
            clear T
            go_enter Tryz.func86, Tryz.ntmps86
            go_wp2_with fail
            refine (TT.out).mono ?_
            rintro e w1 ⟨rfl, hp1, hk1⟩
            have Hp1 := Aside0.mk hp1
            have Hk1 := Aside0.mk hk1
            clear hp1 hk1
            go_wp2_with fail
            refine (expect_ok Hp1.out (c := 40) (HE.out)).mono ?_
            rintro e w2 ⟨rfl, hp2, hk2⟩
            have Hp2 := Aside0.mk hp2
            have Hk2 := Aside0.mk (Hk1.out.trans hk2)
            clear hp2 hk2
            go_wp2_with fail
            refine (deeper_any g k _ _ _ d hd0 (by omega) Hp2.out).mono ?_
            rintro e w3 ⟨rfl, hp3, hk3⟩
            have Hp3 := Aside0.mk hp3
            have Hk3 := Aside0.mk (Hk2.out.trans hk3)
            clear hp3 hk3
            go_wp2_with fail
            refine (hSS.out g _ _ _ (d + 1) _ (by omega) (by omega) (by omega) (fun h => by have := ho (Bool.or_eq_false_iff.mp h).1; omega) Hp3.out (hG.kp Hk3.out) HQ.out).mono ?_
            rintro e w4 ⟨rfl, hp4, hk4⟩
            have Hp4 := Aside0.mk hp4
            have Hk4 := Aside0.mk (Hk3.out.trans hk4)
            clear hp4 hk4
            go_wp2_with fail
            refine (expect_ok Hp4.out (c := 41) (HF.out)).mono ?_
            rintro e w5 ⟨rfl, hp5, hk5⟩
            have Hp5 := Aside0.mk hp5
            have Hk5 := Aside0.mk (Hk4.out.trans hk5)
            clear hp5 hk5
            go_wp2
            go_ret
            exact ⟨rfl, Hp5.out, Hk5.out⟩
    · rw [if_neg hc] at hr
      have m2 : (hdC (trimL l) == 40) = false := beq_eq_false_iff_ne.mpr hc
      clear hc
      by_cases hc : hdC (trimL l) = 91
      · rw [if_pos hc] at hr
        have HE := Aside0.mk (expect_at hc (by decide))
        cases hq : sum (d + 1) (trimL l).tail (o || decide (20 < d)) with
        | none => rw [hq] at hr; cases hr
        | some r1 =>
          rw [hq] at hr
          have HQ := Aside0.mk hq
          clear hq
          cases r1 with
          | none =>
            obtain rfl := Option.some.inj hr
            clear hr
            rw [hc] at T
            have TT := Lib.hid T
            clear T
            go_enter Tryz.func86, Tryz.ntmps86
            go_wp2_with fail
            refine (TT.out).mono ?_
            rintro e w1 ⟨rfl, hp1, hk1⟩
            have Hp1 := Aside0.mk hp1
            have Hk1 := Aside0.mk hk1
            clear hp1 hk1
            go_wp2_with fail
            refine (expect_ok Hp1.out (c := 91) (HE.out)).mono ?_
            rintro e w2 ⟨rfl, hp2, hk2⟩
            have Hp2 := Aside0.mk hp2
            have Hk2 := Aside0.mk (Hk1.out.trans hk2)
            clear hp2 hk2
            go_wp2_with fail
            refine (deeper_any g k _ _ _ d hd0 (by omega) Hp2.out).mono ?_
            rintro e w3 ⟨rfl, hp3, hk3⟩
            have Hp3 := Aside0.mk hp3
            have Hk3 := Aside0.mk (Hk2.out.trans hk3)
            clear hp3 hk3
            go_wp2_with fail
            refine (hSS.out g _ _ _ (d + 1) _ (by omega) (by omega) (by omega) (fun h => by have := ho (Bool.or_eq_false_iff.mp h).1; omega) Hp3.out (hG.kp Hk3.out) HQ.out).mono ?_
            rintro e w4 ⟨rfl, hk4⟩
            (try go_wp2)
            exact ⟨rfl, rfl, Hk3.out.trans hk4⟩
          | some r1 =>
            obtain ⟨u, l1, o1⟩ := r1
            have HO : Aside0 (o1 = false → o = false) := ⟨fun h => by cases o with | false => rfl | true => exact absurd ((hGG.out _ _ _ _ _ _ HQ.out).2.2 rfl) (by rw [h]; decide)⟩
            have hg1 := (hGG.out _ _ _ _ _ _ HQ.out).2.1
            have hu := (hGG.out _ _ _ _ _ _ HQ.out).1
            dsimp only [Res.bind] at hr
            cases he : expectP 44 l1 with
            | none =>
              rw [he] at hr
              obtain rfl := Option.some.inj hr
              have HF := Aside0.mk he
              clear he hr
              rw [hc] at T
              have TT := Lib.hid T
              clear T
              go_enter Tryz.func86, Tryz.ntmps86
              go_wp2_with fail
              refine (TT.out).mono ?_
              rintro e w1 ⟨rfl, hp1, hk1⟩
              have Hp1 := Aside0.mk hp1
              have Hk1 := Aside0.mk hk1
              clear hp1 hk1
              go_wp2_with fail
              refine (expect_ok Hp1.out (c := 91) (HE.out)).mono ?_
              rintro e w2 ⟨rfl, hp2, hk2⟩
              have Hp2 := Aside0.mk hp2
              have Hk2 := Aside0.mk (Hk1.out.trans hk2)
              clear hp2 hk2
              go_wp2_with fail
              refine (deeper_any g k _ _ _ d hd0 (by omega) Hp2.out).mono ?_
              rintro e w3 ⟨rfl, hp3, hk3⟩
              have Hp3 := Aside0.mk hp3
              have Hk3 := Aside0.mk (Hk2.out.trans hk3)
              clear hp3 hk3
              go_wp2_with fail
              refine (hSS.out g _ _ _ (d + 1) _ (by omega) (by omega) (by omega) (fun h => by have := ho (Bool.or_eq_false_iff.mp h).1; omega) Hp3.out (hG.kp Hk3.out) HQ.out).mono ?_
              rintro e w4 ⟨rfl, hp4, hk4⟩
              have Hp4 := Aside0.mk hp4
              have Hk4 := Aside0.mk (Hk3.out.trans hk4)
              clear hp4 hk4
              go_wp2_with fail
              refine (expect_bad Hp4.out (c := 44) (HF.out)).mono ?_
              rintro e w5 ⟨rfl, hk5⟩
              (try go_wp2)
              exact ⟨rfl, rfl, Hk4.out.trans hk5⟩
            | some l2 =>
              rw [he] at hr
              have hle2 := expectP_le he
              have HF := Aside0.mk he
              clear he
              dsimp only at hr
              cases hq2 : sum (d + 1) l2 o1 with
              | none => rw [hq2] at hr; cases hr
              | some r2 =>
                rw [hq2] at hr
                have HQ2 := Aside0.mk hq2
                clear hq2
                cases r2 with
                | none =>
                  obtain rfl := Option.some.inj hr
                  clear hr
                  rw [hc] at T
                  have TT := Lib.hid T
                  clear T
                  go_enter Tryz.func86, Tryz.ntmps86
                  go_wp2_with fail
                  refine (TT.out).mono ?_
                  rintro e w1 ⟨rfl, hp1, hk1⟩
                  have Hp1 := Aside0.mk hp1
                  have Hk1 := Aside0.mk hk1
                  clear hp1 hk1
                  go_wp2_with fail
                  refine (expect_ok Hp1.out (c := 91) (HE.out)).mono ?_
                  rintro e w2 ⟨rfl, hp2, hk2⟩
                  have Hp2 := Aside0.mk hp2
                  have Hk2 := Aside0.mk (Hk1.out.trans hk2)
                  clear hp2 hk2
                  go_wp2_with fail
                  refine (deeper_any g k _ _ _ d hd0 (by omega) Hp2.out).mono ?_
                  rintro e w3 ⟨rfl, hp3, hk3⟩
                  have Hp3 := Aside0.mk hp3
                  have Hk3 := Aside0.mk (Hk2.out.trans hk3)
                  clear hp3 hk3
                  go_wp2_with fail
                  refine (hSS.out g _ _ _ (d + 1) _ (by omega) (by omega) (by omega) (fun h => by have := ho (Bool.or_eq_false_iff.mp h).1; omega) Hp3.out (hG.kp Hk3.out) HQ.out).mono ?_
                  rintro e w4 ⟨rfl, hp4, hk4⟩
                  have Hp4 := Aside0.mk hp4
                  have Hk4 := Aside0.mk (Hk3.out.trans hk4)
                  clear hp4 hk4
                  go_wp2_with fail
                  refine (expect_ok Hp4.out (c := 44) (HF.out)).mono ?_
                  rintro e w5 ⟨rfl, hp5, hk5⟩
                  have Hp5 := Aside0.mk hp5
                  have Hk5 := Aside0.mk (Hk4.out.trans hk5)
                  clear hp5 hk5
                  go_wp2_with fail
                  refine (hSS.out g _ _ _ (d + 1) _ (by omega) (by omega) (by omega) (fun h => by have := ho (HO.out h); omega) Hp5.out (hG.kp Hk5.out) HQ2.out).mono ?_
                  rintro e w6 ⟨rfl, hk6⟩
                  (try go_wp2)
                  exact ⟨rfl, rfl, Hk5.out.trans hk6⟩
                | some r2 =>
                  obtain ⟨v, l3, o3⟩ := r2
                  have hv := (hGG.out _ _ _ _ _ _ HQ2.out).1
                  dsimp only [Res.bind] at hr
                  cases he : expectP 93 l3 with
                  | none =>
                    rw [he] at hr
                    obtain rfl := Option.some.inj hr
                    have HF3 := Aside0.mk he
                    clear he hr
                    rw [hc] at T
                    have TT := Lib.hid T
                    clear T
                    go_enter Tryz.func86, Tryz.ntmps86
                    go_wp2_with fail
                    refine (TT.out).mono ?_
                    rintro e w1 ⟨rfl, hp1, hk1⟩
                    have Hp1 := Aside0.mk hp1
                    have Hk1 := Aside0.mk hk1
                    clear hp1 hk1
                    go_wp2_with fail
                    refine (expect_ok Hp1.out (c := 91) (HE.out)).mono ?_
                    rintro e w2 ⟨rfl, hp2, hk2⟩
                    have Hp2 := Aside0.mk hp2
                    have Hk2 := Aside0.mk (Hk1.out.trans hk2)
                    clear hp2 hk2
                    go_wp2_with fail
                    refine (deeper_any g k _ _ _ d hd0 (by omega) Hp2.out).mono ?_
                    rintro e w3 ⟨rfl, hp3, hk3⟩
                    have Hp3 := Aside0.mk hp3
                    have Hk3 := Aside0.mk (Hk2.out.trans hk3)
                    clear hp3 hk3
                    go_wp2_with fail
                    refine (hSS.out g _ _ _ (d + 1) _ (by omega) (by omega) (by omega) (fun h => by have := ho (Bool.or_eq_false_iff.mp h).1; omega) Hp3.out (hG.kp Hk3.out) HQ.out).mono ?_
                    rintro e w4 ⟨rfl, hp4, hk4⟩
                    have Hp4 := Aside0.mk hp4
                    have Hk4 := Aside0.mk (Hk3.out.trans hk4)
                    clear hp4 hk4
                    go_wp2_with fail
                    refine (expect_ok Hp4.out (c := 44) (HF.out)).mono ?_
                    rintro e w5 ⟨rfl, hp5, hk5⟩
                    have Hp5 := Aside0.mk hp5
                    have Hk5 := Aside0.mk (Hk4.out.trans hk5)
                    clear hp5 hk5
                    go_wp2_with fail
                    refine (hSS.out g _ _ _ (d + 1) _ (by omega) (by omega) (by omega) (fun h => by have := ho (HO.out h); omega) Hp5.out (hG.kp Hk5.out) HQ2.out).mono ?_
                    rintro e w6 ⟨rfl, hp6, hk6⟩
                    have Hp6 := Aside0.mk hp6
                    have Hk6 := Aside0.mk (Hk5.out.trans hk6)
                    clear hp6 hk6
                    go_wp2_with fail
                    refine (expect_bad Hp6.out (c := 93) (HF3.out)).mono ?_
                    rintro e w7 ⟨rfl, hk7⟩
                    (try go_wp2)
                    exact ⟨rfl, rfl, Hk6.out.trans hk7⟩
                  | some l4 =>
                    rw [he] at hr
                    have HF3 := Aside0.mk he
                    clear he
                    dsimp only at hr
                    have hsu : (B u).size = u.length := size_B u
                    have hsv : (B v).size = v.length := size_B v
                    have HSU := Aside0.mk (And.intro hsu hsv)
                    clear hsu hsv
                    have hb1 : (B u).size ≤ 100000 := by rw [HSU.out.1]; exact hu
                    have hb2 : (B v).size ≤ 100000 := by rw [HSU.out.2]; exact hv
                    have FT := Lib.hid (fun W hW => fits_int g k W l4 o3 (2 * ((B u).size + (B v).size)) (2 * (((B u).size : Int) + ((B v).size : Int))) (by omega) hW)
                    cases hov : over (2 * (u.length + v.length)) o3 with
                    | true =>
                      rw [if_pos hov] at hr
                      obtain rfl := Option.some.inj hr
                      clear hr
                      simp only [HSU.out.1, HSU.out.2, hov] at FT
                      have HOV := Aside0.mk hov
                      clear hov
                      rw [hc] at T
                      have TT := Lib.hid T
                      clear T
                      go_enter Tryz.func86, Tryz.ntmps86
                      go_wp2_with fail
                      refine (TT.out).mono ?_
                      rintro e w1 ⟨rfl, hp1, hk1⟩
                      have Hp1 := Aside0.mk hp1
                      have Hk1 := Aside0.mk hk1
                      clear hp1 hk1
                      go_wp2_with fail
                      refine (expect_ok Hp1.out (c := 91) (HE.out)).mono ?_
                      rintro e w2 ⟨rfl, hp2, hk2⟩
                      have Hp2 := Aside0.mk hp2
                      have Hk2 := Aside0.mk (Hk1.out.trans hk2)
                      clear hp2 hk2
                      go_wp2_with fail
                      refine (deeper_any g k _ _ _ d hd0 (by omega) Hp2.out).mono ?_
                      rintro e w3 ⟨rfl, hp3, hk3⟩
                      have Hp3 := Aside0.mk hp3
                      have Hk3 := Aside0.mk (Hk2.out.trans hk3)
                      clear hp3 hk3
                      go_wp2_with fail
                      refine (hSS.out g _ _ _ (d + 1) _ (by omega) (by omega) (by omega) (fun h => by have := ho (Bool.or_eq_false_iff.mp h).1; omega) Hp3.out (hG.kp Hk3.out) HQ.out).mono ?_
                      rintro e w4 ⟨rfl, hp4, hk4⟩
                      have Hp4 := Aside0.mk hp4
                      have Hk4 := Aside0.mk (Hk3.out.trans hk4)
                      clear hp4 hk4
                      go_wp2_with fail
                      refine (expect_ok Hp4.out (c := 44) (HF.out)).mono ?_
                      rintro e w5 ⟨rfl, hp5, hk5⟩
                      have Hp5 := Aside0.mk hp5
                      have Hk5 := Aside0.mk (Hk4.out.trans hk5)
                      clear hp5 hk5
                      go_wp2_with fail
                      refine (hSS.out g _ _ _ (d + 1) _ (by omega) (by omega) (by omega) (fun h => by have := ho (HO.out h); omega) Hp5.out (hG.kp Hk5.out) HQ2.out).mono ?_
                      rintro e w6 ⟨rfl, hp6, hk6⟩
                      have Hp6 := Aside0.mk hp6
                      have Hk6 := Aside0.mk (Hk5.out.trans hk6)
                      clear hp6 hk6
                      go_wp2_with fail
                      refine (expect_ok Hp6.out (c := 93) (HF3.out)).mono ?_
                      rintro e w7 ⟨rfl, hp7, hk7⟩
                      have Hp7 := Aside0.mk hp7
                      have Hk7 := Aside0.mk (Hk6.out.trans hk7)
                      clear hp7 hk7
                      go_wp2_with fail
                      refine (FT.out _ Hp7.out).mono ?_
                      rintro e w8 ⟨rfl, hp8, hk8⟩
                      have Hp8 := Aside0.mk hp8
                      have Hk8 := Aside0.mk (Hk7.out.trans hk8)
                      clear hp8 hk8
                      go_wp2
                      go_ret
                      exact ⟨rfl, Hp8.out, Hk8.out⟩
                    | false =>
                      rw [if_neg (by rw [hov]; decide)] at hr
                      obtain rfl := Option.some.inj hr
                      clear hr
                      simp only [HSU.out.1, HSU.out.2, hov] at FT
                      have HOV := Aside0.mk hov
                      clear hov
                      have ho3 : o3 = false := (over_false (n := 2 * (u.length + v.length)) (by rw [HOV.out]; decide)).2
                      subst ho3
                      have R4 := Lib.hid (fun W => reduce_four u v (inv u) (inv v) W (by rw [List.length_append, List.length_append, List.length_append, inv_length, inv_length]; omega))
                      obtain ⟨x, hx⟩ : ∃ x, red (u ++ v ++ inv u ++ inv v) = x := ⟨_, rfl⟩
                      rw [hx] at R4
                      rw [hx]
                      clear hx
                      rw [hc] at T
                      have TT := Lib.hid T
                      clear T
                      go_enter Tryz.func86, Tryz.ntmps86
                      go_wp2_with fail
                      refine (TT.out).mono ?_
                      rintro e w1 ⟨rfl, hp1, hk1⟩
                      have Hp1 := Aside0.mk hp1
                      have Hk1 := Aside0.mk hk1
                      clear hp1 hk1
                      go_wp2_with fail
                      refine (expect_ok Hp1.out (c := 91) (HE.out)).mono ?_
                      rintro e w2 ⟨rfl, hp2, hk2⟩
                      have Hp2 := Aside0.mk hp2
                      have Hk2 := Aside0.mk (Hk1.out.trans hk2)
                      clear hp2 hk2
                      go_wp2_with fail
                      refine (deeper_any g k _ _ _ d hd0 (by omega) Hp2.out).mono ?_
                      rintro e w3 ⟨rfl, hp3, hk3⟩
                      have Hp3 := Aside0.mk hp3
                      have Hk3 := Aside0.mk (Hk2.out.trans hk3)
                      clear hp3 hk3
                      go_wp2_with fail
                      refine (hSS.out g _ _ _ (d + 1) _ (by omega) (by omega) (by omega) (fun h => by have := ho (Bool.or_eq_false_iff.mp h).1; omega) Hp3.out (hG.kp Hk3.out) HQ.out).mono ?_
                      rintro e w4 ⟨rfl, hp4, hk4⟩
                      have Hp4 := Aside0.mk hp4
                      have Hk4 := Aside0.mk (Hk3.out.trans hk4)
                      clear hp4 hk4
                      go_wp2_with fail
                      refine (expect_ok Hp4.out (c := 44) (HF.out)).mono ?_
                      rintro e w5 ⟨rfl, hp5, hk5⟩
                      have Hp5 := Aside0.mk hp5
                      have Hk5 := Aside0.mk (Hk4.out.trans hk5)
                      clear hp5 hk5
                      go_wp2_with fail
                      refine (hSS.out g _ _ _ (d + 1) _ (by omega) (by omega) (by omega) (fun h => by have := ho (HO.out h); omega) Hp5.out (hG.kp Hk5.out) HQ2.out).mono ?_
                      rintro e w6 ⟨rfl, hp6, hk6⟩
                      have Hp6 := Aside0.mk hp6
                      have Hk6 := Aside0.mk (Hk5.out.trans hk6)
                      clear hp6 hk6
                      go_wp2_with fail
                      refine (expect_ok Hp6.out (c := 93) (HF3.out)).mono ?_
                      rintro e w7 ⟨rfl, hp7, hk7⟩
                      have Hp7 := Aside0.mk hp7
                      have Hk7 := Aside0.mk (Hk6.out.trans hk7)
                      clear hp7 hk7
                      go_wp2_with fail
                      refine (FT.out _ Hp7.out).mono ?_
                      rintro e w8 ⟨rfl, hp8, hk8⟩
                      have Hp8 := Aside0.mk hp8
                      have Hk8 := Aside0.mk (Hk7.out.trans hk8)
                      clear hp8 hk8
                      have I1 := Lib.hid (fun W => inverse_any (B u) (by omega) W)
                      have I2 := Lib.hid (fun W => inverse_any (B v) (by omega) W)
                      rw [L_B] at I1 I2
                      go_wp2_with fail
                      refine (I1.out _).mono ?_
                      rintro e w9 ⟨rfl, hb9⟩
                      have Hp9 := Aside0.mk (Hp8.out.later hb9)
                      have Hk9 := Aside0.mk (Hk8.out.trans (Kp.of_below hb9))
                      clear hb9
                      go_wp2_with fail
                      refine (I2.out _).mono ?_
                      rintro e w10 ⟨rfl, hb10⟩
                      have Hp10 := Aside0.mk (Hp9.out.later hb10)
                      have Hk10 := Aside0.mk (Hk9.out.trans (Kp.of_below hb10))
                      clear hb10
                      go_wp2_with fail
                      refine (R4.out _).mono ?_
                      rintro e w11 ⟨rfl, hb11⟩
                      have Hp11 := Aside0.mk (Hp10.out.later hb11)
                      have Hk11 := Aside0.mk (Hk10.out.trans (Kp.of_below hb11))
                      clear hb11
                      go_wp2
                      go_ret
                      exact ⟨rfl, Hp11.out, Hk11.out⟩
      · rw [if_neg hc] at hr
        have m3 : (hdC (trimL l) == 91) = false := beq_eq_false_iff_ne.mpr hc
        have hrg := hdC_range (trimL l)
        have hix := idx_le (hdC (trimL l))
        by_cases hn : hdC (trimL l) ≠ 0 ∧ 0 ≤ idx (hdC (trimL l)) ∧ idx (hdC (trimL l)) < 2 * k
        · rw [if_pos hn] at hr
          obtain rfl := Option.some.inj hr
          clear hr
          have HE := Aside0.mk (expect_at rfl hn.1)
          cases ht : trimL l with
          | nil => rw [ht] at hn; exact absurd rfl hn.1
          | cons x t =>
            rw [ht] at hn hrg hix HE T m1 m2 m3
            have hy : hdC (x :: t) = (x.toNat : Int) := rfl
            obtain ⟨y, hy'⟩ : ∃ y, hdC (x :: t) = y := ⟨_, rfl⟩
            rw [hy'] at hn hrg hix HE T m1 m2 m3
            have HY := Aside0.mk (hy.symm.trans hy')
            clear hy hy' ht hc
            have CI := Lib.hid (fun W hW => index_any y hrg.1 hrg.2 W hW)
            obtain ⟨q, hq⟩ : ∃ q, idx y = q := ⟨_, rfl⟩
            rw [hq] at CI hn hix
            clear hq
            have d1 : (y != 0) = true := bne_iff_ne.mpr hn.1
            have d2 : decide (0 ≤ q) = true := decide_eq_true hn.2.1
            have d3 : decide (q < 2 * k) = true := decide_eq_true hn.2.2
            clear hn
            have TT := Lib.hid T
            clear T
            go_enter Tryz.func86, Tryz.ntmps86
            go_wp2_with fail
            refine (TT.out).mono ?_
            rintro e w1 ⟨rfl, hp1, hk1⟩
            have Hp1 := Aside0.mk hp1
            have Hk1 := Aside0.mk hk1
            have hc1 := hp1.cell1
            have hgl := (hG.kp hk1).gl
            clear hp1 hk1
            go_wp2
            go_quiet ((go_at_call 15; exact Calls.quiet_of_same (CI.out _ (hgl.drawn ⟨⟨_, rfl⟩⟩))))
            go_wp2_with fail
            refine (expect_ok (Hp1.out.drewN nq) HE.out).mono ?_
            rintro e w2 ⟨rfl, hp2, hk2⟩
            have Hp2 := Aside0.mk hp2
            have Hk2 := Aside0.mk ((Hk1.out.drewN nq).trans hk2)
            clear hp2 hk2
            have hconv := conv_one x y HY.out
            go_wp2
            go_ret
            exact ⟨rfl, Hp2.out.later ((Below.refl _ _).alloc (Nat.le_refl _) _), Hk2.out.alloc _⟩
        · rw [if_neg hn] at hr
          obtain rfl := Option.some.inj hr
          clear hr
          have CI := Lib.hid (fun W hW => index_any (hdC (trimL l)) hrg.1 hrg.2 W hW)
          obtain ⟨y, hy'⟩ : ∃ y, hdC (trimL l) = y := ⟨_, rfl⟩
          rw [hy'] at hn hrg hix CI T m1 m2 m3
          clear hy' hc
          obtain ⟨q, hq⟩ : ∃ q, idx y = q := ⟨_, rfl⟩
          rw [hq] at CI hn hix
          clear hq
          have TT := Lib.hid T
          clear T
          by_cases e1 : y = 0
          · have d1 : (y != 0) = false := by rw [e1]; rfl
            clear hn e1
            go_enter Tryz.func86, Tryz.ntmps86
            go_wp2_with fail
            refine (TT.out).mono ?_
            rintro e w1 ⟨rfl, hp1, hk1⟩
            have Hp1 := Aside0.mk hp1
            have Hk1 := Aside0.mk hk1
            have hc1 := hp1.cell1
            have hgl := (hG.kp hk1).gl
            clear hp1 hk1
            go_wp2
            go_quiet (fail)
            go_wp2
            exact ⟨rfl, rfl, Hk1.out.drewN _⟩
          · have d1 : (y != 0) = true := bne_iff_ne.mpr e1
            by_cases e2 : 0 ≤ q
            · have d2 : decide (0 ≤ q) = true := decide_eq_true e2
              have d3 : decide (q < 2 * k) = false := decide_eq_false (fun h => hn ⟨e1, e2, h⟩)
              clear hn e1 e2
              go_enter Tryz.func86, Tryz.ntmps86
              go_wp2_with fail
              refine (TT.out).mono ?_
              rintro e w1 ⟨rfl, hp1, hk1⟩
              have Hp1 := Aside0.mk hp1
              have Hk1 := Aside0.mk hk1
              have hc1 := hp1.cell1
              have hgl := (hG.kp hk1).gl
              clear hp1 hk1
              go_wp2
              go_quiet ((go_at_call 15; exact Calls.quiet_of_same (CI.out _ (hgl.drawn ⟨⟨_, rfl⟩⟩))))
              go_wp2
              exact ⟨rfl, rfl, Hk1.out.drewN _⟩
            · have d2 : decide (0 ≤ q) = false := decide_eq_false e2
              clear hn e1 e2
              go_enter Tryz.func86, Tryz.ntmps86
              go_wp2_with fail
              refine (TT.out).mono ?_
              rintro e w1 ⟨rfl, hp1, hk1⟩
              have Hp1 := Aside0.mk hp1
              have Hk1 := Aside0.mk hk1
              have hc1 := hp1.cell1
              have hgl := (hG.kp hk1).gl
              clear hp1 hk1
              go_wp2
              go_quiet ((go_at_call 15; exact Calls.quiet_of_same (CI.out _ (hgl.drawn ⟨⟨_, rfl⟩⟩))))
              go_wp2
              exact ⟨rfl, rfl, Hk1.out.drewN _⟩

end Go.Proofs.YthiehmogphknlaaGreatDoor.Parse
