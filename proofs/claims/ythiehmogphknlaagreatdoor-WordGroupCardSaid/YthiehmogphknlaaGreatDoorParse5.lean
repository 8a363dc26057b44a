/- The parser's factor. -/
import Derived.Test.YthiehmogphknlaaGreatDoorParse4
namespace Go.Proofs.YthiehmogphknlaaGreatDoor.Parse
open Go.RowKit Go.Proofs.YthiehmogphknlaaGreatDoor.G Go.Proofs.YthiehmogphknlaaGreatDoor.PA Go.Proofs.YthiehmogphknlaaGreatDoorW.PrintWords Go.Proofs.YthiehmogphknlaaGreatDoor.Free Go.Proofs.YthiehmogphknlaaGreatDoor.Pure1

theorem acc_yes {c : Int} {l : List UInt8} (h : hdC (trimL l) = c) (h0 : c ≠ 0) : acceptP c l = (true, (trimL l).tail) := by
  unfold acceptP; rw [if_neg (by rintro (h1 | h1); exact h1 h; exact h0 h1)]
theorem acc_no {c : Int} {l : List UInt8} (h : hdC (trimL l) ≠ c) : acceptP c l = (false, trimL l) := by
  unfold acceptP; rw [if_pos (.inl h)]
theorem accept_yes {g : Nat} {k : Int} {w : World} {l : List UInt8} {o : Bool} {c : Int} (hP : PS g k w l o) (h : hdC (trimL l) = c) (h0 : c ≠ 0) :
    Calls Tryz.prog 87 #[.pointer (some ⟨g, 0, none⟩), .int .u8 c] w fun e w' => e = .returned (.bool true) ∧ PS g k w' (trimL l).tail o ∧ Kp g w w' := by
  have := accept_any g k w l o c hP
  rw [acc_yes h h0] at this
  exact this
theorem accept_no {g : Nat} {k : Int} {w : World} {l : List UInt8} {o : Bool} {c : Int} (hP : PS g k w l o) (h : hdC (trimL l) ≠ c) :
    Calls Tryz.prog 87 #[.pointer (some ⟨g, 0, none⟩), .int .u8 c] w fun e w' => e = .returned (.bool false) ∧ PS g k w' (trimL l) o ∧ Kp g w w' := by
  have := accept_any g k w l o c hP
  rw [acc_no h] at this
  exact this
theorem expo_some {g : Nat} {k : Int} {w : World} {l l' : List UInt8} {o : Bool} {n : Int} (hl : l.length ≤ 9223372036854775806) (hP : PS g k w l o) (h : expoP l = some (n, l')) :
    Calls Tryz.prog 88 #[.pointer (some ⟨g, 0, none⟩)] w fun e w' => e = .returned (.int .i64 n) ∧ PS g k w' l' o ∧ Kp g w w' := by
  have := expo_any g k w l o hl hP
  rw [h] at this
  exact this
theorem expo_none {g : Nat} {k : Int} {w : World} {l : List UInt8} {o : Bool} (hl : l.length ≤ 9223372036854775806) (hP : PS g k w l o) (h : expoP l = none) :
    Calls Tryz.prog 88 #[.pointer (some ⟨g, 0, none⟩)] w fun e w' => e = .panicked bad ∧ Kp g w w' := by
  have := expo_any g k w l o hl hP
  rw [h] at this
  exact this

theorem mul_max (v : List UInt8) (n : Int) (hv : v.length ≤ 100000) (hn : -1000000 < n ∧ n < 1000000) : wrap64 (((B v).size : Int) * max n (-n)) = ((v.length * n.natAbs : Nat) : Int) := by
  have hmx : max n (-n) = ((n.natAbs : Nat) : Int) := by omega
  rw [hmx, size_B, ← Int.natCast_mul]
  have : v.length * n.natAbs ≤ 100000 * 1000000 := Nat.mul_le_mul hv (by omega)
  exact w64 _ (by omega) (by omega)

set_option maxHeartbeats 4000000 in
set_option maxRecDepth 100000 in
theorem factor_any (k : Int) (hk0 : 1 ≤ k) (hk1 : k ≤ 8) (D : Int) (hD : D ≤ 4611686018427387904) (sum : Int → List UInt8 → Bool → Res (List UInt8)) (hS : SumC k D sum) (hGood : ∀ d, Good (sum d))
    (g : Nat) (w : World) (l : List UInt8) (o : Bool) (d : Int) (r : Option (List UInt8 × List UInt8 × Bool)) (hd0 : 0 ≤ d) (hd1 : d + 1 ≤ D) (hl : l.length ≤ 140737488355328) (ho : o = false → l.length ≤ 100000) (hP : PS g k w l o) (hG : GP g w) (hr : factorP (baseP sum k d) l o = some r) :
    Calls Tryz.prog 74 #[.pointer (some ⟨g, 0, none⟩), .int .i64 d] w (POut g k w r) := by
  unfold factorP at hr
  have hbg := base_good (sum := sum) k d (hGood (d + 1))
  have hB := base_any k hk0 hk1 D hD sum hS hGood g w l o d
  clear hS hGood
  cases hb : baseP sum k d l o with
  | none => rw [hb] at hr; cases hr
  | some r1 =>
    rw [hb] at hr
    have T := Lib.hid (hB r1 hd0 hd1 hl ho hP hG hb)
    clear hB
    cases r1 with
    | none =>
      obtain rfl := Option.some.inj hr
      clear hr
      go_enter Tryz.func74, Tryz.ntmps74
      go_wp2_with fail
      refine T.out.mono ?_
      rintro e w1 ⟨rfl, hk⟩
      exact ⟨rfl, rfl, hk⟩
    | some r1 =>
      obtain ⟨v, l1, o1⟩ := r1
      have hg1 := hbg _ _ _ _ _ hb
      have ht1 := trimL_le l1
      have htl : (trimL l1).tail.length ≤ (trimL l1).length := by simp
      clear hb hbg
      dsimp only [Res.bind] at hr
      by_cases h94 : hdC (trimL l1) ≠ 94
      · rw [if_pos h94] at hr
        obtain rfl := Option.some.inj hr
        clear hr
        have H94 := Aside0.mk h94
        clear h94
        go_enter Tryz.func74, Tryz.ntmps74
        go_wp2_with fail
        refine T.out.mono ?_
        rintro e w1 ⟨rfl, hp1, hk1⟩
        go_wp2_with fail
        refine (accept_no hp1 H94.out).mono ?_
        rintro e w2 ⟨rfl, hp2, hk2⟩
        go_wp2
        go_ret
        exact ⟨rfl, hp2, hk1.trans hk2⟩
      · rw [if_neg h94] at hr
        have h94' : hdC (trimL l1) = 94 := Decidable.not_not.mp h94
        have H94 := Aside0.mk h94'
        clear h94 h94'
        cases he : expoP (trimL l1).tail with
        | none =>
          rw [he] at hr
          obtain rfl := Option.some.inj hr
          clear hr
          have HE := Aside0.mk he
          clear he
          go_enter Tryz.func74, Tryz.ntmps74
          go_wp2_with fail
          refine T.out.mono ?_
          rintro e w1 ⟨rfl, hp1, hk1⟩
          go_wp2_with fail
          refine (accept_yes hp1 H94.out (by decide)).mono ?_
          rintro e w2 ⟨rfl, hp2, hk2⟩
          go_wp2_with fail
          refine (expo_none (by omega) hp2 HE.out).mono ?_
          rintro e w3 ⟨rfl, hk3⟩
          exact ⟨rfl, rfl, hk1.trans (hk2.trans hk3)⟩
        | some p =>
          obtain ⟨n, l2⟩ := p
          rw [he] at hr
          dsimp only at hr
          have hnb := expoP_bound he
          have HE := Aside0.mk he
          clear he
          have hv : (B v).size ≤ 100000 := by rw [size_B]; exact hg1.1
          have FT := Lib.hid (fun W hW => fits_int g k W l2 o1 (v.length * n.natAbs) (wrap64 (((B v).size : Int) * max n (-n))) (mul_max v n hg1.1 hnb) hW)
          cases hov : over (v.length * n.natAbs) o1 with
          | true =>
            rw [if_pos hov] at hr
            obtain rfl := Option.some.inj hr
            clear hr
            simp only [hov] at FT
            clear hov
            go_enter Tryz.func74, Tryz.ntmps74
            go_wp2_with fail
            refine T.out.mono ?_
            rintro e w1 ⟨rfl, hp1, hk1⟩
            go_wp2_with fail
            refine (accept_yes hp1 H94.out (by decide)).mono ?_
            rintro e w2 ⟨rfl, hp2, hk2⟩
            go_wp2_with fail
            refine (expo_some (by omega) hp2 HE.out).mono ?_
            rintro e w3 ⟨rfl, hp3, hk3⟩
            go_wp2_with fail
            refine (FT.out _ hp3).mono ?_
            rintro e w4 ⟨rfl, hp4, hk4⟩
            go_wp2
            go_ret
            exact ⟨rfl, hp4, hk1.trans (hk2.trans (hk3.trans hk4))⟩
          | false =>
            rw [if_neg (by rw [hov]; decide)] at hr
            have ho1 := (over_false (n := v.length * n.natAbs) (o := o1) (by rw [hov]; decide)).2
            subst ho1
            simp only [hov] at FT
            clear hov
            cases hpw : powL v n with
            | none =>
              rw [hpw] at hr
              obtain rfl := Option.some.inj hr
              clear hr
              have PW := Lib.hid (fun W => power_none (B v) (by omega) n (by omega) (by omega) (by rw [L_B]; exact hpw) W)
              clear hpw
              go_enter Tryz.func74, Tryz.ntmps74
              go_wp2_with fail
              refine T.out.mono ?_
              rintro e w1 ⟨rfl, hp1, hk1⟩
              go_wp2_with fail
              refine (accept_yes hp1 H94.out (by decide)).mono ?_
              rintro e w2 ⟨rfl, hp2, hk2⟩
              go_wp2_with fail
              refine (expo_some (by omega) hp2 HE.out).mono ?_
              rintro e w3 ⟨rfl, hp3, hk3⟩
              go_wp2_with fail
              refine (FT.out _ hp3).mono ?_
              rintro e w4 ⟨rfl, hp4, hk4⟩
              go_wp2_with fail
              refine (PW.out _).mono ?_
              rintro e w5 ⟨rfl, hb5⟩
              go_wp2
              go_ret
              exact ⟨rfl, hp4.later hb5, hk1.trans (hk2.trans (hk3.trans (hk4.trans (Kp.of_below hb5))))⟩
            | some x =>
              rw [hpw] at hr
              obtain rfl := Option.some.inj hr
              clear hr
              have PW := Lib.hid (fun W => power_some (B v) (by omega) n (by omega) (by omega) x (by rw [L_B]; exact hpw) W)
              clear hpw
              go_enter Tryz.func74, Tryz.ntmps74
              go_wp2_with fail
              refine T.out.mono ?_
              rintro e w1 ⟨rfl, hp1, hk1⟩
              go_wp2_with fail
              refine (accept_yes hp1 H94.out (by decide)).mono ?_
              rintro e w2 ⟨rfl, hp2, hk2⟩
              go_wp2_with fail
              refine (expo_some (by omega) hp2 HE.out).mono ?_
              rintro e w3 ⟨rfl, hp3, hk3⟩
              go_wp2_with fail
              refine (FT.out _ hp3).mono ?_
              rintro e w4 ⟨rfl, hp4, hk4⟩
              go_wp2_with fail
              refine (PW.out _).mono ?_
              rintro e w5 ⟨rfl, hb5⟩
              go_wp2
              go_ret
              exact ⟨rfl, hp4.later hb5, hk1.trans (hk2.trans (hk3.trans (hk4.trans (Kp.of_below hb5))))⟩

end Go.Proofs.YthiehmogphknlaaGreatDoor.Parse
