/- The parser's sum: the walk, by induction on the rounds. -/
import Derived.Test.YthiehmogphknlaaGreatDoorParse5
import Derived.Deep.LoopGhost
namespace Go.Proofs.YthiehmogphknlaaGreatDoor.Parse
open Go.RowKit Go.Proofs.YthiehmogphknlaaGreatDoor.G Go.Proofs.YthiehmogphknlaaGreatDoor.PA Go.Proofs.YthiehmogphknlaaGreatDoorW.PrintWords Go.Proofs.YthiehmogphknlaaGreatDoorW.PrintLast Go.Proofs.YthiehmogphknlaaGreatDoor.Free Go.Proofs.YthiehmogphknlaaGreatDoor.Pure1

theorem Kp.then_below {g : Nat} {w W W1 : World} (h : Kp g w W) (hb : Below w.heap.size W W1) : Kp g w W1 :=
  ⟨hb.os.trans h.os, hb.tape.trans h.tape, hb.output.trans h.output, Nat.le_trans h.size hb.size, fun i hi hg => (hb.block i hi).trans (h.block i hi hg)⟩
theorem PS.under {g B : Nat} {k : Int} {w w' : World} {l : List UInt8} {o : Bool} (h : PS g k w l o) (hg : g < B) (hb : Below B w w') : PS g k w' l o := (hb.block g hg).trans h
theorem cat_map (ws : List (List UInt8)) : cat (ws.map B) = ws.flatten := by
  unfold cat
  induction ws with
  | nil => rfl
  | cons a ws ih => rw [List.map_cons, List.flatMap_cons, ih, L_B]; rfl
abbrev RW (g B : Nat) (W : World) (v : Value) (ws : List (List UInt8)) : Prop := Kd.R Kd.string 9 W B (fun k => k ≠ g) v (ws.map Pure1.B)
theorem RW.kp {g B : Nat} {W W1 : World} {v : Value} {ws : List (List UInt8)} (h : RW g B W v ws) (hk : Kp g W W1) : RW g B W1 v ws := Kd.R_step h (fun k hne hlt => hk.block k hlt hne)
theorem RW.below {g B : Nat} {W W1 : World} {v : Value} {ws : List (List UInt8)} (h : RW g B W v ws) (hb : Below W.heap.size W W1) : RW g B W1 v ws := h.kp (Kp.of_below hb)
theorem RW.one {g B : Nat} {W : World} (x : List UInt8) (hB : B ≤ W.heap.size) (hg : g < W.heap.size) : RW g B (W.alloc (.cells #[.string (Pure1.B x)] 9)) (.slice (some ⟨W.heap.size, 0, none⟩) 1 1) [x] := by
  refine ⟨fun k hk => ?_, [.string (Pure1.B x)], own_lit_of (enc := Value.string) W B 9 [Pure1.B x] hB (by simp), Reps.one (show Kd.M Kd.string _ _ _ (Pure1.B x) [.string (Pure1.B x)] from rfl) (Reps.none _ _)⟩
  have : k = W.heap.size := (Option.some.inj hk).symm
  omega
theorem info_string : (Tryz.prog.info? 9).map (fun i => (i.zero, i.size, i.bytes)) = some (some (.string ⟨#[]⟩), 1, 16) := by kernel_rfl

theorem loop_rounds {fac : List UInt8 → Bool → Res (List UInt8)} (f : Nat) (ws : List (List UInt8)) (n : Nat) (l : List UInt8) (o : Bool) (r : Option (List UInt8 × List UInt8 × Bool)) (h : loopP fac f ws n l o = some r) : ∃ f', f = f' + 1 := by
  cases f with
  | zero => cases h
  | succ f => exact ⟨f, rfl⟩

/-- What a round of the sum holds. -/
def LI (fac : List UInt8 → Bool → Res (List UInt8)) (r : Option (List UInt8 × List UInt8 × Bool)) (l : List UInt8) (o : Bool) (gf : Nat) (ws : List (List UInt8)) (n y : Int) (lx : List UInt8) (ox : Bool) : Prop :=
  loopP fac gf ws n.toNat lx ox = some r ∧ n = (ws.flatten.length : Int) ∧ n ≤ 100000 ∧ 0 ≤ n ∧ y = hdC lx ∧ trimL lx = lx ∧ ws.length + lx.length ≤ l.length ∧ (ox = false → o = false)
theorem reduce_ws (g Bs : Nat) (W : World) (A : Option Addr) (c : Nat) (ws : List (List UInt8)) (h : RW g Bs W (.slice A ws.length c) ws) (hl : ws.flatten.length < 140737488355328) (hn : ws.length ≤ 9223372036854775806) :
    Calls Tryz.prog 47 #[.slice A ws.length c] W fun e w' => e = .returned (.string (B (red ws.flatten))) ∧ Below W.heap.size W w' := by
  have hr := Kd.R_reads' h
  have := reduce_any A c (ws.map B) W hr.2.2 (by rw [List.length_map]; exact hr.2.1) (by rw [cat_map]; exact hl) (by rw [List.length_map]; exact hn)
  rw [cat_map, List.length_map] at this
  exact this

set_option maxHeartbeats 4000000 in
set_option maxRecDepth 100000 in
theorem sum_step (k : Int) (hk0 : 1 ≤ k) (hk1 : k ≤ 8) (D : Int) (hD : D ≤ 4611686018427387904) (f : Nat) (hS : SumC k D (sumN k f)) : SumC k (D - 1) (sumN k (f + 1)) := by
  intro g w l o d r hd0 hd1 hl ho hP hG hr
  rw [sumN] at hr
  have hF : ∀ (w : World) (l : List UInt8) (o : Bool) (r : Option (List UInt8 × List UInt8 × Bool)), l.length ≤ 140737488355328 → (o = false → l.length ≤ 100000) → PS g k w l o → GP g w → factorP (baseP (sumN k f) k d) l o = some r →
      Calls Tryz.prog 74 #[.pointer (some ⟨g, 0, none⟩), .int .i64 d] w (POut g k w r) :=
    fun w l o r h1 h2 h3 h4 h5 => factor_any k hk0 hk1 D hD (sumN k f) hS (sum_good k f) g w l o d r hd0 (by omega) h1 h2 h3 h4 h5
  have hFG : Good (factorP (baseP (sumN k f) k d)) := factor_good (base_good k d (sum_good k f (d + 1)))
  obtain ⟨fac, hfac⟩ : ∃ fac, factorP (baseP (sumN k f) k d) = fac := ⟨_, rfl⟩
  rw [hfac] at hr hF hFG
  clear hfac hS
  have HF := Lib.hid hF
  have HFG := Lib.hid hFG
  clear hF hFG
  unfold sumP at hr
  have hgw := hP.lt
  cases hq : fac l o with
  | none => rw [hq] at hr; cases hr
  | some r1 =>
    rw [hq] at hr
    have T := Lib.hid (HF.out w l o r1 hl ho hP hG hq)
    cases r1 with
    | none =>
      obtain rfl := Option.some.inj hr
      clear hr
      go_enter Tryz.func61, Tryz.ntmps61
      go_wp2_with fail
      refine T.out.mono ?_
      rintro e w1 ⟨rfl, hk⟩
      exact ⟨rfl, rfl, hk⟩
    | some r1 =>
      obtain ⟨v, l1, o1⟩ := r1
      have hg1 := HFG.out _ _ _ _ _ hq
      dsimp only [Res.bind] at hr
      have ht1 := trimL_le l1
      have hv : (B v).size = v.length := size_B v
      have HR := Aside0.mk hr
      have HV := Aside0.mk hv
      clear hr hq hv
      go_enter Tryz.func61, Tryz.ntmps61
      go_wp2_with fail
      refine T.out.mono ?_
      rintro e w1 ⟨rfl, hp1, hk1⟩
      have hg1w : g < w1.heap.size := hp1.lt
      have hR1 := Aside0.mk (RW.one (g := g) (B := w.heap.size) (W := w1) v hk1.size hg1w)
      have hp1a := Aside0.mk (hp1.later (below_alloc (Below.refl _ _) (.cells #[.string (B v)] 9)))
      have hk1a := Aside0.mk (hk1.alloc (.cells #[.string (B v)] 9))
      clear hp1 hk1
      go_wp2_with fail
      refine (next_any g k _ l1 o1 hp1a.out).mono ?_
      rintro e w2 ⟨rfl, hp2, hk2⟩
      have hR2 := Aside0.mk (hR1.out.kp hk2)
      have hp2a := Aside0.mk hp2
      have hk2a := Aside0.mk (hk1a.out.trans hk2)
      clear hp2 hk2 hR1 hp1a hk1a
      go_wp2
      go_loopg [5, 6, 7] f (fun gf v5 v6 v7 wr => ∃ (ws : List (List UInt8)) (n y : Int) (lx : List UInt8) (ox : Bool), v6 = .int .i64 n ∧ v7 = .int .u8 y ∧ Aside0 (RW g w.heap.size wr v5 ws) ∧ Aside0 (PS g k wr lx ox) ∧ Aside0 (Kp g w wr) ∧ Aside0 (LI fac r l o gf ws n y lx ox))
      case atStart => exact ⟨[v], _, _, _, _, rfl, rfl, hR2, hp2a, hk2a, ⟨by
        refine ⟨?_, by rw [HV.out]; simp, by rw [HV.out]; omega, by omega, rfl, trim_trim l1, ?_, fun h => ?_⟩
        · rw [HV.out, Int.toNat_natCast]; exact HR.out
        · simp; omega
        · cases o with
          | false => rfl
          | true => exact absurd (hg1.2.2 rfl) (by rw [h]; decide)⟩⟩
      case round =>
        obtain ⟨ws, n, y, lx, ox, rfl, rfl, hRx, hPx, hKx, HL⟩ := hrel
        clear hR2 hp2a hk2a HR T
        obtain ⟨A, c, hA⟩ := Kd.R_slice hRx.out
        rw [List.length_map] at hA
        subst hA
        obtain ⟨gk', rfl⟩ := loop_rounds _ _ _ _ _ _ HL.out.1
        have hr := HL.out.1
        rw [loopP] at hr
        have hyr := hdC_range lx
        rw [← HL.out.2.2.2.2.1] at hr hyr
        by_cases hs : stopC y = true
        · rw [if_pos hs] at hr
          obtain rfl := Option.some.inj hr
          clear hr
          have RW5 := Lib.hid (fun W hW => reduce_ws g w.heap.size W A c ws hW (by have := HL.out.2.1; have := HL.out.2.2.1; omega) (by have := HL.out.2.2.2.2.2.2.1; omega))
          obtain ⟨z, hz⟩ : ∃ z, red ws.flatten = z := ⟨_, rfl⟩
          rw [hz] at RW5
          have HZ := Aside0.mk hz
          clear hz
          have hcase : y = 0 ∨ y = 41 ∨ y = 93 ∨ y = 44 := by
            unfold stopC at hs
            simp only [Bool.or_eq_true, beq_iff_eq] at hs
            omega
          clear hs
          rcases hcase with rfl | rfl | rfl | rfl
          all_goals
            go_wp2_with fail
            refine (RW5.out _ hRx.out).mono ?_
            rintro e w9 ⟨rfl, hb9⟩
            go_wp2
            go_ret
            exact ⟨by rw [HZ.out]; rfl, hPx.out.later hb9, hKx.out.trans (Kp.of_below hb9)⟩
        · rw [if_neg hs] at hr
          have s0 : (y != 0) = true := by unfold stopC at hs; simp only [Bool.or_eq_true, beq_iff_eq] at hs; rw [bne_iff_ne]; omega
          have s1 : (y != 41) = true := by unfold stopC at hs; simp only [Bool.or_eq_true, beq_iff_eq] at hs; rw [bne_iff_ne]; omega
          have s2 : (y != 93) = true := by unfold stopC at hs; simp only [Bool.or_eq_true, beq_iff_eq] at hs; rw [bne_iff_ne]; omega
          have s3 : (y != 44) = true := by unfold stopC at hs; simp only [Bool.or_eq_true, beq_iff_eq] at hs; rw [bne_iff_ne]; omega
          clear hs
          have hb1 := HL.out.2.2.1
          have hb2 := HL.out.2.2.2.1
          have hb3 := HL.out.2.2.2.2.2.2.1
          have hb4 : ox = false → lx.length ≤ 100000 := fun h => by have := ho (HL.out.2.2.2.2.2.2.2 h); omega
          cases hq : fac lx ox with
          | none => rw [hq] at hr; cases hr
          | some r1 =>
            rw [hq] at hr
            have hGx : GP g wr := hG.kp hKx.out
            have T := Lib.hid (HF.out wr lx ox r1 (by omega) hb4 hPx.out hGx hq)
            cases r1 with
            | none =>
              obtain rfl := Option.some.inj hr
              clear hr hq
              go_wp2_with fail
              refine T.out.mono ?_
              rintro e w1 ⟨rfl, hk⟩
              exact ⟨rfl, rfl, hKx.out.trans hk⟩
            | some r1 =>
              obtain ⟨x, l2, o2⟩ := r1
              have hg2 := HFG.out _ _ _ _ _ hq
              dsimp only [Res.bind] at hr
              have ht2 := trimL_le l2
              have hx1 : ((B x).size : Int) ≤ 100000 := by rw [size_B]; omega
              have FT := Lib.hid (fun W hW => fits_int g k W l2 o2 (n.toNat + x.length) (n + ((B x).size : Int)) (by rw [size_B]; omega) hW)
              clear hq
              cases hov : over (n.toNat + x.length) o2 with
              | true =>
                rw [if_pos hov] at hr
                simp only [hov] at FT
                have HR2 := Aside0.mk hr
                clear hr hov
                go_wp2_with fail
                refine T.out.mono ?_
                rintro e w3 ⟨rfl, hp3, hk3⟩
                go_wp2_with fail
                refine (FT.out _ hp3).mono ?_
                rintro e w4 ⟨rfl, hp4, hk4⟩
                go_wp2_with fail
                refine (next_any g k _ l2 true hp4).mono ?_
                rintro e w5 ⟨rfl, hp5, hk5⟩
                go_wp2
                go_roundg gk'
                case measure => omega
                case rel => exact ⟨[], 0, _, _, _, rfl, rfl, ⟨Kd.R_nil _ _ _ _ _⟩, ⟨hp5⟩, ⟨hKx.out.trans (hk3.trans (hk4.trans hk5))⟩, ⟨⟨HR2.out, rfl, by omega, by omega, rfl, trim_trim l2, by simp; omega, fun h => by cases h⟩⟩⟩
              | false =>
                rw [if_neg (by rw [hov]; decide)] at hr
                have hov' := over_false (n := n.toNat + x.length) (o := o2) (by rw [hov]; decide)
                obtain ⟨hov1, rfl⟩ := hov'
                simp only [hov] at FT
                have HR2 := Aside0.mk hr
                have hox : ox = false := by
                  cases ox with
                  | false => rfl
                  | true => exact absurd (hg2.2.2 rfl) (by decide)
                have hl1 := ho (HL.out.2.2.2.2.2.2.2 hox)
                clear hr hov hox
                go_wp2_with fail
                refine T.out.mono ?_
                rintro e w3 ⟨rfl, hp3, hk3⟩
                go_wp2_with fail
                refine (FT.out _ hp3).mono ?_
                rintro e w4 ⟨rfl, hp4, hk4⟩
                have hR4 := Aside0.mk ((hRx.out.kp hk3).kp hk4)
                have hp4a := Aside0.mk hp4
                have hk4a := Aside0.mk (hKx.out.trans (hk3.trans hk4))
                clear hp4 hp3 hk3 hk4
                have hgw4 : w.heap.size ≤ w4.heap.size := hk4a.out.size
                go_wp2_with (first | ((with_reducible refine gate_builtin (b := .append) (xs := #[.tmp 50, .tmp 52]) rfl ?_); at_builtin; refine Kd.R_append Kd.string (w0 := w4) w.heap.size rfl (.tmp 50) (.tmp 52) 51 9 (.string ⟨#[]⟩) 16 rfl Tryz.underlying51 info_string rfl (by decide) (by omega) (.slice A ws.length c) (ws.map B) (B x) [.string (B x)] (fun k => k ≠ g) (fun _ => False) rfl rfl ?aP (fun _ hk => hk.elim) ?aF ?aO ?aB ?aS ?aL ?_; (case aP => exact rfl); (case aB => exact Below.refl _ _); (case aF => exact (fun k hk => by omega)); (case aO => exact hR4.out); (case aS => exact hgw4); (case aL => rw [List.length_map]; omega); intro v9 w9 ho9 hb9 hg9 hat9; have hR9 := Aside0.mk ho9; have hp9 := Aside0.mk (hp4a.out.under hgw hb9); have hk9 := Aside0.mk (hk4a.out.then_below hb9); clear ho9 hb9 hg9 hat9))
                refine (next_any g k _ l2 false hp9.out).mono ?_
                rintro e w5 ⟨rfl, hp5, hk5⟩
                go_wp2
                go_roundg gk'
                case measure => omega
                case rel => exact ⟨ws ++ [x], n + ((B x).size : Int), _, _, _, rfl, rfl, ⟨by have := hR9.out; rw [show ws.map B ++ [B x] = (ws ++ [x]).map B by simp] at this; exact Kd.R_step this (fun k hne hlt => hk5.block k hlt hne)⟩, ⟨hp5⟩, ⟨hk9.out.trans hk5⟩, ⟨⟨by rw [show (n + ((B x).size : Int)).toNat = n.toNat + x.length by rw [size_B]; omega]; exact HR2.out, by rw [List.flatten_append, List.length_append, size_B, HL.out.2.1]; simp, by rw [size_B]; omega, by omega, rfl, trim_trim l2, by simp; omega, fun h => HL.out.2.2.2.2.2.2.2 (by cases ox with | false => rfl | true => exact absurd (hg2.2.2 rfl) (by decide))⟩⟩⟩


end Go.Proofs.YthiehmogphknlaaGreatDoor.Parse
