/- The parser's exponent. -/
import Derived.Test.YthiehmogphknlaaGreatDoorParse1
import Derived.Lib.ConvBytes
namespace Go.Proofs.YthiehmogphknlaaGreatDoor.Parse
open Go.RowKit Go.Proofs.YthiehmogphknlaaGreatDoor.G Go.Proofs.YthiehmogphknlaaGreatDoor.PA Go.Proofs.YthiehmogphknlaaGreatDoorW.PrintWords Go.Proofs.YthiehmogphknlaaGreatDoor.Free Go.Proofs.YthiehmogphknlaaGreatDoor.Pure1

def isD (c : UInt8) : Bool := decide (48 ≤ c.toNat) && decide (c.toNat ≤ 57)
theorem digs_eq (l : List UInt8) : digs l = l.takeWhile isD := rfl
theorem takeWhile_all {α : Type} (p : α → Bool) (l : List α) : ∀ c ∈ l.takeWhile p, p c = true := by
  induction l with
  | nil => intro c h; cases h
  | cons a l ih =>
    intro c h
    by_cases ha : p a = true
    · rw [List.takeWhile_cons_of_pos ha] at h
      rcases List.mem_cons.mp h with rfl | h
      · exact ha
      · exact ih c h
    · rw [List.takeWhile_cons_of_neg ha] at h; cases h
theorem takeWhile_at {α : Type} (p : α → Bool) (l : List α) (n : Nat) (hn : n ≤ l.length) (h : ∀ j (hj : j < l.length), j < n → p l[j] = true) (he : n = l.length ∨ ∃ hj : n < l.length, p l[n] = false) :
    l.takeWhile p = l.take n := by
  induction l generalizing n with
  | nil => simp
  | cons x l ih =>
    cases n with
    | zero =>
      rcases he with he | ⟨hj, he⟩
      · simp at he
      · have he' : ¬ p x = true := by rw [show p x = false from he]; decide
        rw [List.takeWhile_cons_of_neg he']; rfl
    | succ n =>
      have hx : p x = true := h 0 (by simp) (by omega)
      rw [List.takeWhile_cons_of_pos hx, List.take_succ_cons]
      congr 1
      refine ih n (by simpa using hn) (fun j hj hjn => ?_) ?_
      · have := h (j + 1) (by simpa using hj) (by omega)
        simpa using this
      · rcases he with he | ⟨hj, he⟩
        · exact .inl (by simpa using he)
        · exact .inr ⟨by simpa using hj, by simpa using he⟩
theorem decFrom_digs (l : List UInt8) : ∀ acc : Nat, (∀ c ∈ l, isD c = true) → ∃ m, Lib.decFrom acc l = some m := by
  induction l with
  | nil => intro acc _; exact ⟨acc, rfl⟩
  | cons c l ih =>
    intro acc h
    have hc := h c List.mem_cons_self
    unfold isD at hc
    rw [Bool.and_eq_true, decide_eq_true_iff, decide_eq_true_iff] at hc
    obtain ⟨m, hm⟩ := ih (acc * 10 + (c.toNat - 48)) (fun x hx => h x (List.mem_cons_of_mem _ hx))
    refine ⟨m, ?_⟩
    rw [Lib.decFrom]
    unfold Lib.digitVal
    rw [if_pos hc]
    exact hm
theorem atoi_digs (l : List UInt8) (h : 1 ≤ (digs l).length) : ∃ m : Nat, Lib.atoi (digs l) = some (m : Int) ∧ m < 10 ^ (digs l).length := by
  have hall := takeWhile_all isD l
  rw [← digs_eq] at hall
  obtain ⟨m, hm⟩ := decFrom_digs (digs l) 0 hall
  have hlt := Lib.decFrom_lt _ _ _ hm
  cases hd : digs l with
  | nil => rw [hd] at h; simp at h
  | cons b r =>
    rw [hd] at hm hlt hall
    have hb := hall b List.mem_cons_self
    unfold isD at hb
    rw [Bool.and_eq_true, decide_eq_true_iff, decide_eq_true_iff] at hb
    refine ⟨m, ?_, by simpa using hlt⟩
    have n1 : (b == 45) = false := by rw [beq_eq_false_iff_ne]; rintro rfl; exact absurd hb.1 (by decide)
    have n2 : (b == 43) = false := by rw [beq_eq_false_iff_ne]; rintro rfl; exact absurd hb.1 (by decide)
    simp only [Lib.atoi, n1, n2, Lib.decNat, List.isEmpty_cons, hm]
    rfl

theorem get_B (l : List UInt8) (i : Nat) (hi : i < l.length) : ∀ h : i < (B l).size, (((B l)[i]'h).toNat : Int) = ((l[i]'hi).toNat : Int) := fun _ => rfl
theorem extract_take (l : List UInt8) (n : Nat) : (B l).extract 0 n = B (l.take n) := by rw [extract_L, L_B]; rfl
theorem extract_drop (l : List UInt8) (n : Nat) : (B l).extract n (B l).size = B (l.drop n) := by
  rw [extract_L, L_B, size_B, List.take_of_length_le (by simp)]

theorem atoi_any (l : List UInt8) (h : 1 ≤ (digs l).length) (h6 : (digs l).length ≤ 6) (w : World) :
    Calls Tryz.prog 104 #[.string (B (digs l))] w fun e w' => e = .returned (.tuple #[.int .i64 ((Lib.atoi (digs l)).getD 0), .nilIface]) ∧ Below w.heap.size w w' := by
  obtain ⟨m, hm, _⟩ := atoi_digs l h
  rw [hm]
  refine (Tryz.strconv_Atoi (B (digs l)) m (by rw [size_B]; omega) hm w).mono fun e w' ⟨he, t, hw⟩ => ⟨he, ?_⟩
  rw [hw]
  exact bytes_below (Below.refl _ _) (Nat.le_refl _) _ _

theorem expoP_bound {l : List UInt8} {n : Int} {l' : List UInt8} (h : expoP l = some (n, l')) : -1000000 < n ∧ n < 1000000 := by
  unfold expoP at h
  dsimp only at h
  generalize trimL (if hdC (trimL l) = 45 then (trimL l).tail else trimL l) = t at h
  split at h
  · cases h
  · rename_i hd
    obtain ⟨m, hm, hlt⟩ := atoi_digs t (by omega)
    rw [hm] at h
    simp only [Option.getD_some, Option.some.injEq, Prod.mk.injEq] at h
    have : m < 1000000 := by
      have h6 : (digs t).length ≤ 6 := by omega
      have := Nat.pow_le_pow_right (n := 10) (by omega) h6
      omega
    obtain ⟨h, _⟩ := h
    split at h <;> omega

set_option maxHeartbeats 2000000 in
set_option maxRecDepth 100000 in
theorem expo_any (g : Nat) (k : Int) (w : World) (l : List UInt8) (o : Bool) (hl : l.length ≤ 9223372036854775806) (h : PS g k w l o) :
    Calls Tryz.prog 88 #[.pointer (some ⟨g, 0, none⟩)] w fun e w' =>
      match expoP l with
      | some (n, l') => e = .returned (.int .i64 n) ∧ PS g k w' l' o ∧ Kp g w w'
      | none => e = .panicked bad ∧ Kp g w w' := by
  have T := Lib.hid (accept_any g k w l o 45 h)
  have hexp : expoP l = if (digs (trimL (acceptP 45 l).2)).length < 1 ∨ 6 < (digs (trimL (acceptP 45 l).2)).length then none
      else some (if (acceptP 45 l).1 = true then -(((Lib.atoi (digs (trimL (acceptP 45 l).2))).getD 0)) else (Lib.atoi (digs (trimL (acceptP 45 l).2))).getD 0, (trimL (acceptP 45 l).2).drop (digs (trimL (acceptP 45 l).2)).length) := by
    by_cases hm : hdC (trimL l) = 45
    · have ea : acceptP 45 l = (true, (trimL l).tail) := by unfold acceptP; rw [if_neg (by rintro (h | h); exact h hm; exact absurd h (by decide))]
      rw [ea]; unfold expoP; simp only [if_true, hm]
    · have ea : acceptP 45 l = (false, trimL l) := by unfold acceptP; rw [if_pos (.inl hm)]
      rw [ea]; unfold expoP; simp only [hm, Bool.false_eq_true, if_false]
  have hlen : (trimL (acceptP 45 l).2).length ≤ l.length := by
    have ht : ∀ x : List UInt8, (trimL x).length ≤ x.length := fun x => by unfold trimL Lib.trimLeftB; exact (List.dropWhile_suffix _).length_le
    refine Nat.le_trans (ht _) ?_
    unfold acceptP
    split
    · exact ht l
    · exact Nat.le_trans (by simp) (ht l)
  rw [hexp]
  clear hexp h
  obtain ⟨m, hm⟩ : ∃ m, (acceptP 45 l).1 = m := ⟨_, rfl⟩
  obtain ⟨t0, ht0⟩ : ∃ t, (acceptP 45 l).2 = t := ⟨_, rfl⟩
  rw [hm, ht0] at T
  rw [hm, ht0]
  rw [ht0] at hlen
  clear hm ht0
  obtain ⟨t, ht⟩ : ∃ t, trimL t0 = t := ⟨_, rfl⟩
  rw [ht] at hlen ⊢
  have T2 := Lib.hid (fun W hW => next_any g k W t0 o hW)
  rw [ht] at T2
  clear ht
  obtain ⟨n, hn⟩ : ∃ n, (digs t).length = n := ⟨_, rfl⟩
  have hnt : n ≤ t.length := by rw [← hn, digs_eq]; exact (List.takeWhile_prefix _).length_le
  have htake : digs t = t.take n := by rw [← hn, digs_eq]; exact (List.prefix_iff_eq_take.mp (List.takeWhile_prefix _))
  have HT := Aside0.mk (And.intro hn htake)
  rw [hn]
  clear hn htake
  obtain ⟨R, hR⟩ : ∃ R : Ending → World → Prop, (fun e w' => match (if n < 1 ∨ 6 < n then none else some (if m = true then -(((Lib.atoi (digs t)).getD 0)) else (Lib.atoi (digs t)).getD 0, t.drop n) : Option (Int × List UInt8)) with
      | some (n, l') => e = .returned (.int .i64 n) ∧ PS g k w' l' o ∧ Kp g w w'
      | none => e = .panicked bad ∧ Kp g w w') = R := ⟨_, rfl⟩
  rw [hR]
  have R1 : (n < 1 ∨ 6 < n) → ∀ w', Kp g w w' → R (.panicked bad) w' := fun h w' hk => by rw [← hR]; dsimp only; rw [if_pos h]; exact ⟨rfl, hk⟩
  have R2 : ¬ (n < 1 ∨ 6 < n) → ∀ w' v, v = (if m = true then -(((Lib.atoi (digs t)).getD 0)) else (Lib.atoi (digs t)).getD 0) → PS g k w' (t.drop n) o → Kp g w w' → R (.returned (.int .i64 v)) w' := fun h w' v hv hp hk => by rw [← hR]; dsimp only; rw [if_neg h]; exact ⟨by rw [hv], hp, hk⟩
  have HR1 := Lib.hid R1
  have HR2 := Lib.hid R2
  clear hR R1 R2
  go_enter Tryz.func88, Tryz.ntmps88
  go_wp2_with (first | (go_at_call 87; refine T.out.mono ?_; rintro e w1 ⟨rfl, hp1, hk1⟩; have HP1 := Aside0.mk hp1; have HK1 := Aside0.mk hk1; clear hp1 hk1) | (go_at_call 62; refine (T2.out _ HP1.out).mono ?_; rintro e w2 ⟨rfl, hp2, hk2⟩; have HP2 := Aside0.mk hp2; have HK2 := Aside0.mk (HK1.out.trans hk2); clear hp2 hk2))
  have hc := HP2.out.cell0
  have hf := HP2.out.free 0
  go_loop [4] (fun v => ∃ j : Nat, j ≤ n ∧ v = .int .i64 j) (fun v => t.length - (intOf v).toNat)
  case atStart => exact ⟨0, by omega, rfl⟩
  case round =>
    obtain ⟨j, hj, rfl⟩ := hrel
    by_cases hjn : j < n
    · have hjt : j < t.length := by omega
      obtain ⟨c, hcj⟩ : ∃ c, t[j] = c := ⟨_, rfl⟩
      have hd : isD c = true := by
        have := takeWhile_all isD t c (by
          rw [← digs_eq, HT.out.2, ← hcj, List.mem_take_iff_getElem]
          exact ⟨j, by omega, rfl⟩)
        exact this
      unfold isD at hd
      rw [Bool.and_eq_true, decide_eq_true_iff, decide_eq_true_iff] at hd
      have hx : ∀ h : j < (B t).size, (((B t)[j]'h).toNat : Int) = (c.toNat : Int) := fun h => (get_B t j hjt h).trans (by rw [hcj])
      have hz : (j : Int) < ((B t).size : Int) := by rw [size_B]; omega
      have hy1 : 48 ≤ (c.toNat : Int) := by omega
      have hy2 : (c.toNat : Int) ≤ 57 := by omega
      clear hcj hd
      go_wp2
      go_round
      case rel => exact ⟨j + 1, by omega, by go_num⟩
      case measure => simp [intOf]; omega
    · have ejn : j = n := by omega
      subst ejn
      have hstop : j = t.length ∨ ∃ hj : j < t.length, isD t[j] = false := by
        by_cases e : j = t.length
        · exact .inl e
        · right
          refine ⟨by omega, ?_⟩
          cases hd : isD (t[j]'(by omega)) with
          | false => rfl
          | true =>
            exfalso
            have h1 : (digs t).length = j := HT.out.1
            have h2 : digs t = t.take (j + 1) ++ (t.drop (j + 1)).takeWhile isD := by
              have hall : ∀ c ∈ t.take (j + 1), isD c = true := by
                intro c hc
                rw [List.take_succ_eq_append_getElem (by omega)] at hc
                rcases List.mem_append.mp hc with hc | hc
                · rw [← HT.out.2, digs_eq] at hc
                  exact takeWhile_all isD t c hc
                · rw [List.mem_singleton] at hc
                  rw [hc]; exact hd
              rw [digs_eq]
              conv => lhs; rw [← List.take_append_drop (j + 1) t]
              rw [List.takeWhile_append_of_pos hall]
            rw [h2, List.length_append, List.length_take] at h1
            omega
      have hexit : ∀ (Q : Prop), (j = t.length → Q) → (∀ c : UInt8, (∀ h : j < (B t).size, (((B t)[j]'h).toNat : Int) = (c.toNat : Int)) → (j : Int) < ((B t).size : Int) → ¬ 48 ≤ (c.toNat : Int) → Q) → (∀ c : UInt8, (∀ h : j < (B t).size, (((B t)[j]'h).toNat : Int) = (c.toNat : Int)) → (j : Int) < ((B t).size : Int) → 48 ≤ (c.toNat : Int) → ¬ (c.toNat : Int) ≤ 57 → Q) → Q := by
        intro Q q1 q2 q3
        rcases hstop with h | ⟨h, hd⟩
        · exact q1 h
        · have hx : ∀ h' : j < (B t).size, (((B t)[j]'h').toNat : Int) = ((t[j]'h).toNat : Int) := fun h' => get_B t j h h'
          have hz : (j : Int) < ((B t).size : Int) := by rw [size_B]; omega
          by_cases h48 : 48 ≤ ((t[j]'h).toNat : Int)
          · refine q3 _ hx hz h48 (fun h57 => ?_)
            unfold isD at hd
            rw [decide_eq_true (by omega), decide_eq_true (by omega)] at hd
            cases hd
          · exact q2 _ hx hz h48
      have hzz : ((B t).size : Int) = (t.length : Int) := by rw [size_B]
      have HZ := Aside0.mk hzz
      clear hstop hjn hzz
      have E1 := extract_take t j
      have E2 := extract_drop t j
      have hzl : (j : Int) ≤ ((B t).size : Int) := by rw [size_B]; omega
      by_cases hq1 : j < 1
      · refine hexit _ (fun e => ?_) (fun c hx hz h48 => ?_) (fun c hx hz h48 h57 => ?_)
        · have hz : ¬ (j : Int) < ((B t).size : Int) := by rw [HZ.out]; omega
          clear e hexit E1 E2
          go_wp2
          exact ⟨rfl, HR1.out (.inl hq1) _ HK2.out⟩
        · clear hexit E1 E2
          go_wp2
          exact ⟨rfl, HR1.out (.inl hq1) _ HK2.out⟩
        · clear hexit E1 E2
          go_wp2
          exact ⟨rfl, HR1.out (.inl hq1) _ HK2.out⟩
      · by_cases hq2 : 6 < j
        · refine hexit _ (fun e => ?_) (fun c hx hz h48 => ?_) (fun c hx hz h48 h57 => ?_)
          · have hz : ¬ (j : Int) < ((B t).size : Int) := by rw [HZ.out]; omega
            clear e hexit E1 E2
            go_wp2
            exact ⟨rfl, HR1.out (.inr hq2) _ HK2.out⟩
          · clear hexit E1 E2
            go_wp2
            exact ⟨rfl, HR1.out (.inr hq2) _ HK2.out⟩
          · clear hexit E1 E2
            go_wp2
            exact ⟨rfl, HR1.out (.inr hq2) _ HK2.out⟩
        · have hq3 : ¬ (j < 1 ∨ 6 < j) := by omega
          have HT3 := Lib.hid (fun W => atoi_any t (by rw [HT.out.1]; omega) (by rw [HT.out.1]; omega) W)
          obtain ⟨m2, hm2, hm3⟩ := atoi_digs t (by rw [HT.out.1]; omega)
          have hm4 : m2 < 1000000 := by
            have h6 : (digs t).length ≤ 6 := by rw [HT.out.1]; omega
            have := Nat.pow_le_pow_right (n := 10) (by omega) h6
            omega
          rw [hm2] at HT3
          simp only [Option.getD_some, HT.out.2] at HT3
          have HM := Aside0.mk hm2
          clear hm2 hm3
          refine hexit _ (fun e => ?_) (fun c hx hz h48 => ?_) (fun c hx hz h48 h57 => ?_)
          · have hz : ¬ (j : Int) < ((B t).size : Int) := by rw [HZ.out]; omega
            clear e hexit
            cases m
            · go_wp2_with (go_at_call 104; refine (HT3.out _).mono ?_; rintro e w3 ⟨rfl, hb⟩; have hp3 := HP2.out.later hb; have hc3 := hp3.cell0; have hf3 := hp3.free 0; have H3 := Aside0.mk (And.intro (hp3.text (t.drop j)) ((HK2.out.trans (Kp.of_below hb)).store 0 (.string (B (t.drop j))))); clear hp3 hb)
              exact HR2.out hq3 _ _ (by rw [HM.out]; rfl) H3.out.1 H3.out.2
            · go_wp2_with (go_at_call 104; refine (HT3.out _).mono ?_; rintro e w3 ⟨rfl, hb⟩; have hp3 := HP2.out.later hb; have hc3 := hp3.cell0; have hf3 := hp3.free 0; have H3 := Aside0.mk (And.intro (hp3.text (t.drop j)) ((HK2.out.trans (Kp.of_below hb)).store 0 (.string (B (t.drop j))))); clear hp3 hb)
              exact HR2.out hq3 _ _ (by rw [HM.out]; rfl) H3.out.1 H3.out.2
          · clear hexit
            cases m
            · go_wp2_with (go_at_call 104; refine (HT3.out _).mono ?_; rintro e w3 ⟨rfl, hb⟩; have hp3 := HP2.out.later hb; have hc3 := hp3.cell0; have hf3 := hp3.free 0; have H3 := Aside0.mk (And.intro (hp3.text (t.drop j)) ((HK2.out.trans (Kp.of_below hb)).store 0 (.string (B (t.drop j))))); clear hp3 hb)
              exact HR2.out hq3 _ _ (by rw [HM.out]; rfl) H3.out.1 H3.out.2
            · go_wp2_with (go_at_call 104; refine (HT3.out _).mono ?_; rintro e w3 ⟨rfl, hb⟩; have hp3 := HP2.out.later hb; have hc3 := hp3.cell0; have hf3 := hp3.free 0; have H3 := Aside0.mk (And.intro (hp3.text (t.drop j)) ((HK2.out.trans (Kp.of_below hb)).store 0 (.string (B (t.drop j))))); clear hp3 hb)
              exact HR2.out hq3 _ _ (by rw [HM.out]; rfl) H3.out.1 H3.out.2
          · clear hexit
            cases m
            · go_wp2_with (go_at_call 104; refine (HT3.out _).mono ?_; rintro e w3 ⟨rfl, hb⟩; have hp3 := HP2.out.later hb; have hc3 := hp3.cell0; have hf3 := hp3.free 0; have H3 := Aside0.mk (And.intro (hp3.text (t.drop j)) ((HK2.out.trans (Kp.of_below hb)).store 0 (.string (B (t.drop j))))); clear hp3 hb)
              exact HR2.out hq3 _ _ (by rw [HM.out]; rfl) H3.out.1 H3.out.2
            · go_wp2_with (go_at_call 104; refine (HT3.out _).mono ?_; rintro e w3 ⟨rfl, hb⟩; have hp3 := HP2.out.later hb; have hc3 := hp3.cell0; have hf3 := hp3.free 0; have H3 := Aside0.mk (And.intro (hp3.text (t.drop j)) ((HK2.out.trans (Kp.of_below hb)).store 0 (.string (B (t.drop j))))); clear hp3 hb)
              exact HR2.out hq3 _ _ (by rw [HM.out]; rfl) H3.out.1 H3.out.2

end Go.Proofs.YthiehmogphknlaaGreatDoor.Parse
