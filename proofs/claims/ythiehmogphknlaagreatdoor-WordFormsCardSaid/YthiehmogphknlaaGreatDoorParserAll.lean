/- The reference's parser, as functions of what is left of the text: its small parts. -/
import Derived.Test.YthiehmogphknlaaGreatDoorRefAll
import Derived.Test.YthiehmogphknlaaGreatDoorPKnot
import Derived.Test.YthiehmogphknlaaGreatDoorPQbase
import Derived.Test.YthiehmogphknlaaGreatDoorPQsum
namespace Go.Proofs.YthiehmogphknlaaGreatDoor.Laws
open Go.RowKit Go.Proofs.YthiehmogphknlaaGreatDoor.G Go.Proofs.YthiehmogphknlaaGreatDoor.PA Go.Proofs.YthiehmogphknlaaGreatDoor.PT Go.Proofs.YthiehmogphknlaaGreatDoor.PV Go.Proofs.YthiehmogphknlaaGreatDoor.PQ Go.Proofs.YthiehmogphknlaaGreatDoorW.PrintWords Go.Proofs.YthiehmogphknlaaGreatDoor.Free Go.Proofs.YthiehmogphknlaaGreatDoor.Pure1 Go.Proofs.YthiehmogphknlaaGreatDoor.Cyc Go.Proofs.YthiehmogphknlaaGreatDoor.Pow Go.Proofs.YthiehmogphknlaaGreatDoor.Parse
theorem trim_cons (c : UInt8) (t : List UInt8) : trimL (c :: t) = if c = 32 then trimL t else c :: t := by
  by_cases h : c = 32
  · rw [if_pos h, h, trim_blank]
  · rw [if_neg h, trim_letter c t h]
theorem drop_cons (s : List UInt8) (n : Nat) (h : n < s.length) : s.drop n = s[n] :: s.drop (n + 1) := List.drop_eq_getElem_cons h
theorem drop_len (s : List UInt8) (n : Nat) (h : s.length ≤ n) : s.drop n = [] := List.drop_eq_nil_of_le h
/-- next: where the next byte that is no blank stands. -/
theorem next_ev (s : List UInt8) (hs : s.length ≤ 140737488355328) (K : Int) (Lo Ba : Bool) : ∀ (d n : Nat), n + d = s.length →
    ∃ m, n ≤ m ∧ m ≤ s.length ∧ s.drop m = trimL (s.drop n) ∧ Ev (fun k => cayleyref01_Parser_next.f k (B s) (n : Int) K Lo Ba) (hdC (s.drop m), B s, (m : Int), K, Lo, Ba) := by
  intro d
  induction d with
  | zero =>
    intro n hn
    refine ⟨n, Nat.le_refl _, by omega, ?_, ev_some _ _ (fun k => ?_)⟩
    · rw [drop_len s n (by omega)]; rfl
    · unfold cayleyref01_Parser_next.f
      simp only [cayleyref01_Parser_next.l0]
      rw [if_neg (by rw [size_B]; omega), if_pos (by rw [size_B]; omega), drop_len s n (by omega)]
      rfl
  | succ d ih =>
    intro n hn
    have hlt : n < s.length := by omega
    have hb : bt (B s) (n : Int) = ((s[n]).toNat : Int) := bt_nat (B s) n hlt
    have hd := drop_cons s n hlt
    by_cases hc : s[n] = 32
    · obtain ⟨m, h1, h2, h3, h4⟩ := ih (n + 1) (by omega)
      refine ⟨m, by omega, h2, ?_, ?_⟩
      · rw [hd, trim_cons, if_pos hc]; exact h3
      · unfold cayleyref01_Parser_next.f at h4 ⊢
        refine Ev.step (fun k => ?_) h4
        simp only [cayleyref01_Parser_next.l0]
        rw [if_pos (by rw [size_B]; omega), if_pos (by omega), if_pos (by rw [hb, hc]; rfl), w64_succ n (by omega)]
    · refine ⟨n, Nat.le_refl _, by omega, ?_, ev_some _ _ (fun k => ?_)⟩
      · rw [hd, trim_cons, if_neg hc]
      · unfold cayleyref01_Parser_next.f
        simp only [cayleyref01_Parser_next.l0]
        have hne : ¬ bt (B s) (n : Int) = 32 := by
          rw [hb]
          intro e
          exact hc (UInt8.toNat_inj.1 (by rw [show (32 : UInt8).toNat = 32 from rfl]; omega))
        rw [if_pos (by rw [size_B]; omega), if_pos (by omega), if_neg hne, if_neg (by rw [size_B]; omega), hb, hd]
        rfl
/-- take. -/
theorem take_ev (s : List UInt8) (hs : s.length ≤ 140737488355328) (K : Int) (Lo Ba : Bool) (n : Nat) (hn : n ≤ s.length) (c : Int) (hc : c ≠ 0) :
    ∃ (m : Nat) (Ba' : Bool), m ≤ s.length ∧ Ev (fun k => cayleyref01_Parser_take.f k (B s) (n : Int) K Lo Ba c) (B s, (m : Int), K, Lo, Ba') ∧
      (match expectP c (s.drop n) with | some l' => s.drop m = l' ∧ Ba' = Ba ∧ n < m | none => Ba' = true) := by
  obtain ⟨m, h1, h2, h3, h4⟩ := next_ev s hs K Lo Ba (s.length - n) n (by omega)
  unfold cayleyref01_Parser_take.f expectP
  rw [← h3]
  by_cases he : hdC (s.drop m) = c
  · have hlt : m < s.length := by
      by_cases hq : m < s.length
      · exact hq
      · rw [drop_len s m (by omega)] at he
        exact absurd he.symm hc
    rw [if_neg (by rintro (h | h); exact h he; exact hc h)]
    refine ⟨m + 1, Ba, by omega, ?_, ?_, rfl, by omega⟩
    · refine Ev.bind h4 ?_
      have q : (m : Int) < ((B s).size : Int) := by rw [size_B]; omega
      simp only [he, q, and_self, if_true, w64_succ m (by omega)]
      exact Ev.now _
    · rw [drop_cons s m hlt]; rfl
  · rw [if_pos (.inl he)]
    refine ⟨m, true, h2, ?_, rfl⟩
    refine Ev.bind h4 ?_
    have q : ¬ (hdC (s.drop m) = c ∧ (m : Int) < ((B s).size : Int)) := fun x => he x.1
    simp only [if_neg q]
    exact Ev.now _
theorem long_eq (S : ByteArray) (At K : Int) (Lo Ba : Bool) (n : Nat) : cayleyref01_Parser_long.f S At K Lo Ba (n : Int) = some (over n Lo, S, At, K, over n Lo, Ba) := by
  unfold cayleyref01_Parser_long.f over
  by_cases h : 100000 < n
  · rw [if_pos (by omega), decide_eq_true h, Bool.or_true]
  · rw [if_neg (by omega), decide_eq_false h, Bool.or_false]
/-- The digits. -/
theorem digit_bt {c : UInt8} : isD c = true ↔ (48 ≤ (c.toNat : Int) ∧ (c.toNat : Int) ≤ 57) := by
  unfold isD
  rw [Bool.and_eq_true, decide_eq_true_iff, decide_eq_true_iff]
  omega
/-- A power of ten, closed. -/
def P10 (d : Nat) : Nat := 10 ^ d
theorem P10_succ (d : Nat) : P10 (d + 1) = P10 d * 10 := Nat.pow_succ ..
theorem P10_le (d : Nat) (hd : d ≤ 7) : P10 d ≤ 10000000 := Nat.pow_le_pow_right (by omega) hd
attribute [irreducible] P10
theorem val_step (x c y : Nat) (hx : x < 10000000) (hc : 48 ≤ (c : Int) ∧ (c : Int) ≤ 57) (hy : x * 10 + (c - 48) = y) : wrap64 (wrap64 (10 * (x : Int)) + ((c : Int) - 48) % 256) = (y : Int) := by
  rw [w64 (10 * (x : Int)) (by omega) (by omega), w64 _ (by omega) (by omega)]
  omega
theorem fl_ev (s : List UInt8) (hs : s.length ≤ 140737488355328) : ∀ (D n d x : Nat), (digs (s.drop n)).length = D → n ≤ s.length → d ≤ 7 → x < P10 d →
    ∃ v : Nat, v < 10000000 ∧ Ev (fun k => fl k (B s) (n : Int) (x : Int) (d : Int)) (((n + D : Nat) : Int), (v : Int), ((min 7 (d + D) : Nat) : Int)) ∧ (d + D ≤ 7 → Lib.decFrom x (digs (s.drop n)) = some v) := by
  intro D
  induction D with
  | zero =>
    intro n d x hD hn hd hx
    have hx2 := P10_le d hd
    refine ⟨x, by omega, ev_some _ _ (fun k => ?_), fun _ => by rw [List.eq_nil_of_length_eq_zero hD]; rfl⟩
    simp only [fl]
    rw [if_neg (Int.not_lt.2 (Int.natCast_nonneg n)), if_neg, Nat.min_eq_right (by omega)]
    · rfl
    · rintro ⟨h1, h2⟩
      rw [size_B] at h1
      have hlt : n < s.length := by omega
      have hb : bt (B s) (n : Int) = ((s[n]).toNat : Int) := bt_nat (B s) n hlt
      rw [hb, ← digit_bt] at h2
      rw [drop_cons s n hlt, digs_eq, List.takeWhile_cons_of_pos h2] at hD
      simp at hD
  | succ D ih =>
    intro n d x hD hn hd hx
    have hx2 := P10_le d hd
    have e : n + (D + 1) = n + 1 + D := by omega
    have e2 : d + (D + 1) = d + 1 + D := by omega
    have e3 : ¬ d < 7 → min 7 (d + (D + 1)) = min 7 (d + D) := fun h => by omega
    have e4 : d + (D + 1) ≤ 7 → d + 1 + D ≤ 7 := fun h => by omega
    have e5 : ¬ d < 7 → ¬ d + (D + 1) ≤ 7 := fun h => by omega
    have w1 := w64_succ d (by omega)
    have w2 : d < 7 → ((d : Nat) : Int) < 7 := fun h => by omega
    have w3 : ¬ d < 7 → ¬ ((d : Nat) : Int) < 7 := fun h => by omega
    have hlt : n < s.length := by
      by_cases hq : n < s.length
      · exact hq
      · rw [drop_len s n (Nat.not_lt.1 hq)] at hD
        simp [digs] at hD
    have hw := w64_succ n (Nat.lt_of_lt_of_le hlt (Nat.le_trans hs (by decide)))
    have hb : bt (B s) (n : Int) = ((s[n]).toNat : Int) := bt_nat (B s) n hlt
    have hdd := drop_cons s n hlt
    have hdig : isD (s[n]) = true := by
      by_cases hq : isD (s[n]) = true
      · exact hq
      · rw [hdd, digs_eq, List.takeWhile_cons_of_neg hq] at hD
        simp at hD
    have hr := digit_bt.1 hdig
    have hD2 : (digs (s.drop (n + 1))).length = D := by
      rw [hdd, digs_eq, List.takeWhile_cons_of_pos hdig, List.length_cons] at hD
      rw [digs_eq]
      exact Nat.succ.inj hD
    have ih' := fun d x => ih (n + 1) d x hD2 hlt
    clear hD hD2 ih
    have hcond : ((n : Int) < ((B s).size : Int) ∧ 48 ≤ bt (B s) (n : Int) ∧ bt (B s) (n : Int) ≤ 57) := ⟨by rw [size_B]; exact Int.ofNat_lt.2 hlt, by rw [hb]; exact hr.1, by rw [hb]; exact hr.2⟩
    obtain ⟨c, hc⟩ : ∃ c, s[n] = c := ⟨_, rfl⟩
    rw [hc] at hb hdd hdig hr
    by_cases h7 : d < 7
    · obtain ⟨q, hq⟩ : ∃ q, c.toNat = q := ⟨_, rfl⟩
      obtain ⟨y, hy⟩ : ∃ y : Nat, x * 10 + (q - 48) = y := ⟨_, rfl⟩
      have hr2 := hr
      rw [hq] at hr2
      have hy2 : y < P10 (d + 1) := by
        rw [P10_succ]
        obtain ⟨P, hP⟩ : ∃ P, P10 d = P := ⟨_, rfl⟩
        rw [hP] at hx ⊢
        clear hcond hb hdd hdig hr ih' hx2 hP
        omega
      obtain ⟨v, h1, h2, h3⟩ := ih' (d + 1) y h7 hy2
      refine ⟨v, h1, ?_, ?_⟩
      · rw [e, e2]
        refine Ev.step (fun k => ?_) h2
        have hval : wrap64 (wrap64 (10 * (x : Int)) + (bt (B s) (n : Int) - 48) % 256) = (y : Int) := by
          rw [hb, hq]
          exact val_step x q y (Nat.lt_of_lt_of_le hx hx2) hr2 hy
        simp only [fl]
        rw [if_neg (Int.not_lt.2 (Int.natCast_nonneg n)), if_pos hcond, if_pos (w2 h7), hw, hval, w1]
      · intro h
        have hdv : Lib.digitVal c = some (q - 48) := by
          unfold Lib.digitVal
          rw [if_pos, hq]
          rw [hq]
          exact ⟨Int.ofNat_le.1 hr2.1, Int.ofNat_le.1 hr2.2⟩
        rw [hdd, digs_eq, List.takeWhile_cons_of_pos hdig, ← digs_eq]
        show (match Lib.digitVal c with | some d => Lib.decFrom (x * 10 + d) (digs (s.drop (n + 1))) | none => none) = some v
        rw [hdv]
        simp only [hy]
        exact h3 (e4 h)
    · obtain ⟨v, h1, h2, _⟩ := ih' d x hd hx
      refine ⟨v, h1, ?_, fun h => absurd h (e5 h7)⟩
      rw [e, e3 h7]
      refine Ev.step (fun k => ?_) h2
      simp only [fl]
      rw [if_neg (Int.not_lt.2 (Int.natCast_nonneg n)), if_pos hcond, if_neg (w3 h7), hw]
theorem pow_value (l : List UInt8) (hr : Red l) (n : Int) (h : l.length * n.natAbs ≤ 100000) : powL l n = some (red (Lib.repeatL (if n < 0 then inv l else l) n.natAbs)) := by
  have hred : red l = l := red_of_red hr
  have hlen : 2 * (cj l).length + (core l).length = l.length := by
    have := cyc_length (red l)
    rw [hred] at this
    unfold cj core
    rw [hred]
    exact this
  have hparts := red_parts l
  rw [hred] at hparts
  have hxl : (if n < 0 then inv (core l) else core l).length = (core l).length := by split <;> simp [inv_length]
  have hxn : (if n < 0 then inv (core l) else core l) = [] ↔ core l = [] := by
    split
    · exact inv_nil_iff _
    · exact Iff.rfl
  unfold powL
  show (if (if n < 0 then inv (core l) else core l) = [] ∨ n = 0 then some [] else if 100000 < n.natAbs ∨ 100000 < (if n < 0 then inv (core l) else core l).length * n.natAbs + 2 * (cj l).length then none else some (cj l ++ Lib.repeatL (if n < 0 then inv (core l) else core l) n.natAbs ++ inv (cj l))) = _
  by_cases h1 : core l = [] ∨ n = 0
  · rw [if_pos (h1.imp hxn.2 id)]
    congr 1
    rcases h1 with h1 | h1
    · have hl : l = [] := by
        have := (core_nil l).1 h1
        rwa [hred] at this
      subst hl
      have e : (if n < 0 then inv ([] : List UInt8) else []) = [] := by split <;> rfl
      rw [e]
      have hz : ∀ k, Lib.repeatL ([] : List UInt8) k = [] := by
        intro k
        induction k with
        | zero => rfl
        | succ k ih => rw [rep_succ, ih]; rfl
      rw [hz]
      rfl
    · subst h1; rfl
  · rw [if_neg (fun h => h1 (h.imp hxn.1 id))]
    have hc : core l ≠ [] := fun e => h1 (.inl e)
    have hcl : 1 ≤ (core l).length := List.length_pos_iff.2 hc
    have hn : 1 ≤ n.natAbs := by
      have : n ≠ 0 := fun e => h1 (.inr e)
      omega
    have hb1 : (core l).length * n.natAbs + 2 * (cj l).length * n.natAbs = l.length * n.natAbs := by rw [← hlen, Nat.add_mul, Nat.add_comm]
    have hb2 : 2 * (cj l).length ≤ 2 * (cj l).length * n.natAbs := Nat.le_mul_of_pos_right _ hn
    have hb3 : n.natAbs ≤ (core l).length * n.natAbs := Nat.le_mul_of_pos_left _ hcl
    rw [if_neg (by rw [hxl]; omega)]
    congr 1
    have hbig : ∀ k : Nat, 1 ≤ k → Red (cj l ++ (Lib.repeatL (core l) k ++ inv (cj l))) := by
      intro k hk
      have hp := per_pow (core l) hc
      have ht := times_pos (core l) hc
      have := rep_parts l hc ((core l).length / per (core l) * k) (Nat.mul_pos ht hk)
      rwa [← rep_mul, ← hp] at this
    have heq : ∀ (a b : List UInt8), Eqv a b → ∀ k, Eqv (Lib.repeatL a k) (Lib.repeatL b k) := by
      intro a b hab k
      induction k with
      | zero => exact Eqv.refl _
      | succ k ih => rw [rep_succ, rep_succ]; exact hab.append ih
    have hbase : Eqv (cj l ++ (core l ++ inv (cj l))) l := by rw [← hparts]; exact Eqv.refl l
    rw [List.append_assoc]
    have hR : Red (cj l ++ (Lib.repeatL (if n < 0 then inv (core l) else core l) n.natAbs ++ inv (cj l))) := by
      by_cases hneg : n < 0
      · rw [if_pos hneg, ← inv_rep]
        have := red_inv _ (hbig n.natAbs hn)
        rwa [inv_append, inv_append, inv_inv, List.append_assoc] at this
      · rw [if_neg hneg]
        exact hbig n.natAbs hn
    have hE : Eqv (cj l ++ (Lib.repeatL (if n < 0 then inv (core l) else core l) n.natAbs ++ inv (cj l))) (Lib.repeatL (if n < 0 then inv l else l) n.natAbs) := by
      refine (conj_rep _ _ _).trans (heq _ _ ?_ _)
      split
      · have := hbase.inv
        rwa [inv_append, inv_append, inv_inv, List.append_assoc] at this
      · exact hbase
    rw [← hE, red_of_red hR]
end Go.Proofs.YthiehmogphknlaaGreatDoor.Laws
namespace Go.Proofs.YthiehmogphknlaaGreatDoor.Laws
open Go.RowKit Go.Proofs.YthiehmogphknlaaGreatDoor.G Go.Proofs.YthiehmogphknlaaGreatDoor.PA Go.Proofs.YthiehmogphknlaaGreatDoor.PT Go.Proofs.YthiehmogphknlaaGreatDoor.PV Go.Proofs.YthiehmogphknlaaGreatDoor.PQ Go.Proofs.YthiehmogphknlaaGreatDoorW.PrintWords Go.Proofs.YthiehmogphknlaaGreatDoor.Free Go.Proofs.YthiehmogphknlaaGreatDoor.Pure1 Go.Proofs.YthiehmogphknlaaGreatDoor.Cyc Go.Proofs.YthiehmogphknlaaGreatDoor.Pow Go.Proofs.YthiehmogphknlaaGreatDoor.Parse
abbrev RF := Nat → ByteArray → Int → Int → Bool → Bool → Int → Option (ByteArray × ByteArray × Int × Int × Bool × Bool)
section
variable (s : List UInt8) (kk : Int)
/-- The reference has found the text bad. -/
def BadR (g : Nat → Option (ByteArray × St)) : Prop := ∃ (x : ByteArray) (m : Nat) (Lo : Bool), m ≤ s.length ∧ x.size ≤ 100000 ∧ Ev g (x, B s, (m : Int), kk, Lo, true)
/-- It has read a value, and stands ahead of l'. -/
def FineR (g : Nat → Option (ByteArray × St)) (v l' : List UInt8) (o' : Bool) : Prop :=
  ∃ (x : ByteArray) (m : Nat), m ≤ s.length ∧ x.size ≤ 100000 ∧ s.drop m = l' ∧ (o' = false → x = B v ∧ Red v ∧ (∀ c ∈ v, isL c = true) ∧ v.length ≤ 100000) ∧ Ev g (x, B s, (m : Int), kk, o', false)
def Rel (F : List UInt8 → Bool → Res (List UInt8)) (g : Nat → Bool → Nat → Option (ByteArray × St)) : Prop :=
  ∀ (p : Nat) (o : Bool), p ≤ s.length → match F (s.drop p) o with
    | none => True
    | some none => BadR s kk (g p o)
    | some (some (v, l', o')) => FineR s kk (g p o) v l' o'
/-- As Rel; where a byte 0 stands next the reference may have said more. -/
def RelS (F : List UInt8 → Bool → Res (List UInt8)) (g : Nat → Bool → Nat → Option (ByteArray × St)) : Prop :=
  ∀ (p : Nat) (o : Bool), p ≤ s.length → match F (s.drop p) o with
    | none => True
    | some none => BadR s kk (g p o)
    | some (some (v, l', o')) => trimL l' = l' ∧ (FineR s kk (g p o) v l' o' ∨ (hdC l' = 0 ∧ l' ≠ [] ∧ BadR s kk (g p o)))
end
theorem expect_zero {l : List UInt8} {c : Int} (h : trimL l = l) (h0 : hdC l = 0) (hc : c ≠ 0) : expectP c l = none := by
  unfold expectP
  rw [h, h0, if_pos (.inl (fun e => hc e.symm))]
/-- What stands behind a sum in brackets: the closing byte. -/
theorem close_ev (s : List UInt8) (hs : s.length ≤ 140737488355328) (kk : Int) (c : Int) (hc : c ≠ 0) (m : Nat) (hm : m ≤ s.length) (Lo : Bool) :
    match expectP c (s.drop m) with
    | some l' => ∃ m' : Nat, m' ≤ s.length ∧ s.drop m' = l' ∧ Ev (fun k => cayleyref01_Parser_take.f k (B s) (m : Int) kk Lo false c) (B s, (m' : Int), kk, Lo, false)
    | none => ∃ m' : Nat, m' ≤ s.length ∧ Ev (fun k => cayleyref01_Parser_take.f k (B s) (m : Int) kk Lo false c) (B s, (m' : Int), kk, Lo, true) := by
  obtain ⟨m', Ba', h1, h2, h3⟩ := take_ev s hs kk Lo false m hm c hc
  cases he : expectP c (s.drop m) with
  | none =>
    rw [he] at h3
    dsimp only at h3 ⊢
    subst h3
    exact ⟨m', h1, h2⟩
  | some l' =>
    rw [he] at h3
    dsimp only at h3 ⊢
    obtain ⟨h4, rfl, _⟩ := h3
    exact ⟨m', h1, h4, h2⟩
theorem take_bad (s : List UInt8) (hs : s.length ≤ 140737488355328) (kk : Int) (c : Int) (hc : c ≠ 0) (m : Nat) (hm : m ≤ s.length) (Lo : Bool) :
    ∃ m' : Nat, m' ≤ s.length ∧ Ev (fun k => cayleyref01_Parser_take.f k (B s) (m : Int) kk Lo true c) (B s, (m' : Int), kk, Lo, true) := by
  obtain ⟨m', Ba', h1, h2, h3⟩ := take_ev s hs kk Lo true m hm c hc
  have : Ba' = true := by
    cases he : expectP c (s.drop m) with
    | none => rw [he] at h3; exact h3
    | some l' => rw [he] at h3; exact h3.2.1
  subst this
  exact ⟨m', h1, h2⟩
/-- In a text that is bad a sum ends at once. -/
theorem sum_bad (FF : RF) (s : List UInt8) (kk : Int) (m : Nat) (Lo : Bool) (d : Int) : Ev (fun k => cayleyref01_Parser_sum.f FF k (B s) (m : Int) kk Lo true d) (B [], B s, (m : Int), kk, Lo, true) := by
  unfold cayleyref01_Parser_sum.f
  refine Ev.step (f := fun k => cayleyref01_Parser_sum.j2 FF k (⟨#[]⟩ : ByteArray) 0 (B s) (m : Int) kk Lo true) (fun k => by simp only [cayleyref01_Parser_sum.l0, if_true]) ?_
  refine ev_some _ _ (fun k => ?_)
  simp only [cayleyref01_Parser_sum.j2, if_true]
  rfl
theorem base_start (SF : RF) (s : List UInt8) (kk : Int) (k1 : 1 ≤ kk) (k8 : kk ≤ 8) (d : Int) (p m : Nat) (o : Bool) (c : Int) (hc0 : 0 ≤ c) (hc1 : c ≤ 255) {r : ByteArray × St}
    (hnx : Ev (fun k => cayleyref01_Parser_next.f k (B s) (p : Int) kk o false) (c, B s, (m : Int), kk, o, false))
    (hr : Ev (fun k => cayleyref01_Parser_base.j0 SF k d c (decide (0 ≤ idx c ∧ idx c < 2 * kk)) (B s) (m : Int) kk o false) r) : Ev (fun k => cayleyref01_Parser_base.f SF k (B s) (p : Int) kk o false d) r := by
  unfold cayleyref01_Parser_base.f
  refine Ev.bind hnx ?_
  dsimp only
  refine Ev.bind (rIndex_ev c hc0 hc1) ?_
  rw [w64_two kk k1 k8]
  by_cases h : 0 ≤ idx c
  · have e : decide (0 ≤ idx c ∧ idx c < 2 * kk) = decide (idx c < 2 * kk) := decide_eq_decide.2 ⟨fun x => x.2, fun x => ⟨h, x⟩⟩
    rw [e] at hr
    simp only [ge_iff_le, if_pos h]
    exact hr
  · have e : decide (0 ≤ idx c ∧ idx c < 2 * kk) = false := decide_eq_false (fun x => h x.1)
    rw [e] at hr
    simp only [ge_iff_le, if_neg h]
    exact hr
theorem base_par (SF : RF) (s : List UInt8) (kk : Int) (d : Int) (hd0 : 0 ≤ d) (hd1 : d ≤ 4611686018427387903) (m m1 m2 m3 : Nat) (o Lo Ba Ba2 : Bool) (x : ByteArray)
    (h1 : Ev (fun k => cayleyref01_Parser_take.f k (B s) (m : Int) kk o false 40) (B s, (m1 : Int), kk, o, false))
    (h2 : Ev (fun k => SF k (B s) (m1 : Int) kk (o || decide (20 < d)) false (d + 1)) (x, B s, (m2 : Int), kk, Lo, Ba))
    (h3 : Ev (fun k => cayleyref01_Parser_take.f k (B s) (m2 : Int) kk Lo Ba 41) (B s, (m3 : Int), kk, Lo, Ba2)) :
    Ev (fun k => cayleyref01_Parser_base.j0 SF k d 40 false (B s) (m : Int) kk o false) (x, B s, (m3 : Int), kk, Lo, Ba2) := by
  have hw : wrap64 (d + 1) = d + 1 := w64 _ (by omega) (by omega)
  refine Ev.step (f := fun k => (cayleyref01_Parser_take.f k (B s) (m : Int) kk o false 40).bind fun b => (SF k b.1 b.2.1 b.2.2.1 (b.2.2.2.1 || decide (20 < d)) b.2.2.2.2 (d + 1)).bind fun b2 => (cayleyref01_Parser_take.f k b2.2.1 b2.2.2.1 b2.2.2.2.1 b2.2.2.2.2.1 b2.2.2.2.2.2 41).bind fun b3 => some (b2.1, b3.1, b3.2.1, b3.2.2.1, b3.2.2.2.1, b3.2.2.2.2)) (fun k => ?_) ?_
  · simp only [cayleyref01_Parser_base.j0, Bool.false_eq_true, if_false]
    rw [if_neg (by decide), if_pos trivial]
    congr 1
    funext b
    by_cases h20 : 20 < d
    · rw [if_pos h20, decide_eq_true h20, Bool.or_true, hw]
    · rw [if_neg h20, decide_eq_false h20, Bool.or_false, hw]
  · refine Ev.bind h1 ?_
    dsimp only
    refine Ev.bind h2 ?_
    dsimp only
    refine Ev.bind h3 ?_
    dsimp only
    exact Ev.now _
/-- '[': as far as the second value's end. -/
theorem base_com (SF : RF) (s : List UInt8) (kk : Int) (d : Int) (hd0 : 0 ≤ d) (hd1 : d ≤ 4611686018427387903) (m m1 m2 m3 m4 m5 : Nat) (o Lo Ba Ba2 Lo3 Ba3 Ba4 : Bool) (x y : ByteArray) {r : ByteArray × St}
    (h1 : Ev (fun k => cayleyref01_Parser_take.f k (B s) (m : Int) kk o false 91) (B s, (m1 : Int), kk, o, false))
    (h2 : Ev (fun k => SF k (B s) (m1 : Int) kk (o || decide (20 < d)) false (d + 1)) (x, B s, (m2 : Int), kk, Lo, Ba))
    (h3 : Ev (fun k => cayleyref01_Parser_take.f k (B s) (m2 : Int) kk Lo Ba 44) (B s, (m3 : Int), kk, Lo, Ba2))
    (h4 : Ev (fun k => SF k (B s) (m3 : Int) kk Lo Ba2 (d + 1)) (y, B s, (m4 : Int), kk, Lo3, Ba3))
    (h5 : Ev (fun k => cayleyref01_Parser_take.f k (B s) (m4 : Int) kk Lo3 Ba3 93) (B s, (m5 : Int), kk, Lo3, Ba4))
    (h6 : Ev (fun k => if Ba4 = true then cayleyref01_Parser_base.j2 SF k x y true (B s) (m5 : Int) kk Lo3 Ba4 else (cayleyref01_Parser_long.f (B s) (m5 : Int) kk Lo3 Ba4 (wrap64 (wrap64 (2 * (x.size : Int)) + wrap64 (2 * (y.size : Int))))).bind fun b => cayleyref01_Parser_base.j2 SF k x y b.1 b.2.1 b.2.2.1 b.2.2.2.1 b.2.2.2.2.1 b.2.2.2.2.2) r) :
    Ev (fun k => cayleyref01_Parser_base.j0 SF k d 91 false (B s) (m : Int) kk o false) r := by
  have hw : wrap64 (d + 1) = d + 1 := w64 _ (by omega) (by omega)
  refine Ev.step (f := fun k => (cayleyref01_Parser_take.f k (B s) (m : Int) kk o false 91).bind fun b => cayleyref01_Parser_base.j1 SF k d b.1 b.2.1 b.2.2.1 (b.2.2.2.1 || decide (20 < d)) b.2.2.2.2) (fun k => ?_) ?_
  · simp only [cayleyref01_Parser_base.j0, Bool.false_eq_true, if_false]
    rw [if_neg (by decide), if_neg (by decide), if_pos trivial]
    congr 1
    funext b
    by_cases h20 : 20 < d
    · rw [if_pos h20, decide_eq_true h20, Bool.or_true]
    · rw [if_neg h20, decide_eq_false h20, Bool.or_false]
  · refine Ev.bind h1 ?_
    dsimp only
    refine Ev.step (f := fun k => (SF k (B s) (m1 : Int) kk (o || decide (20 < d)) false (d + 1)).bind fun bt150 => ((cayleyref01_Parser_take.f k bt150.2.1 bt150.2.2.1 bt150.2.2.2.1 bt150.2.2.2.2.1 bt150.2.2.2.2.2 44).bind fun bt156 => ((SF k bt156.1 bt156.2.1 bt156.2.2.1 bt156.2.2.2.1 bt156.2.2.2.2 (d + 1)).bind fun bt161 => ((cayleyref01_Parser_take.f k bt161.2.1 bt161.2.2.1 bt161.2.2.2.1 bt161.2.2.2.2.1 bt161.2.2.2.2.2 93).bind fun bt167 => (if bt167.2.2.2.2 = true then (cayleyref01_Parser_base.j2 SF k bt150.1 bt161.1 true bt167.1 bt167.2.1 bt167.2.2.1 bt167.2.2.2.1 bt167.2.2.2.2) else ((cayleyref01_Parser_long.f bt167.1 bt167.2.1 bt167.2.2.1 bt167.2.2.2.1 bt167.2.2.2.2 (wrap64 ((wrap64 (2 * (bt150.1.size : Int))) + (wrap64 (2 * (bt161.1.size : Int)))))).bind fun bt172 => (cayleyref01_Parser_base.j2 SF k bt150.1 bt161.1 bt172.1 bt172.2.1 bt172.2.2.1 bt172.2.2.2.1 bt172.2.2.2.2.1 bt172.2.2.2.2.2))))))) (fun k => by simp only [cayleyref01_Parser_base.j1, hw]) ?_
    refine Ev.bind h2 ?_
    dsimp only
    refine Ev.bind h3 ?_
    dsimp only
    refine Ev.bind h4 ?_
    dsimp only
    refine Ev.bind h5 ?_
    dsimp only
    exact h6
theorem j2_long (SF : RF) (x y S : ByteArray) (At K : Int) (Lo Ba : Bool) : Ev (fun k => cayleyref01_Parser_base.j2 SF k x y true S At K Lo Ba) (B [], S, At, K, Lo, Ba) := ev_some _ _ (fun k => by simp only [cayleyref01_Parser_base.j2, if_true]; rfl)
theorem j2_value (SF : RF) (u v : List UInt8) (S : ByteArray) (At K : Int) (Lo Ba : Bool) (hu : ∀ c ∈ u, isL c = true) (hv : ∀ c ∈ v, isL c = true) (hl : 2 * (u.length + v.length) ≤ 100000) :
    Ev (fun k => cayleyref01_Parser_base.j2 SF k (B u) (B v) false S At K Lo Ba) (B (red (u ++ v ++ inv u ++ inv v)), S, At, K, Lo, Ba) := by
  have wu : Wd (B u) := ⟨by rw [size_B]; omega, hu⟩
  have wv : Wd (B v) := ⟨by rw [size_B]; omega, hv⟩
  have iu := rInverse_ev (B u) (by rw [size_B]; omega)
  have iv := rInverse_ev (B v) (by rw [size_B]; omega)
  rw [if_pos wu, L_B] at iu
  rw [if_pos wv, L_B] at iv
  have hlen : (u ++ v ++ inv u ++ inv v).length ≤ 100000 := by simp only [List.length_append, inv_length]; omega
  have wr : Wd (B (u ++ v ++ inv u ++ inv v)) := by
    refine ⟨by rw [size_B]; exact hlen, ?_⟩
    rw [L_B]
    intro c hc
    rcases List.mem_append.1 hc with hc | hc
    · rcases List.mem_append.1 hc with hc | hc
      · rcases List.mem_append.1 hc with hc | hc
        · exact hu c hc
        · exact hv c hc
      · exact inv_isL hu c hc
    · exact inv_isL hv c hc
  have hr := rReduce_ev (B (u ++ v ++ inv u ++ inv v)) (by rw [size_B]; omega)
  rw [if_pos wr, L_B] at hr
  have z1 : (B u).size + (B v).size ≤ 9223372036854775807 := by rw [size_B, size_B]; omega
  have z2 : (B u ++ B v).size + (B (inv u)).size ≤ 9223372036854775807 := by rw [B_append, size_B, size_B, List.length_append, inv_length]; omega
  have z3 : (B u ++ B v ++ B (inv u)).size + (B (inv v)).size ≤ 9223372036854775807 := by rw [B_append, B_append, size_B, size_B, List.length_append, List.length_append, inv_length, inv_length]; omega
  refine Ev.step (f := fun k => (cayleyref01_Inverse.f k (B u)).bind fun t178 => (if (B u ++ B v).size + t178.size ≤ 9223372036854775807 then ((cayleyref01_Inverse.f k (B v)).bind fun t179 => (if ((B u ++ B v) ++ t178).size + t179.size ≤ 9223372036854775807 then ((cayleyref01_Reduce.f k (((B u ++ B v) ++ t178) ++ t179)).bind fun t180 => (some (t180, S, At, K, Lo, Ba))) else (none))) else (none))) (fun k => ?_) ?_
  · simp only [cayleyref01_Parser_base.j2, Bool.false_eq_true, if_false]
    rw [if_pos z1]
  · refine Ev.bind iu ?_
    simp only [if_pos z2]
    refine Ev.bind iv ?_
    simp only [if_pos z3]
    simp only [B_append]
    exact Ev.bind hr (Ev.now _)
theorem long_true (S : ByteArray) (At K : Int) (Ba : Bool) (z : Int) : cayleyref01_Parser_long.f S At K true Ba z = some (true, S, At, K, true, Ba) := by
  unfold cayleyref01_Parser_long.f
  split <;> rfl
theorem base_rel (s : List UInt8) (hs : s.length ≤ 140737488355328) (kk : Int) (k1 : 1 ≤ kk) (k8 : kk ≤ 8) (SF : RF) (sum : Int → List UInt8 → Bool → Res (List UInt8)) (d : Int) (hd0 : 0 ≤ d) (hd1 : d ≤ 4611686018427387903)
    (hS : RelS s kk (sum (d + 1)) (fun p o k => SF k (B s) (p : Int) kk o false (d + 1))) (hG : ∀ l o v l' o', sum (d + 1) l o = some (some (v, l', o')) → o = true → o' = true) (hB : (∃ l o r, sum (d + 1) l o = some r) → ∀ (p : Nat) (Lo : Bool), Ev (fun k => SF k (B s) (p : Int) kk Lo true (d + 1)) (B [], B s, (p : Int), kk, Lo, true)) :
    Rel s kk (baseP sum kk d) (fun p o k => cayleyref01_Parser_base.f SF k (B s) (p : Int) kk o false d) := by
  intro p o hp
  obtain ⟨m, hpm, hm, hdm, hnx⟩ := next_ev s hs kk o false (s.length - p) p (by omega)
  obtain ⟨c, hc⟩ : ∃ c, hdC (s.drop m) = c := ⟨_, rfl⟩
  have hcr := hdC_range (s.drop m)
  have htm : trimL (s.drop m) = s.drop m := by rw [hdm, trim_trim]
  rw [hc] at hnx hcr
  have start := fun r => base_start SF s kk k1 k8 d p m o c hcr.1 hcr.2 (r := r) hnx
  have hexp : c ≠ 0 → expectP c (s.drop m) = some (s.drop m).tail := fun h0 => by
    have := expect_at (l := s.drop m) (c := c) (by rw [htm]; exact hc) h0
    rwa [htm] at this
  have htake : c ≠ 0 → ∃ m' : Nat, m' ≤ s.length ∧ s.drop m' = (s.drop m).tail ∧ Ev (fun k => cayleyref01_Parser_take.f k (B s) (m : Int) kk o false c) (B s, (m' : Int), kk, o, false) := fun h0 => by
    have := close_ev s hs kk c h0 m hm o
    rw [hexp h0] at this
    exact this
  unfold baseP
  dsimp only
  rw [← hdm, hc]
  by_cases hl : 0 ≤ idx c ∧ idx c < 2 * kk
  · have n0 : c ≠ 0 := by rintro rfl; exact absurd hl.1 (by decide)
    have n1 : ¬ c = 49 := by rintro rfl; exact absurd hl.1 (by decide)
    have n2 : ¬ c = 40 := by rintro rfl; exact absurd hl.1 (by decide)
    have n3 : ¬ c = 91 := by rintro rfl; exact absurd hl.1 (by decide)
    rw [if_neg n1, if_neg n2, if_neg n3, if_pos ⟨n0, hl.1, hl.2⟩]
    obtain ⟨m', h1, h2, h3⟩ := htake n0
    rw [decide_eq_true hl] at start
    cases hh : s.drop m with
    | nil => rw [hh] at hc; exact absurd hc.symm n0
    | cons ch t =>
      rw [hh] at h2 hc
      have hcc : (ch.toNat : Int) = c := hc
      have hL : isL ch = true := by
        unfold isL
        rw [hcc]
        exact decide_eq_true hl.1
      refine ⟨Utf8.encode c, m', h1, by rw [← hcc, enc_letter ch hL, size_B]; simp, h2, fun _ => ⟨?_, trivial, ?_, by simp⟩, start _ ?_⟩
      · rw [← hcc, enc_letter ch hL]; rfl
      · intro b hb
        have : b ∈ [ch] := hb
        rw [List.mem_singleton] at this
        rw [this]; exact hL
      · refine Ev.step (f := fun k => (cayleyref01_Parser_take.f k (B s) (m : Int) kk o false c).bind fun b => some (Utf8.encode c, b.1, b.2.1, b.2.2.1, b.2.2.2.1, b.2.2.2.2)) (fun k => by simp only [cayleyref01_Parser_base.j0, if_true]) ?_
        refine Ev.bind h3 ?_
        dsimp only
        exact Ev.now _
  · rw [decide_eq_false hl] at start
    by_cases n1 : c = 49
    · subst n1
      rw [if_pos rfl]
      obtain ⟨m', h1, h2, h3⟩ := htake (by decide)
      refine ⟨B [], m', h1, (Nat.zero_le _), h2, fun _ => ⟨rfl, trivial, (fun _ h => by cases h), by simp⟩, start _ ?_⟩
      refine Ev.step (f := fun k => (cayleyref01_Parser_take.f k (B s) (m : Int) kk o false 49).bind fun b => some (B [], b.1, b.2.1, b.2.2.1, b.2.2.2.1, b.2.2.2.2)) (fun k => by simp only [cayleyref01_Parser_base.j0, Bool.false_eq_true, if_false, if_true]; rfl) ?_
      refine Ev.bind h3 ?_
      dsimp only
      exact Ev.now _
    · rw [if_neg n1]
      by_cases n2 : c = 40
      · subst n2
        rw [if_pos rfl]
        obtain ⟨m1, h1, h2, h3⟩ := htake (by decide)
        rw [← h2]
        have hs1 := hS m1 (o || decide (20 < d)) h1
        have bad : BadR s kk (fun k => SF k (B s) (m1 : Int) kk (o || decide (20 < d)) false (d + 1)) → BadR s kk (fun k => cayleyref01_Parser_base.f SF k (B s) (p : Int) kk o false d) := by
          rintro ⟨x, m2, Lo, h4, hx5, h5⟩
          obtain ⟨m3, h6, h7⟩ := take_bad s hs kk 41 (by decide) m2 h4 Lo
          exact ⟨x, m3, Lo, h6, hx5, start _ (base_par SF s kk d hd0 hd1 m m1 m2 m3 o Lo true true x h3 h5 h7)⟩
        cases hr : sum (d + 1) (s.drop m1) (o || decide (20 < d)) with
        | none => trivial
        | some r1 =>
          rw [hr] at hs1
          cases r1 with
          | none => exact bad hs1
          | some q =>
            obtain ⟨v, l', o'⟩ := q
            obtain ⟨ht', hf | ⟨hz, hne, hb⟩⟩ := hs1
            · obtain ⟨x, m2, h4, hx7, h5, h6, h7⟩ := hf
              have hcl := close_ev s hs kk 41 (by decide) m2 h4 o'
              rw [h5] at hcl
              simp only [Res.bind]
              cases he : expectP 41 l' with
              | none =>
                rw [he] at hcl
                obtain ⟨m3, h8, h9⟩ := hcl
                exact ⟨x, m3, o', h8, hx7, start _ (base_par SF s kk d hd0 hd1 m m1 m2 m3 o o' false true x h3 h7 h9)⟩
              | some l2 =>
                rw [he] at hcl
                obtain ⟨m3, h8, h9, h10⟩ := hcl
                exact ⟨x, m3, h8, hx7, h9, h6, start _ (base_par SF s kk d hd0 hd1 m m1 m2 m3 o o' false false x h3 h7 h10)⟩
            · simp only [Res.bind]
              rw [expect_zero ht' hz (by decide)]
              exact bad hb
      · rw [if_neg n2]
        by_cases n3 : c = 91
        · subst n3
          rw [if_pos rfl]
          obtain ⟨m1, h1, h2, h3⟩ := htake (by decide)
          rw [← h2]
          have hs1 := hS m1 (o || decide (20 < d)) h1
          have bad : (∃ l o r, sum (d + 1) l o = some r) → BadR s kk (fun k => SF k (B s) (m1 : Int) kk (o || decide (20 < d)) false (d + 1)) → BadR s kk (fun k => cayleyref01_Parser_base.f SF k (B s) (p : Int) kk o false d) := by
            rintro hso ⟨x, m2, Lo, h4, hx5, h5⟩
            obtain ⟨m3, h6, h7⟩ := take_bad s hs kk 44 (by decide) m2 h4 Lo
            obtain ⟨m5, h8, h9⟩ := take_bad s hs kk 93 (by decide) m3 h6 Lo
            refine ⟨B [], m5, Lo, h8, (Nat.zero_le _), start _ (base_com SF s kk d hd0 hd1 m m1 m2 m3 m3 m5 o Lo true true Lo true true x (B []) h3 h5 h7 (hB hso m3 Lo) h9 ?_)⟩
            simp only [if_true]
            exact j2_long _ _ _ _ _ _ _ _
          cases hr : sum (d + 1) (s.drop m1) (o || decide (20 < d)) with
          | none => trivial
          | some r1 =>
            rw [hr] at hs1
            cases r1 with
            | none => exact bad ⟨_, _, _, hr⟩ hs1
            | some q =>
              obtain ⟨u, l', o'⟩ := q
              obtain ⟨ht', hf | ⟨hz, hne, hb⟩⟩ := hs1
              · obtain ⟨x, m2, h4, hx7, h5, h6, h7⟩ := hf
                have hcl := close_ev s hs kk 44 (by decide) m2 h4 o'
                rw [h5] at hcl
                simp only [Res.bind]
                cases he : expectP 44 l' with
                | none =>
                  rw [he] at hcl
                  obtain ⟨m3, h8, h9⟩ := hcl
                  obtain ⟨m5, h10, h11⟩ := take_bad s hs kk 93 (by decide) m3 h8 o'
                  refine ⟨B [], m5, o', h10, (Nat.zero_le _), start _ (base_com SF s kk d hd0 hd1 m m1 m2 m3 m3 m5 o o' false true o' true true x (B []) h3 h7 h9 (hB ⟨_, _, _, hr⟩ m3 o') h11 ?_)⟩
                  simp only [if_true]
                  exact j2_long _ _ _ _ _ _ _ _
                | some l2 =>
                  rw [he] at hcl
                  obtain ⟨m3, h8, h9, h10⟩ := hcl
                  dsimp only
                  rw [← h9]
                  have hs2 := hS m3 o' h8
                  have bad2 : BadR s kk (fun k => SF k (B s) (m3 : Int) kk o' false (d + 1)) → BadR s kk (fun k => cayleyref01_Parser_base.f SF k (B s) (p : Int) kk o false d) := by
                    rintro ⟨y, m4, Lo, h11, hy12, h12⟩
                    obtain ⟨m5, h13, h14⟩ := take_bad s hs kk 93 (by decide) m4 h11 Lo
                    refine ⟨B [], m5, Lo, h13, (Nat.zero_le _), start _ (base_com SF s kk d hd0 hd1 m m1 m2 m3 m4 m5 o o' false false Lo true true x y h3 h7 h10 h12 h14 ?_)⟩
                    simp only [if_true]
                    exact j2_long _ _ _ _ _ _ _ _
                  cases hr2 : sum (d + 1) (s.drop m3) o' with
                  | none => trivial
                  | some r2 =>
                    rw [hr2] at hs2
                    cases r2 with
                    | none => exact bad2 hs2
                    | some q2 =>
                      obtain ⟨v, l3, o3⟩ := q2
                      dsimp only
                      obtain ⟨ht3, hf3 | ⟨hz3, hne3, hb3⟩⟩ := hs2
                      · obtain ⟨y, m4, g1, hy4, g2, g3, g4⟩ := hf3
                        have hcl2 := close_ev s hs kk 93 (by decide) m4 g1 o3
                        rw [g2] at hcl2
                        cases he2 : expectP 93 l3 with
                        | none =>
                          rw [he2] at hcl2
                          obtain ⟨m5, g5, g6⟩ := hcl2
                          refine ⟨B [], m5, o3, g5, (Nat.zero_le _), start _ (base_com SF s kk d hd0 hd1 m m1 m2 m3 m4 m5 o o' false false o3 false true x y h3 h7 h10 g4 g6 ?_)⟩
                          simp only [if_true]
                          exact j2_long _ _ _ _ _ _ _ _
                        | some l4 =>
                          rw [he2] at hcl2
                          obtain ⟨m5, g5, g6, g7⟩ := hcl2
                          dsimp only
                          have fin := fun r => base_com SF s kk d hd0 hd1 m m1 m2 m3 m4 m5 o o' false false o3 false false x y (r := r) h3 h7 h10 g4 g7
                          simp only [Bool.false_eq_true, if_false] at fin
                          cases o3 with
                          | true =>
                            have ho : over (2 * (u.length + v.length)) true = true := rfl
                            rw [if_pos ho]
                            refine ⟨B [], m5, g5, (Nat.zero_le _), g6, (fun h => by cases h), start _ (fin _ ?_)⟩
                            simp only [long_true, Option.bind_some]
                            exact j2_long _ _ _ _ _ _ _ _
                          | false =>
                            have ho' : o' = false := by
                              cases o' with
                              | false => rfl
                              | true => exact (hG _ _ _ _ _ hr2 rfl).symm
                            obtain ⟨rfl, ru, lu, nu⟩ := h6 ho'
                            obtain ⟨rfl, rv, lv, nv⟩ := g3 rfl
                            have hsum : wrap64 (wrap64 (2 * ((B u).size : Int)) + wrap64 (2 * ((B v).size : Int))) = ((2 * (u.length + v.length) : Nat) : Int) := by
                              rw [size_B, size_B, w64 (2 * (u.length : Int)) (by omega) (by omega), w64 (2 * (v.length : Int)) (by omega) (by omega), w64 _ (by omega) (by omega)]
                              omega
                            rw [hsum] at fin
                            simp only [long_eq, Option.bind_some] at fin
                            by_cases hov : over (2 * (u.length + v.length)) false = true
                            · rw [if_pos hov]
                              rw [hov] at fin
                              exact ⟨B [], m5, g5, (Nat.zero_le _), g6, (fun h => by cases h), start _ (fin _ (j2_long _ _ _ _ _ _ _ _))⟩
                            · rw [if_neg hov]
                              rw [Bool.eq_false_iff.2 hov] at fin
                              have hle : 2 * (u.length + v.length) ≤ 100000 := by
                                have := hov
                                unfold over at this
                                simp at this
                                omega
                              have hlr : (red (u ++ v ++ inv u ++ inv v)).length ≤ 100000 := by
                                have h := red_length (u ++ v ++ inv u ++ inv v)
                                simp only [List.length_append, inv_length] at h
                                omega
                              refine ⟨_, m5, g5, by rw [size_B]; exact hlr, g6, fun _ => ⟨rfl, red_red _, ?_, hlr⟩, start _ (fin _ (j2_value SF u v _ _ _ _ _ lu lv hle))⟩
                              · intro c hc
                                refine red_isL ?_ c hc
                                intro c hc
                                rcases List.mem_append.1 hc with hc | hc
                                · rcases List.mem_append.1 hc with hc | hc
                                  · rcases List.mem_append.1 hc with hc | hc
                                    · exact lu c hc
                                    · exact lv c hc
                                  · exact inv_isL lu c hc
                                · exact inv_isL lv c hc
                      · rw [expect_zero ht3 hz3 (by decide)]
                        exact bad2 hb3
              · simp only [Res.bind]
                rw [expect_zero ht' hz (by decide)]
                exact bad ⟨_, _, _, hr⟩ hb
        · rw [if_neg n3, if_neg (fun x => hl x.2)]
          refine ⟨B [], m, o, hm, (Nat.zero_le _), start _ (ev_some _ _ (fun k => ?_))⟩
          simp only [cayleyref01_Parser_base.j0, Bool.false_eq_true, if_false]
          rw [if_neg n1, if_neg n2, if_neg n3]
          rfl
end Go.Proofs.YthiehmogphknlaaGreatDoor.Laws
namespace Go.Proofs.YthiehmogphknlaaGreatDoor.Laws
open Go.RowKit Go.Proofs.YthiehmogphknlaaGreatDoor.G Go.Proofs.YthiehmogphknlaaGreatDoor.PA Go.Proofs.YthiehmogphknlaaGreatDoor.PT Go.Proofs.YthiehmogphknlaaGreatDoor.PV Go.Proofs.YthiehmogphknlaaGreatDoor.PQ Go.Proofs.YthiehmogphknlaaGreatDoorW.PrintWords Go.Proofs.YthiehmogphknlaaGreatDoor.Free Go.Proofs.YthiehmogphknlaaGreatDoor.Pure1 Go.Proofs.YthiehmogphknlaaGreatDoor.Cyc Go.Proofs.YthiehmogphknlaaGreatDoor.Pow Go.Proofs.YthiehmogphknlaaGreatDoor.Parse
theorem atoi_of_dec (l : List UInt8) (h : 1 ≤ (digs l).length) (v : Nat) (hv : Lib.decFrom 0 (digs l) = some v) : Lib.atoi (digs l) = some (v : Int) := by
  have hall := takeWhile_all isD l
  rw [← digs_eq] at hall
  cases hd : digs l with
  | nil => rw [hd] at h; simp at h
  | cons b r =>
    rw [hd] at hv hall
    have hb := hall b List.mem_cons_self
    unfold isD at hb
    rw [Bool.and_eq_true, decide_eq_true_iff, decide_eq_true_iff] at hb
    have n1 : (b == 45) = false := by rw [beq_eq_false_iff_ne]; rintro rfl; exact absurd hb.1 (by decide)
    have n2 : (b == 43) = false := by rw [beq_eq_false_iff_ne]; rintro rfl; exact absurd hb.1 (by decide)
    simp only [Lib.atoi, n1, n2, Lib.decNat, List.isEmpty_cons, hv]
    rfl
/-- The value of a power. -/
def Val (o : Bool) (x : ByteArray) (v : List UInt8) : Prop := o = false → x = B v ∧ Red v ∧ (∀ c ∈ v, isL c = true) ∧ v.length ≤ 100000
theorem fe_ev (s : List UInt8) (kk : Int) (x : ByteArray) (w : List UInt8) (o : Bool) (hx : Val o x w) (minus : Bool) (v d m : Nat) (hv : v < 10000000) (h1 : 1 ≤ d) (h6 : d ≤ 6) :
    if over (w.length * v) o = true then Ev (fun k => fe k x minus (v : Int) (d : Int) (B s) (m : Int) kk o false) (B [], B s, (m : Int), kk, true, false)
    else o = false ∧ ∃ r, powL w (if minus = true then -(v : Int) else v) = some r ∧ Val o (B r) r ∧ Ev (fun k => fe k x minus (v : Int) (d : Int) (B s) (m : Int) kk o false) (B r, B s, (m : Int), kk, o, false) := by
  have hd : ¬ ((d : Int) < 1 ∨ 6 < (d : Int)) := by omega
  cases o with
  | true =>
    rw [if_pos (show over (w.length * v) true = true from rfl)]
    refine Ev.congr (f := fun _ => some (B [], B s, (m : Int), kk, true, false)) (fun k => ?_) (Ev.now _)
    unfold fe
    rw [if_neg hd, long_true]
    simp only [Option.bind_some, true_or, if_true]
    rfl
  | false =>
    obtain ⟨rfl, hr, hL, hl⟩ := hx rfl
    obtain ⟨p, hp⟩ : ∃ p, w.length * v = p := ⟨_, rfl⟩
    have hpb : p ≤ 1000000000000 := by
      have : w.length * v ≤ 100000 * 10000000 := Nat.mul_le_mul hl (by omega)
      omega
    have hsum : wrap64 ((v : Int) * ((B w).size : Int)) = (p : Int) := by
      have e : (v : Int) * ((B w).size : Int) = (p : Int) := by rw [size_B, ← hp, Int.natCast_mul, Int.mul_comm]
      rw [e]; exact w64 _ (by omega) (by omega)
    have hfe : ∀ k, fe k (B w) minus (v : Int) (d : Int) (B s) (m : Int) kk false false = if over p false = true then some (B [], B s, (m : Int), kk, true, false) else if minus = true then (cayleyref01_Inverse.f k (B w)).bind fun x => (cayleyref01_copies.f k x (v : Int)).bind fun y => (cayleyref01_Reduce.f k y).bind fun z => some (z, B s, (m : Int), kk, false, false)
        else (cayleyref01_copies.f k (B w) (v : Int)).bind fun y => (cayleyref01_Reduce.f k y).bind fun z => some (z, B s, (m : Int), kk, false, false) := by
      intro k
      unfold fe
      rw [if_neg hd, hsum, long_eq]
      simp only [Option.bind_some, Bool.false_eq_true, or_false]
      cases over p false <;> rfl
    rw [hp]
    by_cases hov : over p false = true
    · rw [if_pos hov]
      exact Ev.congr (f := fun _ => some (B [], B s, (m : Int), kk, true, false)) (fun k => by rw [hfe, if_pos hov]) (Ev.now _)
    · rw [if_neg hov]
      have hle : p ≤ 100000 := by
        have := hov
        unfold over at this
        simp at this
        omega
      have hwl : ∀ (y : List UInt8), y.length = w.length → (∀ c ∈ y, isL c = true) → Ev (fun k => (cayleyref01_copies.f k (B y) (v : Int)).bind fun z => (cayleyref01_Reduce.f k z).bind fun z => some (z, B s, (m : Int), kk, false, false)) (B (red (Lib.repeatL y v)), B s, (m : Int), kk, false, false) ∧ (∀ c ∈ red (Lib.repeatL y v), isL c = true) ∧ (red (Lib.repeatL y v)).length ≤ 100000 := by
        intro y hy hyL
        have hrl : (Lib.repeatL y v).length = p := by rw [rep_len, hy, Nat.mul_comm, hp]
        have hmem : ∀ k, ∀ c ∈ Lib.repeatL y k, isL c = true := by
          intro k
          induction k with
          | zero => intro c hc; cases hc
          | succ k ih =>
            intro c hc
            rw [rep_succ] at hc
            rcases List.mem_append.1 hc with hc | hc
            · exact hyL c hc
            · exact ih c hc
        have wr : Wd (B (Lib.repeatL y v)) := ⟨by rw [size_B, hrl]; exact hle, by rw [L_B]; exact hmem v⟩
        have h1 := copies_ev y v (by omega) (by rw [hy, hp]; omega)
        have h2 := rReduce_ev (B (Lib.repeatL y v)) (by rw [size_B, hrl]; omega)
        rw [if_pos wr, L_B] at h2
        refine ⟨Ev.bind h1 (Ev.bind h2 (Ev.now _)), red_isL (hmem v), ?_⟩
        have := red_length (Lib.repeatL y v)
        omega
      refine ⟨rfl, ?_⟩
      have hpow := pow_value w hr (if minus = true then -(v : Int) else v) (by
        have e : (if minus = true then -(v : Int) else (v : Int)).natAbs = v := by split <;> omega
        rw [e, hp]; exact hle)
      have e : (if minus = true then -(v : Int) else (v : Int)).natAbs = v := by split <;> omega
      rw [e] at hpow
      refine ⟨_, hpow, ?_⟩
      cases minus with
      | true =>
        simp only [if_true]
        have hiw : Wd (B w) := ⟨by rw [size_B]; exact hl, hL⟩
        have hi := rInverse_ev (B w) (by rw [size_B]; omega)
        rw [if_pos hiw, L_B] at hi
        obtain ⟨g1, g2, g3⟩ := hwl (inv w) (inv_length w) (inv_isL hL)
        have hsame : Lib.repeatL (if -(v : Int) < 0 then inv w else w) v = Lib.repeatL (inv w) v := by
          by_cases h0 : v = 0
          · subst h0; rfl
          · rw [if_pos (by omega)]
        rw [hsame]
        refine ⟨fun _ => ⟨rfl, red_red _, g2, g3⟩, ?_⟩
        refine Ev.congr (f := fun k => (cayleyref01_Inverse.f k (B w)).bind fun x => (cayleyref01_copies.f k x (v : Int)).bind fun y => (cayleyref01_Reduce.f k y).bind fun z => some (z, B s, (m : Int), kk, false, false)) (fun k => by rw [hfe, if_neg hov]; rfl) (Ev.bind hi g1)
      | false =>
        simp only [Bool.false_eq_true, if_false]
        obtain ⟨g1, g2, g3⟩ := hwl w rfl hL
        have hsame : (if (v : Int) < 0 then inv w else w) = w := if_neg (by omega)
        rw [hsame]
        refine ⟨fun _ => ⟨rfl, red_red _, g2, g3⟩, ?_⟩
        exact Ev.congr (fun k => by rw [hfe, if_neg hov]; rfl) g1
theorem fe_bad (s : List UInt8) (kk : Int) (x : ByteArray) (o : Bool) (minus : Bool) (v : Int) (d m : Nat) (h : d < 1 ∨ 6 < d) :
    Ev (fun k => fe k x minus v (d : Int) (B s) (m : Int) kk o false) (B [], B s, (m : Int), kk, o, true) := by
  refine Ev.congr (f := fun _ => some (B [], B s, (m : Int), kk, o, true)) (fun k => ?_) (Ev.now _)
  unfold fe
  rw [if_pos (by omega)]
  rfl
/-- What a power answers, by the program's parser. -/
def powP (w : List UInt8) (o : Bool) (n : Int) : List UInt8 × Bool := if over (w.length * n.natAbs) o = true then ([], true) else match powL w n with | none => ([], o) | some r => (r, o)
theorem ft_ev (s : List UInt8) (hs : s.length ≤ 140737488355328) (kk : Int) (x : ByteArray) (w : List UInt8) (o : Bool) (hx : Val o x w) (minus : Bool) (q : Nat) (hq : q ≤ s.length) :
    if (digs (trimL (s.drop q))).length < 1 ∨ 6 < (digs (trimL (s.drop q))).length then BadR s kk (fun k => ft k x minus (B s) (q : Int) kk o false)
    else ∃ (v : Nat), Lib.atoi (digs (trimL (s.drop q))) = some (v : Int) ∧
      FineR s kk (fun k => ft k x minus (B s) (q : Int) kk o false) (powP w o (if minus = true then -(v : Int) else v)).1 ((trimL (s.drop q)).drop (digs (trimL (s.drop q))).length) (powP w o (if minus = true then -(v : Int) else v)).2 := by
  obtain ⟨q2, h1, h2, h3, h4⟩ := next_ev s hs kk o false (s.length - q) q (by omega)
  rw [← h3]
  obtain ⟨D, hD⟩ : ∃ D, (digs (s.drop q2)).length = D := ⟨_, rfl⟩
  obtain ⟨v, hv, hfl, hdec⟩ := fl_ev s hs D q2 0 0 hD h2 (by omega) (by unfold P10; decide)
  rw [Nat.zero_add] at hfl hdec
  have hDle : q2 + D ≤ s.length := by
    have h := List.takeWhile_sublist (l := s.drop q2) isD
    have h' := h.length_le
    rw [← digs_eq, hD, List.length_drop] at h'
    omega
  have hstart : ∀ {r}, Ev (fun k => fe k x minus (v : Int) ((min 7 D : Nat) : Int) (B s) ((q2 + D : Nat) : Int) kk o false) r → Ev (fun k => ft k x minus (B s) (q : Int) kk o false) r := by
    intro r hr
    unfold ft
    refine Ev.bind h4 ?_
    have hneg : ¬ ((q2 : Int) < 0) := by omega
    simp only [if_neg hneg]
    refine Ev.bind hfl ?_
    exact hr
  rw [hD]
  by_cases hb : D < 1 ∨ 6 < D
  · rw [if_pos hb]
    exact ⟨B [], q2 + D, o, hDle, (Nat.zero_le _), hstart (fe_bad s kk x o minus v (min 7 D) (q2 + D) (by omega))⟩
  · rw [if_neg hb]
    have hat := atoi_of_dec (s.drop q2) (by rw [hD]; omega) v (hdec (by omega))
    have hmin : min 7 D = D := by omega
    rw [hmin] at hstart
    refine ⟨v, hat, ?_⟩
    have hfe := fe_ev s kk x w o hx minus v D (q2 + D) hv (by omega) (by omega)
    have hna : (if minus = true then -(v : Int) else (v : Int)).natAbs = v := by split <;> omega
    have hdrop : s.drop (q2 + D) = (s.drop q2).drop D := by rw [List.drop_drop]
    unfold powP
    rw [hna]
    by_cases hov : over (w.length * v) o = true
    · rw [if_pos hov] at hfe ⊢
      exact ⟨B [], q2 + D, hDle, (Nat.zero_le _), hdrop, (fun h => by cases h), hstart hfe⟩
    · rw [if_neg hov] at hfe ⊢
      obtain ⟨rfl, r, hr, hval, hev⟩ := hfe
      rw [hr]
      exact ⟨B r, q2 + D, hDle, by rw [size_B]; exact (hval rfl).2.2.2, hdrop, hval, hstart hev⟩
theorem fm_ev (s : List UInt8) (hs : s.length ≤ 140737488355328) (kk : Int) (x : ByteArray) (w : List UInt8) (o : Bool) (hx : Val o x w) (p : Nat) (hp : p ≤ s.length) :
    match expoP (s.drop p) with
    | none => BadR s kk (fun k => fm k x (B s) (p : Int) kk o false)
    | some (n, l') => FineR s kk (fun k => fm k x (B s) (p : Int) kk o false) (powP w o n).1 l' (powP w o n).2 := by
  obtain ⟨m, h1, h2, h3, h4⟩ := next_ev s hs kk o false (s.length - p) p (by omega)
  have htm : trimL (s.drop m) = s.drop m := by rw [h3, trim_trim]
  by_cases hc : hdC (s.drop m) = 45
  · have hexp : expectP 45 (s.drop m) = some (s.drop m).tail := by
      have := expect_at (l := s.drop m) (c := 45) (by rw [htm]; exact hc) (by decide)
      rwa [htm] at this
    have htk := close_ev s hs kk 45 (by decide) m h2 o
    rw [hexp] at htk
    obtain ⟨q, g1, g2, g3⟩ := htk
    have hft := ft_ev s hs kk x w o hx true q g1
    have hstart : ∀ {r}, Ev (fun k => ft k x true (B s) (q : Int) kk o false) r → Ev (fun k => fm k x (B s) (p : Int) kk o false) r := by
      intro r hr
      unfold fm
      refine Ev.bind h4 ?_
      simp only [if_pos hc]
      refine Ev.bind g3 ?_
      exact hr
    have hex : expoP (s.drop p) = if (digs (trimL (s.drop q))).length < 1 ∨ 6 < (digs (trimL (s.drop q))).length then none else some (-((Lib.atoi (digs (trimL (s.drop q)))).getD 0), (trimL (s.drop q)).drop (digs (trimL (s.drop q))).length) := by
      unfold expoP
      dsimp only
      rw [← h3]
      simp only [if_pos hc, ← g2]
    rw [hex]
    by_cases hb : (digs (trimL (s.drop q))).length < 1 ∨ 6 < (digs (trimL (s.drop q))).length
    · rw [if_pos hb] at hft ⊢
      obtain ⟨y, m', Lo, a1, ay, a2⟩ := hft
      exact ⟨y, m', Lo, a1, ay, hstart a2⟩
    · rw [if_neg hb] at hft ⊢
      obtain ⟨v, hv, y, m', a1, ay, a2, a3, a4⟩ := hft
      rw [hv]
      exact ⟨y, m', a1, ay, a2, a3, hstart a4⟩
  · have hft := ft_ev s hs kk x w o hx false m h2
    rw [htm] at hft
    have hstart : ∀ {r}, Ev (fun k => ft k x false (B s) (m : Int) kk o false) r → Ev (fun k => fm k x (B s) (p : Int) kk o false) r := by
      intro r hr
      unfold fm
      refine Ev.bind h4 ?_
      simp only [if_neg hc]
      exact hr
    have hex : expoP (s.drop p) = if (digs (s.drop m)).length < 1 ∨ 6 < (digs (s.drop m)).length then none else some ((Lib.atoi (digs (s.drop m))).getD 0, (s.drop m).drop (digs (s.drop m)).length) := by
      unfold expoP
      dsimp only
      rw [← h3]
      simp only [if_neg hc, htm]
    rw [hex]
    by_cases hb : (digs (s.drop m)).length < 1 ∨ 6 < (digs (s.drop m)).length
    · rw [if_pos hb] at hft ⊢
      obtain ⟨y, m', Lo, a1, ay, a2⟩ := hft
      exact ⟨y, m', Lo, a1, ay, hstart a2⟩
    · rw [if_neg hb] at hft ⊢
      obtain ⟨v, hv, y, m', a1, ay, a2, a3, a4⟩ := hft
      rw [hv]
      exact ⟨y, m', a1, ay, a2, a3, hstart a4⟩
theorem factor_rel (s : List UInt8) (hs : s.length ≤ 140737488355328) (kk : Int) (BF : RF) (base : List UInt8 → Bool → Res (List UInt8)) (d : Int) (hB : Rel s kk base (fun p o k => BF k (B s) (p : Int) kk o false d)) :
    Rel s kk (factorP base) (fun p o k => cayleyref01_Parser_factor.f BF k (B s) (p : Int) kk o false d) := by
  intro p o hp
  have h := hB p o hp
  unfold factorP
  cases hb : base (s.drop p) o with
  | none => trivial
  | some r1 =>
    rw [hb] at h
    cases r1 with
    | none =>
      obtain ⟨x, m, Lo, h1, hx, h2⟩ := h
      refine ⟨x, m, Lo, h1, hx, ?_⟩
      unfold cayleyref01_Parser_factor.f
      refine Ev.bind h2 ?_
      simp only [if_true, fp]
      exact Ev.now _
    | some q =>
      obtain ⟨w, l', o'⟩ := q
      obtain ⟨x, m, h1, hx, h2, h3, h4⟩ := h
      simp only [Res.bind]
      obtain ⟨m2, g1, g2, g3, g4⟩ := next_ev s hs kk o' false (s.length - m) m (by omega)
      rw [h2] at g3
      rw [← g3]
      have hstart : ∀ {r}, Ev (fun k => fp (hdC (s.drop m2) != 94 || decide (((B s).size : Int) ≤ (m2 : Int))) k x (B s) (m2 : Int) kk o' false) r → Ev (fun k => cayleyref01_Parser_factor.f BF k (B s) (p : Int) kk o false d) r := by
        intro r hr
        unfold cayleyref01_Parser_factor.f
        refine Ev.bind h4 ?_
        simp only [Bool.false_eq_true, if_false]
        refine Ev.bind g4 ?_
        exact hr
      by_cases hc : hdC (s.drop m2) ≠ 94
      · rw [if_pos hc]
        refine ⟨x, m2, g2, hx, rfl, h3, hstart ?_⟩
        have e : (hdC (s.drop m2) != 94 || decide (((B s).size : Int) ≤ (m2 : Int))) = true := by rw [bne_iff_ne.2 hc, Bool.true_or]
        rw [e]
        unfold fp
        simp only [if_true]
        exact Ev.now _
      · rw [if_neg hc]
        have hc' : hdC (s.drop m2) = 94 := Classical.not_not.1 hc
        have hlt : m2 < s.length := by
          by_cases hq : m2 < s.length
          · exact hq
          · rw [drop_len s m2 (by omega)] at hc'
            exact absurd hc' (by decide)
        have htm : trimL (s.drop m2) = s.drop m2 := by rw [g3, trim_trim]
        have hexp : expectP 94 (s.drop m2) = some (s.drop m2).tail := by
          have := expect_at (l := s.drop m2) (c := 94) (by rw [htm]; exact hc') (by decide)
          rwa [htm] at this
        have htk := close_ev s hs kk 94 (by decide) m2 g2 o'
        rw [hexp] at htk
        obtain ⟨m3, a1, a2, a3⟩ := htk
        have hfm := fm_ev s hs kk x w o' h3 m3 a1
        have e : (hdC (s.drop m2) != 94 || decide (((B s).size : Int) ≤ (m2 : Int))) = false := by
          rw [hc', decide_eq_false (by rw [size_B]; omega)]; rfl
        have hst2 : ∀ {r}, Ev (fun k => fm k x (B s) (m3 : Int) kk o' false) r → Ev (fun k => cayleyref01_Parser_factor.f BF k (B s) (p : Int) kk o false d) r := by
          intro r hr
          refine hstart ?_
          rw [e]
          unfold fp
          simp only [Bool.false_eq_true, if_false]
          refine Ev.bind a3 ?_
          exact hr
        rw [← a2]
        cases he : expoP (s.drop m3) with
        | none =>
          rw [he] at hfm
          obtain ⟨y, m', Lo, b1, bx, b2⟩ := hfm
          exact ⟨y, m', Lo, b1, bx, hst2 b2⟩
        | some q2 =>
          obtain ⟨n, l4⟩ := q2
          rw [he] at hfm
          obtain ⟨y, m', b1, bx, b2, b3, b4⟩ := hfm
          dsimp only
          unfold powP at b3 b4
          by_cases hov : over (w.length * n.natAbs) o' = true
          · rw [if_pos hov] at b3 b4 ⊢
            exact ⟨y, m', b1, bx, b2, b3, hst2 b4⟩
          · rw [if_neg hov] at b3 b4 ⊢
            cases hpw : powL w n with
            | none => rw [hpw] at b3 b4; exact ⟨y, m', b1, bx, b2, b3, hst2 b4⟩
            | some r => rw [hpw] at b3 b4; exact ⟨y, m', b1, bx, b2, b3, hst2 b4⟩
end Go.Proofs.YthiehmogphknlaaGreatDoor.Laws
namespace Go.Proofs.YthiehmogphknlaaGreatDoor.Laws
open Go.RowKit Go.Proofs.YthiehmogphknlaaGreatDoor.G Go.Proofs.YthiehmogphknlaaGreatDoor.PA Go.Proofs.YthiehmogphknlaaGreatDoor.PT Go.Proofs.YthiehmogphknlaaGreatDoor.PV Go.Proofs.YthiehmogphknlaaGreatDoor.PQ Go.Proofs.YthiehmogphknlaaGreatDoorW.PrintWords Go.Proofs.YthiehmogphknlaaGreatDoor.Free Go.Proofs.YthiehmogphknlaaGreatDoor.Pure1 Go.Proofs.YthiehmogphknlaaGreatDoor.Cyc Go.Proofs.YthiehmogphknlaaGreatDoor.Pow Go.Proofs.YthiehmogphknlaaGreatDoor.Parse
theorem base_trim (sum : Int → List UInt8 → Bool → Res (List UInt8)) (k d : Int) (l : List UInt8) (o : Bool) : baseP sum k d (trimL l) o = baseP sum k d l o := by
  unfold baseP
  rw [trim_trim]
theorem factor_trim (sum : Int → List UInt8 → Bool → Res (List UInt8)) (k d : Int) (l : List UInt8) (o : Bool) : factorP (baseP sum k d) (trimL l) o = factorP (baseP sum k d) l o := by
  unfold factorP
  rw [base_trim]
/-- Where a sum ends there is no factor. -/
theorem factor_stop (sum : Int → List UInt8 → Bool → Res (List UInt8)) (k d : Int) (l : List UInt8) (o : Bool) (h : stopC (hdC (trimL l)) = true) : factorP (baseP sum k d) l o = some none := by
  obtain ⟨c, hc⟩ : ∃ c, hdC (trimL l) = c := ⟨_, rfl⟩
  rw [hc] at h
  have hcc : c = 0 ∨ c = 41 ∨ c = 93 ∨ c = 44 := by
    unfold stopC at h
    simp only [Bool.or_eq_true, beq_iff_eq] at h
    omega
  have hb : baseP sum k d l o = some none := by
    unfold baseP
    dsimp only
    rw [hc]
    rcases hcc with rfl | rfl | rfl | rfl
    · rw [if_neg (by decide), if_neg (by decide), if_neg (by decide), if_neg (fun x => absurd x.2.1 (by decide))]
    · rw [if_neg (by decide), if_neg (by decide), if_neg (by decide), if_neg (fun x => absurd x.2.1 (by decide))]
    · rw [if_neg (by decide), if_neg (by decide), if_neg (by decide), if_neg (fun x => absurd x.2.1 (by decide))]
    · rw [if_neg (by decide), if_neg (by decide), if_neg (by decide), if_neg (fun x => absurd x.2.1 (by decide))]
  unfold factorP
  rw [hb]
  rfl
section
variable (FF : RF) (s : List UInt8) (kk d : Int)
/-- The loop's head: what stands next. -/
theorem sum_head (x5 : ByteArray) (x6 : Int) (p m : Nat) (o : Bool) (hm : m ≤ s.length) (hnx : Ev (fun k => cayleyref01_Parser_next.f k (B s) (p : Int) kk o false) (hdC (s.drop m), B s, (m : Int), kk, o, false)) (t : Bool)
    (ht : t = (stopC (hdC (s.drop m)) && (!(hdC (s.drop m) == 0) || decide (s.length ≤ m)))) {r : ByteArray × St} (hr : Ev (fun k => cayleyref01_Parser_sum.j1 FF k d x5 x6 t (B s) (m : Int) kk o false) r) :
    Ev (fun k => cayleyref01_Parser_sum.l0 FF k d x5 x6 (B s) (p : Int) kk o false) r := by
  obtain ⟨c, hc⟩ : ∃ c, hdC (s.drop m) = c := ⟨_, rfl⟩
  rw [hc] at hnx ht
  have hj : ∀ (b : Bool), b = t → Ev (fun k => cayleyref01_Parser_sum.j1 FF k d x5 x6 b (B s) (m : Int) kk o false) r := fun b hb => hb ▸ hr
  refine Ev.step (f := fun k => (cayleyref01_Parser_next.f k (B s) (p : Int) kk o false).bind fun bt101 => (if bt101.1 = 0 then (if bt101.2.2.1 ≥ (bt101.2.1.size : Int) then (cayleyref01_Parser_sum.j1 FF k d x5 x6 true bt101.2.1 bt101.2.2.1 bt101.2.2.2.1 bt101.2.2.2.2.1 bt101.2.2.2.2.2) else (if bt101.1 = 41 then (cayleyref01_Parser_sum.j1 FF k d x5 x6 true bt101.2.1 bt101.2.2.1 bt101.2.2.2.1 bt101.2.2.2.2.1 bt101.2.2.2.2.2) else (if bt101.1 = 93 then (cayleyref01_Parser_sum.j1 FF k d x5 x6 true bt101.2.1 bt101.2.2.1 bt101.2.2.2.1 bt101.2.2.2.2.1 bt101.2.2.2.2.2) else (cayleyref01_Parser_sum.j1 FF k d x5 x6 (bt101.1 == 44) bt101.2.1 bt101.2.2.1 bt101.2.2.2.1 bt101.2.2.2.2.1 bt101.2.2.2.2.2)))) else (if bt101.1 = 41 then (cayleyref01_Parser_sum.j1 FF k d x5 x6 true bt101.2.1 bt101.2.2.1 bt101.2.2.2.1 bt101.2.2.2.2.1 bt101.2.2.2.2.2) else (if bt101.1 = 93 then (cayleyref01_Parser_sum.j1 FF k d x5 x6 true bt101.2.1 bt101.2.2.1 bt101.2.2.2.1 bt101.2.2.2.2.1 bt101.2.2.2.2.2) else (cayleyref01_Parser_sum.j1 FF k d x5 x6 (bt101.1 == 44) bt101.2.1 bt101.2.2.1 bt101.2.2.2.1 bt101.2.2.2.2.1 bt101.2.2.2.2.2))))) (fun k => by simp only [cayleyref01_Parser_sum.l0, Bool.false_eq_true, if_false]) ?_
  refine Ev.bind hnx ?_
  dsimp only
  have stop : ∀ c : Int, stopC c = (c == 0 || c == 41 || c == 93 || c == 44) := fun _ => rfl
  by_cases h0 : c = 0
  · subst h0
    simp only [if_true]
    by_cases hl : s.length ≤ m
    · have e : (m : Int) ≥ ((B s).size : Int) := by rw [size_B]; omega
      simp only [if_pos e]
      refine hj true ?_
      rw [ht, decide_eq_true hl]; rfl
    · have e : ¬ (m : Int) ≥ ((B s).size : Int) := by rw [size_B]; omega
      have n1 : ¬ (0 : Int) = 41 := by decide
      have n2 : ¬ (0 : Int) = 93 := by decide
      simp only [if_neg e, if_neg n1, if_neg n2]
      refine hj _ ?_
      rw [ht, decide_eq_false hl]; rfl
  · simp only [if_neg h0]
    have e0 : (c == 0) = false := beq_eq_false_iff_ne.2 h0
    by_cases h1 : c = 41
    · subst h1
      simp only [if_true]
      exact hj true (by rw [ht]; rfl)
    · simp only [if_neg h1]
      have e1 : (c == 41) = false := beq_eq_false_iff_ne.2 h1
      by_cases h2 : c = 93
      · subst h2
        simp only [if_true]
        exact hj true (by rw [ht]; rfl)
      · simp only [if_neg h2]
        have e2 : (c == 93) = false := beq_eq_false_iff_ne.2 h2
        refine hj _ ?_
        rw [ht, stop, e0, e1, e2]
        simp
/-- The end. -/
theorem sum_end (x5 : ByteArray) (v : List UInt8) (cnt m : Nat) (o : Bool) (hm : m ≤ s.length) (hc : 1 ≤ cnt) (hx : o = false → x5 = B v ∧ (∀ c ∈ v, isL c = true) ∧ v.length ≤ 100000) :
    FineR s kk (fun k => cayleyref01_Parser_sum.j1 FF k d x5 (cnt : Int) true (B s) (m : Int) kk o false) (red v) (s.drop m) o := by
  have hj1 : ∀ {r}, Ev (fun k => cayleyref01_Parser_sum.j2 FF k x5 (cnt : Int) (B s) (m : Int) kk o false) r → Ev (fun k => cayleyref01_Parser_sum.j1 FF k d x5 (cnt : Int) true (B s) (m : Int) kk o false) r := fun hr => Ev.step (fun k => by simp only [cayleyref01_Parser_sum.j1, if_true]) hr
  have hne : ¬ (cnt : Int) = 0 := by omega
  cases o with
  | true =>
    refine ⟨B [], m, hm, (Nat.zero_le _), rfl, (fun h => by cases h), hj1 (ev_some _ _ (fun k => ?_))⟩
    simp only [cayleyref01_Parser_sum.j2, if_neg hne, Bool.false_eq_true, if_false, if_true]
    rfl
  | false =>
    obtain ⟨rfl, hL, hl⟩ := hx rfl
    have wv : Wd (B v) := ⟨by rw [size_B]; exact hl, hL⟩
    have hr := rReduce_ev (B v) (by rw [size_B]; omega)
    rw [if_pos wv, L_B] at hr
    refine ⟨B (red v), m, hm, by rw [size_B]; exact Nat.le_trans (red_length v) hl, rfl, fun _ => ⟨rfl, red_red v, red_isL hL, Nat.le_trans (red_length v) hl⟩, hj1 ?_⟩
    refine Ev.step (f := fun k => (cayleyref01_Reduce.f k (B v)).bind fun t119 => some (t119, B s, (m : Int), kk, false, false)) (fun k => by simp only [cayleyref01_Parser_sum.j2, if_neg hne, Bool.false_eq_true, if_false]) ?_
    exact Ev.bind hr (Ev.now _)
/-- A bad factor ends it. -/
theorem sum_badfac (x5 : ByteArray) (cnt m : Nat) (o : Bool) (hb : BadR s kk (fun k => FF k (B s) (m : Int) kk o false d)) (hc : cnt ≤ 1000000000000000000) (hx5 : x5.size ≤ 100000) :
    BadR s kk (fun k => cayleyref01_Parser_sum.j1 FF k d x5 (cnt : Int) false (B s) (m : Int) kk o false) := by
  obtain ⟨x, m', Lo, h1, hxs, h2⟩ := hb
  have hl : ∀ z : Int, ∃ b Lo', cayleyref01_Parser_long.f (B s) (m' : Int) kk Lo true z = some (b, B s, (m' : Int), kk, Lo', true) := by
    intro z
    unfold cayleyref01_Parser_long.f
    split
    · exact ⟨_, _, rfl⟩
    · exact ⟨_, _, rfl⟩
  obtain ⟨b, Lo', hlong⟩ := hl (wrap64 ((x5.size : Int) + (x.size : Int)))
  have hw : wrap64 ((cnt : Int) + 1) = ((cnt + 1 : Nat) : Int) := w64_succ cnt (by omega)
  have hend : ∀ (y : ByteArray), Ev (fun k => cayleyref01_Parser_sum.l0 FF k d y ((cnt + 1 : Nat) : Int) (B s) (m' : Int) kk Lo' true) (B [], B s, (m' : Int), kk, Lo', true) := by
    intro y
    refine Ev.step (f := fun k => cayleyref01_Parser_sum.j2 FF k y ((cnt + 1 : Nat) : Int) (B s) (m' : Int) kk Lo' true) (fun k => by simp only [cayleyref01_Parser_sum.l0, if_true]) (ev_some _ _ (fun k => ?_))
    have hne : ¬ ((cnt + 1 : Nat) : Int) = 0 := by omega
    simp only [cayleyref01_Parser_sum.j2, if_neg hne, if_true]
    rfl
  refine ⟨B [], m', Lo', h1, (Nat.zero_le _), ?_⟩
  refine Ev.step (f := fun k => (FF k (B s) (m : Int) kk o false d).bind fun bt107 => ((cayleyref01_Parser_long.f bt107.2.1 bt107.2.2.1 bt107.2.2.2.1 bt107.2.2.2.2.1 bt107.2.2.2.2.2 (wrap64 ((x5.size : Int) + (bt107.1.size : Int)))).bind fun bt113 => (if bt113.1 = true then (cayleyref01_Parser_sum.l0 FF k d x5 ((cnt + 1 : Nat) : Int) bt113.2.1 bt113.2.2.1 bt113.2.2.2.1 bt113.2.2.2.2.1 bt113.2.2.2.2.2) else (if x5.size + bt107.1.size ≤ 9223372036854775807 then (cayleyref01_Parser_sum.l0 FF k d (x5 ++ bt107.1) ((cnt + 1 : Nat) : Int) bt113.2.1 bt113.2.2.1 bt113.2.2.2.1 bt113.2.2.2.2.1 bt113.2.2.2.2.2) else (none))))) (fun k => by simp only [cayleyref01_Parser_sum.j1, Bool.false_eq_true, if_false, hw]) ?_
  refine Ev.bind h2 ?_
  dsimp only
  rw [hlong]
  simp only [Option.bind_some]
  cases b with
  | true =>
    simp only [if_true]
    exact hend x5
  | false =>
    have hz : x5.size + x.size ≤ 9223372036854775807 := by omega
    simp only [Bool.false_eq_true, if_false, if_pos hz]
    exact hend (x5 ++ x)
/-- A factor is read: the next round. -/
theorem sum_fac (x5 x : ByteArray) (cnt m m' : Nat) (o o1 : Bool) (hc : cnt ≤ 1000000000000000000) (hx5 : x5.size ≤ 100000) (hx : x.size ≤ 100000)
    (hF : Ev (fun k => FF k (B s) (m : Int) kk o false d) (x, B s, (m' : Int), kk, o1, false)) {r : ByteArray × St}
    (hr : Ev (fun k => cayleyref01_Parser_sum.l0 FF k d (if over (x5.size + x.size) o1 = true then x5 else x5 ++ x) ((cnt + 1 : Nat) : Int) (B s) (m' : Int) kk (over (x5.size + x.size) o1) false) r) :
    Ev (fun k => cayleyref01_Parser_sum.j1 FF k d x5 (cnt : Int) false (B s) (m : Int) kk o false) r := by
  have hw : wrap64 ((cnt : Int) + 1) = ((cnt + 1 : Nat) : Int) := w64_succ cnt (by omega)
  have hs : wrap64 ((x5.size : Int) + (x.size : Int)) = ((x5.size + x.size : Nat) : Int) := by rw [w64 _ (by omega) (by omega)]; omega
  have hz : x5.size + x.size ≤ 9223372036854775807 := by omega
  refine Ev.step (f := fun k => (FF k (B s) (m : Int) kk o false d).bind fun bt107 => ((cayleyref01_Parser_long.f bt107.2.1 bt107.2.2.1 bt107.2.2.2.1 bt107.2.2.2.2.1 bt107.2.2.2.2.2 (wrap64 ((x5.size : Int) + (bt107.1.size : Int)))).bind fun bt113 => (if bt113.1 = true then (cayleyref01_Parser_sum.l0 FF k d x5 ((cnt + 1 : Nat) : Int) bt113.2.1 bt113.2.2.1 bt113.2.2.2.1 bt113.2.2.2.2.1 bt113.2.2.2.2.2) else (if x5.size + bt107.1.size ≤ 9223372036854775807 then (cayleyref01_Parser_sum.l0 FF k d (x5 ++ bt107.1) ((cnt + 1 : Nat) : Int) bt113.2.1 bt113.2.2.1 bt113.2.2.2.1 bt113.2.2.2.2.1 bt113.2.2.2.2.2) else (none))))) (fun k => by simp only [cayleyref01_Parser_sum.j1, Bool.false_eq_true, if_false, hw]) ?_
  refine Ev.bind hF ?_
  dsimp only
  rw [hs, long_eq]
  simp only [Option.bind_some]
  by_cases ho : over (x5.size + x.size) o1 = true
  · simp only [if_pos ho] at hr ⊢
    exact hr
  · simp only [if_neg ho, if_pos hz] at hr ⊢
    exact hr
theorem stop_flag (c : Int) (l m : Nat) : (stopC c && (!(c == 0) || decide (l ≤ m))) = true ↔ stopC c = true ∧ (c ≠ 0 ∨ l ≤ m) := by
  rw [Bool.and_eq_true, Bool.or_eq_true, decide_eq_true_iff, Bool.not_eq_true', beq_eq_false_iff_ne]
theorem loop_rel (hs : s.length ≤ 140737488355328) (sum : Int → List UInt8 → Bool → Res (List UInt8)) (kb db : Int) (hF : Rel s kk (factorP (baseP sum kb db)) (fun p o k => FF k (B s) (p : Int) kk o false d))
    (hG : Parse.Good (factorP (baseP sum kb db))) : ∀ (f : Nat) (ws : List (List UInt8)) (n p : Nat) (o : Bool) (x5 : ByteArray) (cnt : Nat), p ≤ s.length → 1 ≤ cnt → cnt + f ≤ 1000000000000000000 → ws.flatten.length = n → n ≤ 100000 → x5.size ≤ 100000 →
      (o = false → x5 = B ws.flatten ∧ ∀ c ∈ ws.flatten, isL c = true) →
      match loopP (factorP (baseP sum kb db)) f ws n (trimL (s.drop p)) o with
      | none => True
      | some none => BadR s kk (fun k => cayleyref01_Parser_sum.l0 FF k d x5 (cnt : Int) (B s) (p : Int) kk o false)
      | some (some (v, l', o')) => trimL l' = l' ∧ (FineR s kk (fun k => cayleyref01_Parser_sum.l0 FF k d x5 (cnt : Int) (B s) (p : Int) kk o false) v l' o' ∨ (hdC l' = 0 ∧ l' ≠ [] ∧ BadR s kk (fun k => cayleyref01_Parser_sum.l0 FF k d x5 (cnt : Int) (B s) (p : Int) kk o false))) := by
  intro f
  induction f with
  | zero => intro ws n p o x5 cnt _ _ _ _ _ _ _; trivial
  | succ f ih =>
    intro ws n p o x5 cnt hp hc hcf hn hn2 hx5 hval
    obtain ⟨m, h1, h2, h3, h4⟩ := next_ev s hs kk o false (s.length - p) p (by omega)
    have htm : trimL (s.drop m) = s.drop m := by rw [h3, trim_trim]
    have head := fun t ht r hr => sum_head FF s kk d x5 (cnt : Int) p m o h2 h4 t ht (r := r) hr
    rw [← h3]
    show match (if stopC (hdC (s.drop m)) = true then some (some (red ws.flatten, s.drop m, o)) else (factorP (baseP sum kb db) (s.drop m) o).bind fun w l o => if over (n + w.length) o = true then loopP (factorP (baseP sum kb db)) f [] 0 (trimL l) true else loopP (factorP (baseP sum kb db)) f (ws ++ [w]) (n + w.length) (trimL l) o) with
      | none => True
      | some none => BadR s kk (fun k => cayleyref01_Parser_sum.l0 FF k d x5 (cnt : Int) (B s) (p : Int) kk o false)
      | some (some (v, l', o')) => trimL l' = l' ∧ (FineR s kk (fun k => cayleyref01_Parser_sum.l0 FF k d x5 (cnt : Int) (B s) (p : Int) kk o false) v l' o' ∨ (hdC l' = 0 ∧ l' ≠ [] ∧ BadR s kk (fun k => cayleyref01_Parser_sum.l0 FF k d x5 (cnt : Int) (B s) (p : Int) kk o false)))
    have hFm := hF m o h2
    have badfac : (stopC (hdC (s.drop m)) && (!(hdC (s.drop m) == 0) || decide (s.length ≤ m))) = false → BadR s kk (fun k => FF k (B s) (m : Int) kk o false d) → BadR s kk (fun k => cayleyref01_Parser_sum.l0 FF k d x5 (cnt : Int) (B s) (p : Int) kk o false) := by
      intro ht hb
      obtain ⟨y, m', Lo, a1, a2, a3⟩ := sum_badfac FF s kk d x5 cnt m o hb (by omega) hx5
      exact ⟨y, m', Lo, a1, a2, head false ht.symm _ a3⟩
    by_cases hst : stopC (hdC (s.drop m)) = true
    · rw [if_pos hst]
      refine ⟨htm, ?_⟩
      by_cases hz : hdC (s.drop m) ≠ 0 ∨ s.length ≤ m
      · left
        obtain ⟨y, m', a1, a2, a3, a4, a5⟩ := sum_end FF s kk d x5 ws.flatten cnt m o h2 hc (fun ho => ⟨(hval ho).1, (hval ho).2, by omega⟩)
        exact ⟨y, m', a1, a2, a3, a4, head true ((stop_flag _ _ _).2 ⟨hst, hz⟩).symm _ a5⟩
      · right
        have hz0 : hdC (s.drop m) = 0 := Classical.byContradiction fun h => hz (.inl h)
        have hzl : ¬ s.length ≤ m := fun h => hz (.inr h)
        have hfb := factor_stop sum kb db (s.drop m) o (by rw [htm]; exact hst)
        rw [hfb] at hFm
        refine ⟨hz0, ?_, badfac ?_ hFm⟩
        · intro e
          have := congrArg List.length e
          rw [List.length_drop, List.length_nil] at this
          omega
        · exact Bool.eq_false_iff.2 (fun h => hz ((stop_flag _ _ _).1 h).2)
    · rw [if_neg hst]
      have ht : (stopC (hdC (s.drop m)) && (!(hdC (s.drop m) == 0) || decide (s.length ≤ m))) = false := by rw [Bool.eq_false_iff.2 hst]; rfl
      cases hf : factorP (baseP sum kb db) (s.drop m) o with
      | none => trivial
      | some r1 =>
        rw [hf] at hFm
        cases r1 with
        | none => exact badfac ht hFm
        | some q =>
          obtain ⟨w, l1, o1⟩ := q
          obtain ⟨x, m1, a1, a2, a3, a4, a5⟩ := hFm
          have g := hG _ _ _ _ _ hf
          simp only [Res.bind]
          rw [← a3]
          have step := fun r hr => head false ht.symm r (sum_fac FF s kk d x5 x cnt m m1 o o1 (by omega) hx5 a2 a5 hr)
          by_cases hov : over (n + w.length) o1 = true
          · rw [if_pos hov]
            have hov2 : over (x5.size + x.size) o1 = true := by
              cases o1 with
              | true => rfl
              | false =>
                have ho : o = false := by
                  cases o with
                  | false => rfl
                  | true => exact (g.2.2 rfl).symm
                obtain ⟨rfl, _⟩ := a4 rfl
                obtain ⟨rfl, _⟩ := hval ho
                rw [size_B, size_B, hn]; exact hov
            rw [hov2] at step
            simp only [if_true] at step
            have := ih [] 0 m1 true x5 (cnt + 1) a1 (by omega) (by omega) rfl (by omega) hx5 (fun h => by cases h)
            revert this
            cases loopP (factorP (baseP sum kb db)) f [] 0 (trimL (s.drop m1)) true with
            | none => intro _; trivial
            | some r2 =>
              cases r2 with
              | none => rintro ⟨y, m', Lo, b1, b2, b3⟩; exact ⟨y, m', Lo, b1, b2, step _ b3⟩
              | some q2 =>
                obtain ⟨v, l', o'⟩ := q2
                rintro ⟨b0, ⟨y, m', b1, b2, b3, b4, b5⟩ | ⟨c1, c2, y, m', Lo, b1, b2, b3⟩⟩
                · exact ⟨b0, .inl ⟨y, m', b1, b2, b3, b4, step _ b5⟩⟩
                · exact ⟨b0, .inr ⟨c1, c2, y, m', Lo, b1, b2, step _ b3⟩⟩
          · rw [if_neg hov]
            have ho1 : o1 = false := by
              cases o1 with
              | false => rfl
              | true => exact absurd rfl hov
            subst ho1
            have ho : o = false := by
              cases o with
              | false => rfl
              | true => exact (g.2.2 rfl).symm
            subst ho
            obtain ⟨rfl, rw', lw, nw⟩ := a4 rfl
            obtain ⟨rfl, lf⟩ := hval rfl
            have hov2 : over ((B ws.flatten).size + (B w).size) false = false := by
              rw [size_B, size_B, hn]; exact Bool.eq_false_iff.2 hov
            rw [hov2] at step
            simp only [Bool.false_eq_true, if_false, B_append] at step
            have hle : n + w.length ≤ 100000 := by
              have := hov
              unfold over at this
              simp at this
              omega
            have hfl : (ws ++ [w]).flatten = ws.flatten ++ w := by simp
            have := ih (ws ++ [w]) (n + w.length) m1 false (B (ws.flatten ++ w)) (cnt + 1) a1 (by omega) (by omega) (by rw [hfl, List.length_append, hn]) hle (by rw [size_B, List.length_append, hn]; exact hle) (fun _ => ⟨by rw [hfl], by
              rw [hfl]
              intro c hc
              exact (List.mem_append.1 hc).elim (lf c) (lw c)⟩)
            revert this
            cases loopP (factorP (baseP sum kb db)) f (ws ++ [w]) (n + w.length) (trimL (s.drop m1)) false with
            | none => intro _; trivial
            | some r2 =>
              cases r2 with
              | none => rintro ⟨y, m', Lo, b1, b2, b3⟩; exact ⟨y, m', Lo, b1, b2, step _ b3⟩
              | some q2 =>
                obtain ⟨v, l', o'⟩ := q2
                rintro ⟨b0, ⟨y, m', b1, b2, b3, b4, b5⟩ | ⟨c1, c2, y, m', Lo, b1, b2, b3⟩⟩
                · exact ⟨b0, .inl ⟨y, m', b1, b2, b3, b4, step _ b5⟩⟩
                · exact ⟨b0, .inr ⟨c1, c2, y, m', Lo, b1, b2, step _ b3⟩⟩
theorem sum_rel (hs : s.length ≤ 140737488355328) (sum : Int → List UInt8 → Bool → Res (List UInt8)) (kb db : Int) (hF : Rel s kk (factorP (baseP sum kb db)) (fun p o k => FF k (B s) (p : Int) kk o false d))
    (hG : Parse.Good (factorP (baseP sum kb db))) (f : Nat) (hf : f ≤ 100000000000000000) : RelS s kk (sumP (factorP (baseP sum kb db)) f) (fun p o k => cayleyref01_Parser_sum.f FF k (B s) (p : Int) kk o false d) := by
  intro p o hp
  obtain ⟨m, h1, h2, h3, h4⟩ := next_ev s hs kk o false (s.length - p) p (by omega)
  have htm : trimL (s.drop m) = s.drop m := by rw [h3, trim_trim]
  have head := fun t ht r hr => sum_head FF s kk d (B []) 0 p m o h2 h4 t ht (r := r) hr
  have hsame : factorP (baseP sum kb db) (s.drop p) o = factorP (baseP sum kb db) (s.drop m) o := by rw [h3, factor_trim]
  have hFm := hF m o h2
  have hcnt : ((0 : Nat) : Int) = (0 : Int) := rfl
  have badfac : (stopC (hdC (s.drop m)) && (!(hdC (s.drop m) == 0) || decide (s.length ≤ m))) = false → BadR s kk (fun k => FF k (B s) (m : Int) kk o false d) → BadR s kk (fun k => cayleyref01_Parser_sum.f FF k (B s) (p : Int) kk o false d) := by
    intro ht hb
    obtain ⟨y, m', Lo, a1, a2, a3⟩ := sum_badfac FF s kk d (B []) 0 m o hb (by omega) (Nat.zero_le _)
    exact ⟨y, m', Lo, a1, a2, head false ht.symm _ a3⟩
  unfold sumP
  rw [hsame]
  by_cases hst : stopC (hdC (s.drop m)) = true
  · have hfb := factor_stop sum kb db (s.drop m) o (by rw [htm]; exact hst)
    rw [hfb] at hFm ⊢
    simp only [Res.bind]
    by_cases hz : hdC (s.drop m) ≠ 0 ∨ s.length ≤ m
    · refine ⟨B [], m, o, h2, Nat.zero_le _, head true ((stop_flag _ _ _).2 ⟨hst, hz⟩).symm _ ?_⟩
      refine Ev.step (f := fun k => cayleyref01_Parser_sum.j2 FF k (B []) 0 (B s) (m : Int) kk o false) (fun k => by simp only [cayleyref01_Parser_sum.j1, if_true]) (ev_some _ _ (fun k => ?_))
      simp only [cayleyref01_Parser_sum.j2, if_true]
      rfl
    · exact badfac (Bool.eq_false_iff.2 (fun h => hz ((stop_flag _ _ _).1 h).2)) hFm
  · have ht : (stopC (hdC (s.drop m)) && (!(hdC (s.drop m) == 0) || decide (s.length ≤ m))) = false := by rw [Bool.eq_false_iff.2 hst]; rfl
    cases hfc : factorP (baseP sum kb db) (s.drop m) o with
    | none => trivial
    | some r1 =>
      rw [hfc] at hFm
      cases r1 with
      | none => exact badfac ht hFm
      | some q =>
        obtain ⟨w, l1, o1⟩ := q
        obtain ⟨x, m1, a1, a2, a3, a4, a5⟩ := hFm
        have g := hG _ _ _ _ _ hfc
        simp only [Res.bind]
        rw [← a3]
        have step := fun r hr => head false ht.symm r (sum_fac FF s kk d (B []) x 0 m m1 o o1 (by omega) (Nat.zero_le _) a2 a5 (r := r) hr)
        have hz0 : (B []).size = 0 := rfl
        rw [hz0, Nat.zero_add] at step
        have hov : over x.size o1 = o1 := by
          unfold over
          rw [decide_eq_false (by omega), Bool.or_false]
        rw [hov] at step
        have hflat : [w].flatten = w := by simp
        have := loop_rel FF s kk d hs sum kb db hF hG f [w] w.length m1 o1 (if o1 = true then B [] else B [] ++ x) 1 a1 (by omega) (by omega) (by rw [hflat]) g.1 (by
            split
            · exact Nat.zero_le _
            · have : (B [] ++ x).size = x.size := by
                have h : (B [] ++ x).size = (B []).size + x.size := ByteArray.size_append
                rw [h, hz0, Nat.zero_add]
              rw [this]; exact a2) (fun h => by
            subst h
            obtain ⟨rfl, _, lw, _⟩ := a4 rfl
            rw [hflat]
            refine ⟨?_, lw⟩
            simp only [Bool.false_eq_true, if_false, B_append, List.nil_append])
        revert this
        cases loopP (factorP (baseP sum kb db)) f [w] w.length (trimL (s.drop m1)) o1 with
        | none => intro _; trivial
        | some r2 =>
          cases r2 with
          | none => rintro ⟨y, m', Lo, b1, b2, b3⟩; exact ⟨y, m', Lo, b1, b2, step _ b3⟩
          | some q2 =>
            obtain ⟨v, l', o'⟩ := q2
            rintro ⟨b0, ⟨y, m', b1, b2, b3, b4, b5⟩ | ⟨c1, c2, y, m', Lo, b1, b2, b3⟩⟩
            · exact ⟨b0, .inl ⟨y, m', b1, b2, b3, b4, step _ b5⟩⟩
            · exact ⟨b0, .inr ⟨c1, c2, y, m', Lo, b1, b2, step _ b3⟩⟩
end
end Go.Proofs.YthiehmogphknlaaGreatDoor.Laws
namespace Go.Proofs.YthiehmogphknlaaGreatDoor.Laws
open Go.RowKit Go.Proofs.YthiehmogphknlaaGreatDoor.G Go.Proofs.YthiehmogphknlaaGreatDoor.PA Go.Proofs.YthiehmogphknlaaGreatDoor.PT Go.Proofs.YthiehmogphknlaaGreatDoor.PV Go.Proofs.YthiehmogphknlaaGreatDoor.PQ Go.Proofs.YthiehmogphknlaaGreatDoorW.PrintWords Go.Proofs.YthiehmogphknlaaGreatDoor.Free Go.Proofs.YthiehmogphknlaaGreatDoor.Pure1 Go.Proofs.YthiehmogphknlaaGreatDoor.Cyc Go.Proofs.YthiehmogphknlaaGreatDoor.Pow Go.Proofs.YthiehmogphknlaaGreatDoor.Parse
theorem pS_rel (s : List UInt8) (hs : s.length ≤ 140737488355328) (kk : Int) (k1 : 1 ≤ kk) (k8 : kk ≤ 8) : ∀ (n : Nat) (d : Int), n ≤ 100000000000000000 → 0 ≤ d → d + n ≤ 4611686018427387000 →
    RelS s kk (sumN kk n d) (fun p o k => pS n k (B s) (p : Int) kk o false d) := by
  intro n
  induction n with
  | zero => intro d _ _ _ p o hp; trivial
  | succ n ih =>
    intro d hn hd0 hd1
    refine sum_rel _ s kk d hs (sumN kk n) kk d ?_ (factor_good (base_good kk d (sum_good kk n (d + 1)))) n (by omega)
    refine factor_rel s hs kk _ _ d ?_
    refine base_rel s hs kk k1 k8 (pS n) (sumN kk n) d hd0 (by omega) (ih (d + 1) (by omega) (by omega) (by omega)) (fun l o v l' o' h ho => (sum_good kk n (d + 1) l o v l' o' h).2.2 ho) ?_
    rintro ⟨l, o, r, hr⟩ p Lo
    cases n with
    | zero => cases hr
    | succ n => exact sum_bad _ s kk p Lo (d + 1)
theorem base_total (kk : Int) (f : Nat) (d : Int) (ih : ∀ (d : Int) (l : List UInt8) (o : Bool), l.length < f → sumN kk f d l o ≠ none) (l : List UInt8) (o : Bool) (hl : l.length ≤ f) : baseP (sumN kk f) kk d l o ≠ none := by
  have ht := trimL_le l
  unfold baseP
  dsimp only
  split
  · simp
  · split
    · rename_i hc
      have h1 := tail_lt (l := trimL l) (by rw [hc]; decide)
      have h2 := ih (d + 1) (trimL l).tail (o || decide (20 < d)) (by omega)
      cases hr : sumN kk f (d + 1) (trimL l).tail (o || decide (20 < d)) with
      | none => exact absurd hr h2
      | some r =>
        cases r with
        | none => simp [Res.bind]
        | some q =>
          obtain ⟨v, l', o'⟩ := q
          simp only [Res.bind]
          cases expectP 41 l' <;> simp
    · split
      · rename_i hc
        have h1 := tail_lt (l := trimL l) (by rw [hc]; decide)
        have h2 := ih (d + 1) (trimL l).tail (o || decide (20 < d)) (by omega)
        cases hr : sumN kk f (d + 1) (trimL l).tail (o || decide (20 < d)) with
        | none => exact absurd hr h2
        | some r =>
          cases r with
          | none => simp [Res.bind]
          | some q =>
            obtain ⟨u, l', o'⟩ := q
            have hg := (sum_good kk f (d + 1) _ _ _ _ _ hr).2.1
            simp only [Res.bind]
            cases he : expectP 44 l' with
            | none => simp
            | some l2 =>
              have hle := expectP_le he
              have h3 := ih (d + 1) l2 o' (by omega)
              dsimp only
              cases hr2 : sumN kk f (d + 1) l2 o' with
              | none => exact absurd hr2 h3
              | some r2 =>
                cases r2 with
                | none => simp
                | some q2 =>
                  obtain ⟨v, l3, o3⟩ := q2
                  dsimp only
                  cases expectP 93 l3 with
                  | none => simp
                  | some l4 => dsimp only; split <;> simp
      · split <;> simp
theorem factor_total (base : List UInt8 → Bool → Res (List UInt8)) (l : List UInt8) (o : Bool) (h : base l o ≠ none) : factorP base l o ≠ none := by
  unfold factorP
  cases hr : base l o with
  | none => exact absurd hr h
  | some r =>
    cases r with
    | none => simp [Res.bind]
    | some q =>
      obtain ⟨w, l', o'⟩ := q
      simp only [Res.bind]
      split
      · simp
      · cases expoP (trimL l').tail with
        | none => simp
        | some q2 =>
          obtain ⟨n, l2⟩ := q2
          dsimp only
          split
          · simp
          · cases powL w n <;> simp
theorem loop_total (fac : List UInt8 → Bool → Res (List UInt8)) (hg : Parse.Good fac) (N : Nat) (hf : ∀ l o, l.length ≤ N → fac l o ≠ none) : ∀ (F : Nat) (ws : List (List UInt8)) (n : Nat) (l : List UInt8) (o : Bool), l.length < F → l.length ≤ N → loopP fac F ws n l o ≠ none := by
  intro F
  induction F with
  | zero => intro ws n l o h; omega
  | succ F ih =>
    intro ws n l o h hN
    show (if stopC (hdC l) = true then some (some (red ws.flatten, l, o)) else (fac l o).bind fun w l o => if over (n + w.length) o = true then loopP fac F [] 0 (trimL l) true else loopP fac F (ws ++ [w]) (n + w.length) (trimL l) o) ≠ none
    split
    · simp
    · cases hr : fac l o with
      | none => exact absurd hr (hf l o hN)
      | some r =>
        cases r with
        | none => simp [Res.bind]
        | some q =>
          obtain ⟨w, l', o'⟩ := q
          have g := (hg _ _ _ _ _ hr).2.1
          have ht := trimL_le l'
          simp only [Res.bind]
          split
          · exact ih _ _ _ _ (by omega) (by omega)
          · exact ih _ _ _ _ (by omega) (by omega)
theorem sum_total (kk : Int) : ∀ (f : Nat) (d : Int) (l : List UInt8) (o : Bool), l.length < f → sumN kk f d l o ≠ none := by
  intro f
  induction f with
  | zero => intro d l o h; omega
  | succ f ih =>
    intro d l o h
    show sumP (factorP (baseP (sumN kk f) kk d)) f l o ≠ none
    have hf : ∀ l o, l.length ≤ f → factorP (baseP (sumN kk f) kk d) l o ≠ none := fun l o hl => factor_total _ l o (base_total kk f d ih l o hl)
    have hg := factor_good (base_good kk d (sum_good kk f (d + 1)))
    unfold sumP
    cases hr : factorP (baseP (sumN kk f) kk d) l o with
    | none => exact absurd hr (hf l o (by omega))
    | some r =>
      cases r with
      | none => simp [Res.bind]
      | some q =>
        obtain ⟨w, l', o'⟩ := q
        have g := (hg _ _ _ _ _ hr).2.1
        have ht := trimL_le l'
        simp only [Res.bind]
        exact loop_total _ hg f hf f _ _ _ _ (by omega) (by omega)
/-- Parse: the program's and the reference's answer. -/
theorem parse_alike (kk : Int) (l : List UInt8) (hl : l.length ≤ 140737488351232) : ∃ r : ByteArray × Int, word_Parse.f kk (B l) = some r ∧ Ev (fun k => parseR k kk (B l)) r := by
  unfold word_Parse.f parseN parseR
  rw [if_pos (by rw [size_B]; omega), L_B]
  by_cases hk : kk < 1 ∨ 8 < kk
  · rw [if_pos hk]
    refine ⟨(B [], 1), rfl, ?_⟩
    exact Ev.congr (f := fun _ => some (B [], (1 : Int))) (fun k => by rw [if_pos hk]; rfl) (Ev.now _)
  · rw [if_neg hk]
    simp only [if_neg hk]
    have hrel := pS_rel l (by omega) kk (by omega) (by omega) (l.length + 2) 0 (by omega) (by omega) (by omega) 0 (decide (100000 < l.length)) (Nat.zero_le _)
    have htot := sum_total kk (l.length + 2) 0 l (decide (100000 < l.length)) (by omega)
    rw [List.drop_zero] at hrel
    rw [size_B]
    have fin : ∀ (x : ByteArray) (m : Nat) (Lo Ba : Bool), m ≤ l.length → Ev (fun k => pS (l.length + 2) k (B l) ((0 : Nat) : Int) kk (decide (100000 < l.length)) false 0) (x, B l, (m : Int), kk, Lo, Ba) → ∀ {r : ByteArray × Int}, r = (if Ba = true ∨ trimL (l.drop m) ≠ [] then (B [], 4) else if Lo = true then (B [], 2) else (x, 0)) →
        Ev (fun k => (pS (l.length + 2) k (B l) 0 kk (decide (100000 < l.length)) false 0).bind fun b => (cayleyref01_Parser_next.f k b.2.1 b.2.2.1 b.2.2.2.1 b.2.2.2.2.1 b.2.2.2.2.2).bind fun c =>
          if c.2.2.2.2.2 = true ∨ c.2.2.1 < (c.2.1.size : Int) then some (⟨#[]⟩, 4) else if c.2.2.2.2.1 = true then some (⟨#[]⟩, 2) else some (b.1, 0)) r := by
      intro x m Lo Ba hm hev r hr
      refine Ev.bind hev ?_
      dsimp only
      obtain ⟨m2, h1, h2, h3, h4⟩ := next_ev l (by omega) kk Lo Ba (l.length - m) m (by omega)
      refine Ev.bind h4 ?_
      dsimp only
      have hiff : (m2 : Int) < ((B l).size : Int) ↔ trimL (l.drop m) ≠ [] := by
        rw [← h3, size_B]
        constructor
        · intro h e
          have := congrArg List.length e
          rw [List.length_drop, List.length_nil] at this
          omega
        · intro h
          by_cases hq : m2 < l.length
          · omega
          · exact absurd (drop_len l m2 (by omega)) h
      rw [hr]
      by_cases hb : Ba = true ∨ trimL (l.drop m) ≠ []
      · have hb2 : Ba = true ∨ (m2 : Int) < ((B l).size : Int) := hb.imp id hiff.2
        rw [if_pos hb]
        simp only [if_pos hb2]
        exact Ev.now _
      · have hb2 : ¬ (Ba = true ∨ (m2 : Int) < ((B l).size : Int)) := fun h => hb (h.imp id hiff.1)
        rw [if_neg hb]
        simp only [if_neg hb2]
        cases Lo with
        | true => simp only [if_true]; exact Ev.now _
        | false => simp only [Bool.false_eq_true, if_false]; exact Ev.now _
    cases hr : sumN kk (l.length + 2) 0 l (decide (100000 < l.length)) with
    | none => exact absurd hr htot
    | some r1 =>
      rw [hr] at hrel
      have bad := fun (h : BadR l kk (fun k => pS (l.length + 2) k (B l) ((0 : Nat) : Int) kk (decide (100000 < l.length)) false 0)) => fin h.choose h.choose_spec.choose h.choose_spec.choose_spec.choose true h.choose_spec.choose_spec.choose_spec.1 h.choose_spec.choose_spec.choose_spec.2.2 (r := (B [], 4)) (by rw [if_pos (.inl rfl)])
      cases r1 with
      | none => exact ⟨(B [], 4), rfl, bad hrel⟩
      | some q =>
        obtain ⟨v, l', o'⟩ := q
        obtain ⟨ht, hfine | ⟨hz, hne, hb⟩⟩ := hrel
        · obtain ⟨x, m, h1, _, h2, h3, h4⟩ := hfine
          by_cases hq : trimL l' ≠ []
          · refine ⟨(B [], 4), ?_, fin x m o' false h1 h4 (by rw [h2, if_pos (.inr hq)])⟩
            dsimp only
            rw [if_pos hq]; rfl
          · have hn : ¬ (false = true ∨ trimL l' ≠ []) := by rintro (h | h); cases h; exact hq h
            cases o' with
            | true =>
              refine ⟨(B [], 2), ?_, fin x m true false h1 h4 (by rw [h2, if_neg hn, if_pos rfl])⟩
              dsimp only
              rw [if_neg hq, if_pos rfl]; rfl
            | false =>
              obtain ⟨rfl, _⟩ := h3 rfl
              refine ⟨(B v, 0), ?_, fin (B v) m false false h1 h4 (by rw [h2, if_neg hn, if_neg (by simp)])⟩
              dsimp only
              rw [if_neg hq, if_neg (by simp)]; rfl
        · refine ⟨(B [], 4), ?_, bad hb⟩
          dsimp only
          rw [if_pos (by rw [ht]; exact hne)]
          rfl
end Go.Proofs.YthiehmogphknlaaGreatDoor.Laws
