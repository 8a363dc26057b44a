/- The core of a word and its conjugator; powers: the printed functions as plain functions on lists. -/
import Derived.Test.YthiehmogphknlaaGreatDoorPure2
namespace Go.Proofs.YthiehmogphknlaaGreatDoor.Pure1
open Go.RowKit Go.Proofs.YthiehmogphknlaaGreatDoor.G Go.Proofs.YthiehmogphknlaaGreatDoor.PA Go.Proofs.YthiehmogphknlaaGreatDoorW.PrintWords Go.Proofs.YthiehmogphknlaaGreatDoor.Free

theorem toList_loop (s : ByteArray) : ∀ (d i : Nat) (r : List UInt8), i + d = s.size → ByteArray.toList.loop s i r = r.reverse ++ (L s).drop i := by
  intro d
  induction d with
  | zero =>
    intro i r h
    rw [ByteArray.toList.loop, if_neg (by omega), List.drop_of_length_le (by rw [← size_L]; omega), List.append_nil]
  | succ d ih =>
    intro i r h
    have hlt : i < (L s).length := by rw [← size_L]; omega
    rw [ByteArray.toList.loop, if_pos (by omega), ih (i + 1) _ (by omega), List.reverse_cons, List.append_assoc, List.drop_eq_getElem_cons hlt]
    have : s.get! i = (L s)[i] := by
      have e : s.get! i = s.data[i]! := by cases s; rfl
      rw [e, getElem!_pos s.data i (by have := hlt; simpa [L] using this)]
      rfl
    rw [this]
    rfl
theorem toList_L (s : ByteArray) : s.toList = L s := by
  unfold ByteArray.toList
  rw [toList_loop s s.size 0 [] (by omega)]
  rfl
theorem extract_L (s : ByteArray) (a b : Nat) : s.extract a b = B (((L s).drop a).take (b - a)) := by
  rw [← B_L (s.extract a b)]
  unfold L
  rw [Lib.extract_data s a b]
theorem append_L (a b : ByteArray) : a ++ b = B (L a ++ L b) := by
  rw [← B_L (a ++ b)]
  unfold L
  rw [ByteArray.data_append, Array.toList_append]
theorem B_append (a b : List UInt8) : B a ++ B b = B (a ++ b) := by rw [append_L, L_B, L_B]
theorem B_inj {a b : List UInt8} (h : B a = B b) : a = b := by have := congrArg L h; rwa [L_B, L_B] at this
theorem L_inj {a b : ByteArray} (h : L a = L b) : a = b := by rw [← B_L a, h, B_L]
theorem B_eq (l : List UInt8) : (⟨l.toArray⟩ : ByteArray) = B l := rfl

/-- The conjugator and the core. -/
def peel : Nat → List UInt8 → List UInt8 × List UInt8
  | 0, l => ([], l)
  | f + 1, l => if 2 ≤ l.length ∧ l.head? = (l.getLast?).map oth then (l.take 1 ++ (peel f l.tail.dropLast).1, (peel f l.tail.dropLast).2) else ([], l)
def cyc (l : List UInt8) : List UInt8 × List UInt8 := peel l.length l

theorem mid_step (l : List UInt8) (n : Nat) (_h : 2 ≤ l.length - 2 * n) : ((l.drop n).take (l.length - 2 * n)).tail.dropLast = (l.drop (n + 1)).take (l.length - 2 * (n + 1)) := by
  rw [← List.drop_one, List.drop_take, List.drop_drop, List.dropLast_eq_take, List.take_take]
  congr 1
  rw [List.length_take, List.length_drop]
  omega
theorem cyclic_l0 (l : List UInt8) (hl : l.length ≤ 140737488355328) : ∀ (f n : Nat), 2 * n ≤ l.length → l.length - 2 * n ≤ f →
    Ev (fun k => word_cyclic.l0 k (B l) (n : Int)) (B (peel f ((l.drop n).take (l.length - 2 * n))).2, B (l.take n ++ (peel f ((l.drop n).take (l.length - 2 * n))).1)) := by
  intro f
  have hend : ∀ n : Nat, 2 * n ≤ l.length → (B l).extract (n : Int).toNat (wrap64 (((B l).size : Int) - (n : Int))).toNat = B ((l.drop n).take (l.length - 2 * n)) ∧ (B l).extract 0 (n : Int).toNat = B (l.take n) := by
    intro n hn
    constructor
    · rw [extract_L, L_B, Int.toNat_natCast, size_B, w64 _ (by omega) (by omega)]
      congr 2
      omega
    · rw [extract_L, L_B, Int.toNat_natCast, List.drop_zero, Nat.sub_zero]
  have hguard : ∀ n : Nat, 2 * n ≤ l.length → (n : Int) ≤ wrap64 (((B l).size : Int) - (n : Int)) ∧ wrap64 (((B l).size : Int) - (n : Int)) ≤ ((B l).size : Int) ∧ (n : Int) ≤ ((B l).size : Int) := by
    intro n hn
    rw [size_B, w64 _ (by omega) (by omega)]
    omega
  have h2 : ∀ n : Nat, 2 * n ≤ l.length → wrap64 (((B l).size : Int) - wrap64 (2 * (n : Int))) = ((l.length - 2 * n : Nat) : Int) := by
    intro n hn
    rw [size_B, w64 (2 * (n : Int)) (by omega) (by omega), w64 _ (by omega) (by omega)]
    omega
  have h3 : ∀ n : Nat, n < l.length → wrap64 (wrap64 (((B l).size : Int) - 1) - (n : Int)) = ((l.length - 1 - n : Nat) : Int) := by
    intro n hn
    rw [size_B, w64 ((l.length : Int) - 1) (by omega) (by omega), w64 _ (by omega) (by omega)]
    omega
  induction f with
  | zero =>
    intro n hn hf
    refine ev_some _ _ (fun k => ?_)
    obtain ⟨g1, g2, g3⟩ := hguard n hn
    obtain ⟨e1, e2⟩ := hend n hn
    simp only [word_cyclic.l0]
    rw [h2 n hn, if_neg (by omega), if_pos (by omega), if_pos g1, if_pos g2, if_pos g3, e1, e2]
    simp [peel]
  | succ f ih =>
    intro n hn hf
    obtain ⟨g1, g2, g3⟩ := hguard n hn
    obtain ⟨e1, e2⟩ := hend n hn
    by_cases hlen : 2 ≤ l.length - 2 * n
    · have hn1 : n < l.length := by omega
      have hn2 : l.length - 1 - n < l.length := by omega
      have hh : ((l.drop n).take (l.length - 2 * n)).head? = some (l[n]) := by
        rw [List.head?_take, if_neg (by omega), List.head?_drop, List.getElem?_eq_getElem hn1]
      have ht : ((l.drop n).take (l.length - 2 * n)).getLast? = some (l[l.length - 1 - n]) := by
        rw [List.getLast?_eq_getElem?, List.length_take, List.length_drop, List.getElem?_take, if_pos (by omega), List.getElem?_drop, List.getElem?_eq_getElem (by omega)]
        congr 1
        congr 1
        omega
      have hb1 : bt (B l) (n : Int) = ((l[n]).toNat : Int) := bt_nat (B l) n (by rw [L_B]; exact hn1)
      have hb2 : word_other.f (bt (B l) ((l.length - 1 - n : Nat) : Int)) = some ((oth (l[l.length - 1 - n])).toNat : Int) := other_bt (B l) (l.length - 1 - n) (by rw [L_B]; exact hn2)
      have hm : ((l.drop n).take (l.length - 2 * n)).length = l.length - 2 * n := by simp; omega
      by_cases hx : l[n] = oth (l[l.length - 1 - n])
      · have hc : 2 ≤ ((l.drop n).take (l.length - 2 * n)).length ∧ ((l.drop n).take (l.length - 2 * n)).head? = (((l.drop n).take (l.length - 2 * n)).getLast?).map oth := ⟨by omega, by rw [hh, ht, hx]; rfl⟩
        have ht1 : ((l.drop n).take (l.length - 2 * n)).take 1 = [l[n]] := by
          rw [List.take_take, show min 1 (l.length - 2 * n) = 1 by omega, List.drop_eq_getElem_cons hn1]; rfl
        have := ih (n + 1) (by omega) (by omega)
        rw [← mid_step l n hlen] at this
        rw [peel, if_pos hc, ht1]
        rw [List.take_succ_eq_append_getElem hn1, List.append_assoc] at this
        refine Ev.step (fun k => ?_) this
        simp only [word_cyclic.l0]
        rw [h2 n hn, if_pos (by omega), if_pos (by omega), if_pos (by rw [size_B]; omega), h3 n hn1, if_pos (by omega), if_pos (by rw [size_B]; omega), hb2]
        simp only [Option.bind_some]
        rw [hb1, if_pos (by rw [hx]), w64_succ n (by omega)]
      · have hc : ¬ (2 ≤ ((l.drop n).take (l.length - 2 * n)).length ∧ ((l.drop n).take (l.length - 2 * n)).head? = (((l.drop n).take (l.length - 2 * n)).getLast?).map oth) := by
          rintro ⟨_, h⟩
          rw [hh, ht] at h
          exact hx (Option.some.inj h)
        rw [peel, if_neg hc]
        refine ev_some _ _ (fun k => ?_)
        simp only [word_cyclic.l0]
        rw [h2 n hn, if_pos (by omega), if_pos (by omega), if_pos (by rw [size_B]; omega), h3 n hn1, if_pos (by omega), if_pos (by rw [size_B]; omega), hb2]
        simp only [Option.bind_some]
        have hxi : ¬ ((l[n]).toNat : Int) = ((oth (l[l.length - 1 - n])).toNat : Int) := fun e => hx (UInt8.toNat_inj.mp (Int.ofNat.inj e))
        rw [hb1, if_neg hxi, if_pos g1, if_pos g2, if_pos g3, e1, e2, List.append_nil]
    · have hm : ((l.drop n).take (l.length - 2 * n)).length = l.length - 2 * n := by simp; omega
      have hc : ¬ (2 ≤ ((l.drop n).take (l.length - 2 * n)).length ∧ ((l.drop n).take (l.length - 2 * n)).head? = (((l.drop n).take (l.length - 2 * n)).getLast?).map oth) := by
        rintro ⟨h, _⟩; omega
      rw [peel, if_neg hc]
      refine ev_some _ _ (fun k => ?_)
      simp only [word_cyclic.l0]
      rw [h2 n hn, if_neg (by omega), if_pos (by omega), if_pos g1, if_pos g2, if_pos g3, e1, e2, List.append_nil]
theorem cyclic_ev (s : ByteArray) (h : s.size < 140737488355328) : Ev (fun k => word_cyclic.f k s) (B (cyc (red (L s))).2, B (cyc (red (L s))).1) := by
  unfold word_cyclic.f
  have h1 := reduce_ev [s] (by rw [cat_one, ← size_L]; omega) (by simp)
  rw [cat_one] at h1
  refine Ev.bind (f := fun k t => word_cyclic.l0 k t 0) h1 ?_
  have hl := red_length (L s)
  rw [← size_L] at hl
  have := cyclic_l0 (red (L s)) (by omega) (red (L s)).length 0 (by omega) (by omega)
  simpa [cyc] using this

/-- The power, if it is short enough. -/
def powL (l : List UInt8) (n : Int) : Option (List UInt8) :=
  let c := (cyc (red l)).1
  let x := if n < 0 then inv (cyc (red l)).2 else (cyc (red l)).2
  if x = [] ∨ n = 0 then some []
  else if 100000 < n.natAbs ∨ 100000 < x.length * n.natAbs + 2 * c.length then none
  else some (c ++ Lib.repeatL x n.natAbs ++ inv c)
theorem peel_length : ∀ (f : Nat) (l : List UInt8), 2 * (peel f l).1.length + (peel f l).2.length = l.length
  | 0, l => by simp [peel]
  | f + 1, l => by
    rw [peel]
    split
    · rename_i h
      have := peel_length f l.tail.dropLast
      simp only [List.length_append, List.length_take, List.length_dropLast, List.length_tail] at this ⊢
      omega
    · simp
theorem cyc_length (l : List UInt8) : 2 * (cyc l).1.length + (cyc l).2.length = l.length := peel_length _ _

theorem power_j (c x : List UInt8) (n : Nat) (hc : c.length ≤ 1000000) (hx : x.length ≤ 1000000) (hn : n ≤ 9223372036854775807) :
    Ev (fun k => word_power.j0 k (n : Int) (B x) (B c)) (if x = [] ∨ n = 0 then (B [], true) else if 100000 < n ∨ 100000 < x.length * n + 2 * c.length then (B [], false) else (B (c ++ Lib.repeatL x n ++ inv c), true)) := by
  have hb : (B []) = (⟨#[]⟩ : ByteArray) := rfl
  by_cases h1 : x = [] ∨ n = 0
  · rw [if_pos h1]
    refine Ev.step (f := fun k => word_power.j1 k (n : Int) (B x) (B c) true) (fun k => ?_) (ev_some _ _ (fun k => ?_))
    · simp only [word_power.j0]
      rw [toList_L, L_B]
      by_cases hx0 : x = []
      · rw [if_pos hx0]
      · rw [if_neg hx0]
        have : n = 0 := h1.resolve_left hx0
        subst this
        rfl
    · simp only [word_power.j1]
      rfl
  · rw [if_neg h1]
    have hx0 : ¬ x = [] := fun h => h1 (.inl h)
    have hn0 : ((n : Int) == 0) = false := by rw [beq_eq_false_iff_ne]; intro h; exact h1 (.inr (by omega))
    have hstep : ∀ r, Ev (fun k => word_power.j1 k (n : Int) (B x) (B c) false) r → Ev (fun k => word_power.j0 k (n : Int) (B x) (B c)) r := by
      intro r hr
      refine Ev.step (fun k => ?_) hr
      simp only [word_power.j0]
      rw [toList_L, L_B, if_neg hx0, hn0]
    apply hstep
    have hstep2 : ∀ r (b : Bool), b = decide (100000 < n ∨ 100000 < x.length * n + 2 * c.length) → Ev (fun k => word_power.j2 k (n : Int) (B x) (B c) b) r → Ev (fun k => word_power.j1 k (n : Int) (B x) (B c) false) r := by
      intro r b hb' hr
      refine Ev.step (fun k => ?_) hr
      simp only [word_power.j1]
      rw [if_neg (by decide)]
      by_cases h2 : 100000 < n
      · rw [if_pos (by omega), hb', decide_eq_true (.inl h2)]
      · rw [if_neg (by omega)]
        have hm : x.length * n ≤ 1000000 * 100000 := Nat.mul_le_mul hx (by omega)
        have e1 : wrap64 (((B x).size : Int) * (n : Int)) = ((x.length * n : Nat) : Int) := by rw [size_B, w64 _ (by rw [← Int.natCast_mul]; omega) (by rw [← Int.natCast_mul]; omega)]; exact (Int.natCast_mul _ _).symm
        have e2 : wrap64 (2 * ((B c).size : Int)) = ((2 * c.length : Nat) : Int) := by rw [size_B, w64 _ (by omega) (by omega)]; omega
        rw [e1, e2, hb']
        congr 1
        rw [decide_eq_decide]
        clear e1 e2 hstep
        rw [w64 _ (by omega) (by omega)]
        constructor
        · intro h; exact .inr (by omega)
        · rintro (h | h)
          · exact absurd h h2
          · omega
    by_cases h2 : 100000 < n ∨ 100000 < x.length * n + 2 * c.length
    · rw [if_pos h2]
      refine hstep2 _ true (decide_eq_true h2).symm (ev_some _ _ (fun k => ?_))
      simp only [word_power.j2]
      rfl
    · rw [if_neg h2]
      refine hstep2 _ false (decide_eq_false h2).symm ?_
      have hm : x.length * n ≤ 100000 := by omega
      have hrl : (Lib.repeatL x n).length = n * x.length := Lib.repeatL_length x n
      have hrl' : (Lib.repeatL x n).length ≤ 100000 := by rw [hrl, Nat.mul_comm]; exact hm
      have hrep : strings_Repeat.f (B x) (n : Int) = some (B (Lib.repeatL x n)) := by
        unfold strings_Repeat.f
        rw [if_pos ⟨by omega, by omega, by rw [size_B, Int.toNat_natCast]; omega⟩, Int.toNat_natCast]
        rfl
      have hi := inverse_ev (B c) (by rw [size_B]; omega)
      rw [L_B] at hi
      refine Ev.step (f := fun k => (word_inverse.f k (B c)).bind fun t => some ((B c ++ B (Lib.repeatL x n)) ++ t, true)) (fun k => ?_) ?_
      · simp only [word_power.j2]
        rw [if_neg (by decide), hrep]
        simp only [Option.bind_some]
        rw [if_pos (by rw [size_B, size_B]; omega)]
        cases hq : word_inverse.f k (B c) with
        | none => rfl
        | some t =>
          simp only [Option.bind_some]
          have ht : t = B (inv c) := by
            obtain ⟨K, hK⟩ := hi
            have h1 := at_rounds (word_inverse.mono (B c)) (Nat.le_add_right k K) hq
            have h2 := hK (k + K) (by omega)
            dsimp only at h2
            rw [h1] at h2
            exact Option.some.inj h2
          rw [if_pos (by rw [ht, B_append, size_B, size_B, List.length_append, inv_length]; omega)]
      · have := Ev.bind (f := fun _ t => some ((B c ++ B (Lib.repeatL x n)) ++ t, true)) hi (Ev.now _)
        rw [B_append, B_append] at this
        rw [B_append]
        exact this

theorem power_ev (s : ByteArray) (hs : s.size ≤ 1000000) (n : Int) (h0 : -9223372036854775808 < n) (h1 : n ≤ 9223372036854775807) :
    Ev (fun k => word_power.f k s n) (match powL (L s) n with | some l => (B l, true) | none => (B [], false)) := by
  have hc := cyc_length (red (L s))
  have hr := red_length (L s)
  rw [← size_L] at hr
  unfold word_power.f powL
  refine Ev.bind (f := fun k (bt : ByteArray × ByteArray) => if n < 0 then ((word_inverse.f k bt.1).bind fun t => (if n = (wrap64 (-n)) then (some ((⟨#[]⟩ : ByteArray), (t.toList == ([] : List UInt8)))) else (word_power.j0 k (wrap64 (-n)) t bt.2))) else (word_power.j0 k n bt.1 bt.2)) (cyclic_ev s (by omega)) ?_
  obtain ⟨c, hc'⟩ : ∃ c, (cyc (red (L s))).1 = c := ⟨_, rfl⟩
  obtain ⟨x, hx'⟩ : ∃ x, (cyc (red (L s))).2 = x := ⟨_, rfl⟩
  rw [hc', hx'] at hc ⊢
  dsimp only
  by_cases hn : n < 0
  · rw [if_pos hn]
    have hi := inverse_ev (B x) (by rw [size_B]; omega)
    rw [L_B] at hi
    refine Ev.congr (f := fun k => (word_inverse.f k (B x)).bind fun t => word_power.j0 k ((n.natAbs : Nat) : Int) t (B c)) (fun k => ?_) ?_
    · rw [if_pos hn]
      congr 1
      funext t
      have hw : wrap64 (-n) = ((n.natAbs : Nat) : Int) := by rw [w64 _ (by omega) (by omega)]; omega
      rw [hw, if_neg (by omega)]
    · refine Ev.bind (f := fun k t => word_power.j0 k ((n.natAbs : Nat) : Int) t (B c)) hi ?_
      have := power_j c (inv x) n.natAbs (by omega) (by rw [inv_length]; omega) (by omega)
      have e : (inv x = [] ∨ n.natAbs = 0) ↔ (inv x = [] ∨ n = 0) := by
        constructor
        · rintro (h | h)
          · exact .inl h
          · exact .inr (by omega)
        · rintro (h | h)
          · exact .inl h
          · exact .inr (by omega)
      by_cases h2 : inv x = [] ∨ n = 0
      · rw [if_pos (e.mpr h2)] at this; rw [if_pos h2]; exact this
      · rw [if_neg (fun h => h2 (e.mp h))] at this; rw [if_neg h2]
        by_cases h3 : 100000 < n.natAbs ∨ 100000 < (inv x).length * n.natAbs + 2 * c.length
        · rw [if_pos h3] at this ⊢; exact this
        · rw [if_neg h3] at this ⊢; exact this
  · rw [if_neg hn]
    obtain ⟨m, rfl⟩ := Int.eq_ofNat_of_zero_le (a := n) (by omega)
    refine Ev.congr (f := fun k => word_power.j0 k (m : Int) (B x) (B c)) (fun k => ?_) ?_
    · rw [if_neg hn]
    · have := power_j c x m (by omega) (by omega) (by omega)
      rw [Int.natAbs_natCast]
      have e : (x = [] ∨ m = 0) ↔ (x = [] ∨ (m : Int) = 0) := by
        constructor
        · rintro (h | h)
          · exact .inl h
          · exact .inr (by omega)
        · rintro (h | h)
          · exact .inl h
          · exact .inr (by omega)
      by_cases h2 : x = [] ∨ (m : Int) = 0
      · rw [if_pos (e.mpr h2)] at this; rw [if_pos h2]; exact this
      · rw [if_neg (fun h => h2 (e.mp h))] at this; rw [if_neg h2]
        by_cases h3 : 100000 < m ∨ 100000 < x.length * m + 2 * c.length
        · rw [if_pos h3] at this ⊢; exact this
        · rw [if_neg h3] at this ⊢; exact this

end Go.Proofs.YthiehmogphknlaaGreatDoor.Pure1
