/- What the printed functions of package word come to, as plain functions of lists: is, inverse, reduce. What is a word: the printed tests, as plain tests on lists. The core of a word and its conjugator; powers: the printed functions as plain functions on lists. The reference's tests for words; shortlex. -/
import Derived.Test.YthiehmogphknlaaGreatDoorPAx0
import Derived.Test.YthiehmogphknlaaGreatDoorPAx1
import Derived.Test.YthiehmogphknlaaGreatDoorPAx2
import Derived.Test.YthiehmogphknlaaGreatDoorPAx3
import Derived.Test.YthiehmogphknlaaGreatDoorPAx4
import Derived.Test.YthiehmogphknlaaGreatDoorPAx5
import Derived.Test.YthiehmogphknlaaGreatDoorFree
import Derived.Lib.LazyBuf
namespace Go.Proofs.YthiehmogphknlaaGreatDoor.Pure1
open Go.RowKit Go.Proofs.YthiehmogphknlaaGreatDoor.G Go.Proofs.YthiehmogphknlaaGreatDoor.PA Go.Proofs.YthiehmogphknlaaGreatDoorW.PrintWords Go.Proofs.YthiehmogphknlaaGreatDoor.Free
def L (s : ByteArray) : List UInt8 := s.data.toList
def B (l : List UInt8) : ByteArray := ⟨l.toArray⟩
def toI (l : List UInt8) : List Int := l.map fun b => (b.toNat : Int)
theorem L_B (l : List UInt8) : L (B l) = l := rfl
theorem B_L (s : ByteArray) : B (L s) = s := rfl
theorem size_L (s : ByteArray) : s.size = (L s).length := rfl
theorem size_B (l : List UInt8) : (B l).size = l.length := rfl
theorem str_toI (l : List UInt8) : strOfNums (toI l) = B l := Lib.Lz.strOfNums_map l
theorem toI_append (a b : List UInt8) : toI (a ++ b) = toI a ++ toI b := by simp [toI]
theorem toI_length (a : List UInt8) : (toI a).length = a.length := by simp [toI]
theorem bt_nat (s : ByteArray) (i : Nat) (h : i < (L s).length) : bt s (i : Int) = (((L s)[i]).toNat : Int) := by
  unfold bt
  rw [dif_pos (show (i : Int).toNat < s.size from h)]
  rfl
theorem xor32 (c : UInt8) : Go.bits .xor .u8 (c.toNat : Int) 32 = ((oth c).toNat : Int) := by
  have key : ∀ n : Fin 256, Go.bits .xor .u8 ((UInt8.ofFin n).toNat : Int) 32 = ((oth (UInt8.ofFin n)).toNat : Int) := by decide +kernel
  have := key c.toFin
  simpa using this
theorem other_bt (s : ByteArray) (i : Nat) (h : i < (L s).length) : word_other.f (bt s (i : Int)) = some ((oth ((L s)[i])).toNat : Int) := by
  unfold word_other.f
  rw [bt_nat s i h, xor32]
theorem ev_some {α : Type} (r : α) (g : Nat → Option α) (h : ∀ k, g (k + 1) = some r) : Ev g r := Ev.step h (Ev.now r)
theorem w64 (x : Int) (h0 : -9223372036854775808 ≤ x) (h1 : x ≤ 9223372036854775807) : wrap64 x = x := by unfold wrap64; omega
theorem w64_succ (i : Nat) (h : i < 9223372036854775807) : wrap64 ((i : Int) + 1) = ((i + 1 : Nat) : Int) := by rw [w64 _ (by omega) (by omega)]; rfl
theorem w64_pred (m : Nat) (h : m < 9223372036854775807) : wrap64 (((m + 1 : Nat) : Int) - 1) = (m : Int) := by rw [w64 _ (by omega) (by omega)]; omega
theorem inverse_l0 (s : ByteArray) (hs : s.size ≤ 140737488355328) : ∀ (d i : Nat), i + d = s.size →
    Ev (fun k => word_inverse.l0 k s (List.replicate (s.size - i) 0 ++ toI (inv ((L s).take i))) (s.size : Int) (i : Int)) (B (inv (L s))) := by
  intro d
  induction d with
  | zero =>
    intro i hi
    refine ev_some _ _ (fun k => ?_)
    simp only [word_inverse.l0]
    rw [if_neg (by omega), show s.size - i = 0 by omega, List.replicate_zero, List.nil_append, str_toI, List.take_of_length_le (by rw [← size_L]; omega)]
  | succ d ih =>
    intro i hi
    have hlt : i < (L s).length := by rw [← size_L]; omega
    refine Ev.step (f := fun k => word_inverse.l0 k s (List.replicate (s.size - (i + 1)) 0 ++ toI (inv ((L s).take (i + 1)))) (s.size : Int) ((i + 1 : Nat) : Int)) (fun k => ?_) (ih (i + 1) (by omega))
    simp only [word_inverse.l0]
    rw [if_pos (by omega), if_pos (by omega), if_pos (by omega), other_bt s i hlt]
    simp only [Option.bind_some]
    rw [show wrap64 ((s.size : Int) - 1) = (s.size : Int) - 1 from w64 _ (by omega) (by omega), show wrap64 ((s.size : Int) - 1 - (i : Int)) = ((s.size - (i + 1) : Nat) : Int) by rw [w64 _ (by omega) (by omega)]; omega]
    rw [if_pos (by omega), if_pos (by rw [List.length_append, List.length_replicate]; omega), show wrap64 ((i : Int) + 1) = ((i + 1 : Nat) : Int) by rw [w64 _ (by omega) (by omega)]; rfl]
    rw [Int.toNat_natCast]
    congr 1
    rw [show s.size - i = (s.size - (i + 1)) + 1 by omega, List.replicate_succ', List.append_assoc, List.set_append_right _ _ (by simp)]
    rw [List.length_replicate, Nat.sub_self, List.singleton_append, List.set_cons_zero]
    congr 1
    rw [List.take_succ_eq_append_getElem hlt, inv_append, show inv [(L s)[i]] = [oth ((L s)[i])] from rfl, toI_append]
    rfl
theorem inverse_ev (s : ByteArray) (hs : s.size ≤ 140737488355328) : Ev (fun k => word_inverse.f k s) (B (inv (L s))) := by
  refine Ev.congr (f := fun k => word_inverse.l0 k s (List.replicate (s.size - 0) 0 ++ toI (inv ((L s).take 0))) (s.size : Int) ((0 : Nat) : Int)) (fun k => ?_) (inverse_l0 s hs s.size 0 (by omega))
  unfold word_inverse.f
  rw [if_pos (by omega), if_pos (by rw [Int.toNat_natCast]; omega), Int.toNat_natCast]
  congr 1
  simp [inv, toI]
/-- What lies behind element j. -/
def rest (l : List ByteArray) (j : Nat) : List UInt8 := (l.drop j).flatMap L
theorem reduce_l1 (l : List ByteArray) (j : Nat) (s : ByteArray) (hs : s.size ≤ 140737488355328) (hT : Nat) (hTb : hT < 140737488355328) (n : Nat) (hn : n ≤ 9223372036854775806) (hj : j < n) :
    ∀ (d i : Nat) (st : List UInt8), i + d = s.size → st.length + (s.size - i) ≤ hT →
    (∀ st', st'.length ≤ st.length + (s.size - i) → Ev (fun k => word_reduce.l0 k (toI st'.reverse) l (n : Int) ((j + 1 : Nat) : Int)) (B (run st' (rest l (j + 1))).reverse)) →
    Ev (fun k => word_reduce.l1 k (toI st.reverse) s l (n : Int) (j : Int) (s.size : Int) (i : Int)) (B (run (run st ((L s).drop i)) (rest l (j + 1))).reverse) := by
  intro d
  induction d with
  | zero =>
    intro i st hi hb h0
    refine Ev.step (f := fun k => word_reduce.l0 k (toI st.reverse) l (n : Int) ((j + 1 : Nat) : Int)) (fun k => ?_) ?_
    · simp only [word_reduce.l1]
      rw [if_neg (by omega), w64_succ j (by omega)]
    · rw [List.drop_of_length_le (by rw [← size_L]; omega), run_nil]
      exact h0 st (by omega)
  | succ d ih =>
    intro i st hi hb h0
    have hlt : i < (L s).length := by rw [← size_L]; omega
    have hdrop : (L s).drop i = (L s)[i] :: (L s).drop (i + 1) := List.drop_eq_getElem_cons hlt
    obtain ⟨c, hc⟩ : ∃ c, (L s)[i] = c := ⟨_, rfl⟩
    rw [hdrop, run_cons, hc]
    have hlen : (push st c).length ≤ st.length + 1 := by
      cases st with
      | nil => simp [push]
      | cons x t => rw [push_cons]; split <;> simp <;> omega
    refine Ev.step (f := fun k => word_reduce.l1 k (toI (push st c).reverse) s l (n : Int) (j : Int) (s.size : Int) ((i + 1 : Nat) : Int)) (fun k => ?_) (ih (i + 1) (push st c) (by omega) (by omega) (fun st' h' => h0 st' (by omega)))
    simp only [word_reduce.l1]
    have q1 : (i : Int) < (s.size : Int) := by omega
    have q2 : 0 ≤ (i : Int) := by omega
    have qi : i < 9223372036854775807 := by omega
    have ho := other_bt s i hlt
    have hbt := bt_nat s i hlt
    rw [hc] at ho hbt
    rw [if_pos q1]
    cases st with
    | nil =>
      have q3 : ¬ ((toI ([] : List UInt8).reverse).length : Int) > 0 := by simp [toI]
      have q4 : (toI ([] : List UInt8).reverse).length < 140737488355328 := by simp [toI]
      rw [if_neg q3, if_pos q2, if_pos q1, if_pos q4, w64_succ i qi, hbt]
      rfl
    | cons x t =>
      have hb' : t.length + 1 + (s.size - i) ≤ hT := by simpa using hb
      have hl : (toI (x :: t).reverse).length = t.length + 1 := by rw [toI_length]; simp
      have q3 : ((toI (x :: t).reverse).length : Int) > 0 := by rw [hl]; omega
      have qt : t.length < 9223372036854775807 := by omega
      have q4 : 0 ≤ (t.length : Int) := by omega
      have q5 : (t.length : Int) < ((toI (x :: t).reverse).length : Int) := by rw [hl]; omega
      have q6 : (t.length : Int) ≤ ((toI (x :: t).reverse).length : Int) := by omega
      have q7 : (toI (x :: t).reverse).length < 140737488355328 := by rw [hl]; omega
      have hsub : wrap64 (((toI (x :: t).reverse).length : Int) - 1) = (t.length : Int) := by rw [hl]; exact w64_pred _ qt
      rw [if_pos q3, hsub, if_pos q4, if_pos q5, if_pos q2, if_pos q1, ho]
      simp only [Option.bind_some]
      have hrd : rd (toI (x :: t).reverse) (t.length : Int) = (x.toNat : Int) := by
        unfold rd
        rw [Int.toNat_natCast, List.reverse_cons, toI_append, List.getD_eq_getElem?_getD, List.getElem?_append_right (by rw [toI_length]; simp)]
        rw [toI_length, List.length_reverse, Nat.sub_self]
        rfl
      rw [hrd, push_cons]
      by_cases hx : x = oth c
      · have q8 : (x.toNat : Int) = ((oth c).toNat : Int) := by rw [hx]
        rw [if_pos q8, if_pos q6, if_pos hx, w64_succ i qi, Int.toNat_natCast, List.reverse_cons, toI_append, List.take_left' (by rw [toI_length]; simp)]
      · have q8 : ¬ (x.toNat : Int) = ((oth c).toNat : Int) := by intro e; exact hx (UInt8.toNat_inj.mp (Int.ofNat.inj e))
        rw [if_neg q8, if_neg hx, if_pos q7, w64_succ i qi, hbt, List.reverse_cons (a := c), toI_append]
        rfl
theorem reduce_l0 (l : List ByteArray) (hT : Nat) (hTb : hT < 140737488355328) (hn : l.length ≤ 9223372036854775806) : ∀ (d j : Nat) (st : List UInt8), j + d = l.length → st.length + (rest l j).length ≤ hT →
    Ev (fun k => word_reduce.l0 k (toI st.reverse) l (l.length : Int) (j : Int)) (B (run st (rest l j)).reverse) := by
  intro d
  induction d with
  | zero =>
    intro j st hj hb
    refine ev_some _ _ (fun k => ?_)
    simp only [word_reduce.l0]
    rw [if_neg (by omega), str_toI]
    unfold rest
    rw [List.drop_of_length_le (by omega)]
    rfl
  | succ d ih =>
    intro j st hj hb
    have hlt : j < l.length := by omega
    have hdrop : l.drop j = l[j] :: l.drop (j + 1) := List.drop_eq_getElem_cons hlt
    have hrest : rest l j = L l[j] ++ rest l (j + 1) := by unfold rest; rw [hdrop, List.flatMap_cons]
    obtain ⟨s, hs⟩ : ∃ s, l[j] = s := ⟨_, rfl⟩
    rw [hs] at hrest
    rw [hrest] at hb ⊢
    rw [List.length_append, ← size_L] at hb
    rw [run_append]
    have h1 := reduce_l1 l j s (by omega) hT hTb l.length hn hlt s.size 0 st (by omega) (by omega) (fun st' h' => ih (j + 1) st' (by omega) (by omega))
    rw [List.drop_zero] at h1
    refine Ev.step (fun k => ?_) h1
    simp only [word_reduce.l0]
    have hg : rdOf ByteArray.empty l (j : Int) = s := by
      unfold rdOf
      rw [Int.toNat_natCast, List.getD_eq_getElem?_getD, List.getElem?_eq_getElem hlt, hs]
      rfl
    rw [if_pos (by omega), if_pos (by omega), if_pos (by omega), hg]
    rfl
/-- The strings, one behind the other. -/
def cat (l : List ByteArray) : List UInt8 := l.flatMap L
theorem reduce_ev (l : List ByteArray) (h : (cat l).length < 140737488355328) (hn : l.length ≤ 9223372036854775806) : Ev (fun k => word_reduce.f k l) (B (red (cat l))) := by
  have := reduce_l0 l (cat l).length h hn l.length 0 [] (by omega) (by simp [rest, cat])
  exact this
/-- A word of eight generators. -/
def isL (c : UInt8) : Bool := decide (0 ≤ idx (c.toNat : Int))
def Wd (s : ByteArray) : Prop := s.size ≤ 100000 ∧ ∀ c ∈ L s, isL c = true
instance (s : ByteArray) : Decidable (Wd s) := by unfold Wd; infer_instance
end Go.Proofs.YthiehmogphknlaaGreatDoor.Pure1
namespace Go.Proofs.YthiehmogphknlaaGreatDoor.Pure1
open Go.RowKit Go.Proofs.YthiehmogphknlaaGreatDoor.G Go.Proofs.YthiehmogphknlaaGreatDoor.PA Go.Proofs.YthiehmogphknlaaGreatDoorW.PrintWords Go.Proofs.YthiehmogphknlaaGreatDoor.Free
/-- No letter of k generators. -/
def noL (k : Int) (c : UInt8) : Bool := decide (idx (c.toNat : Int) < 0) || decide (2 * k ≤ idx (c.toNat : Int))
theorem idx_high (x : Int) (h : 128 ≤ x) : idx x = -1 := by
  unfold idx
  rw [if_neg (by omega), if_neg (by omega)]
theorem noL_byte (k : Int) (c : UInt8) (h : c.toNat < 128) : noLetter k c.toNat = noL k c := by
  unfold noLetter noL
  have : decide (127 < c.toNat) = false := decide_eq_false (by omega)
  rw [this, Bool.false_or]
theorem noL_high (k : Int) (c : UInt8) (h : 128 ≤ c.toNat) : noL k c = true := by
  unfold noL
  rw [idx_high _ (by omega)]
  rfl
theorem noLetter_high (k : Int) (x : Nat) (h : 128 ≤ x) : noLetter k x = true := by
  unfold noLetter
  have : decide (127 < x) = true := decide_eq_true (by omega)
  rw [this]; rfl
theorem get_L (s : ByteArray) (i : Nat) (h : i < s.size) : s[i]'h = (L s)[i]'(by rw [← size_L]; exact h) := rfl
theorem find_from (k : Int) (s : ByteArray) : ∀ (f pos : Nat), s.size ≤ pos + f →
    (0 ≤ Lib.idxFuncFrom (noLetter k) true s f pos ↔ ∃ c ∈ (L s).drop pos, noL k c = true) := by
  intro f
  induction f with
  | zero =>
    intro pos h
    rw [List.drop_of_length_le (by rw [← size_L]; omega)]
    simp [Lib.idxFuncFrom]
  | succ f ih =>
    intro pos h
    by_cases hp : pos < s.size
    · have hlt : pos < (L s).length := by rw [← size_L]; exact hp
      rw [List.drop_eq_getElem_cons hlt]
      simp only [Lib.idxFuncFrom, if_pos hp]
      by_cases ha : (s[pos]'hp).toNat < 128
      · rw [decode_ascii s pos hp ha]
        dsimp only
        rw [noL_byte k _ ha, get_L s pos hp]
        by_cases hb : noL k ((L s)[pos]) = true
        · rw [if_pos hb]
          constructor
          · intro _; exact ⟨_, List.mem_cons_self, hb⟩
          · intro _; omega
        · rw [if_neg hb, ih (pos + 1) (by omega)]
          constructor
          · rintro ⟨c, hc, hq⟩; exact ⟨c, List.mem_cons_of_mem _ hc, hq⟩
          · rintro ⟨c, hc, hq⟩
            rcases List.mem_cons.mp hc with rfl | hc
            · exact absurd hq hb
            · exact ⟨c, hc, hq⟩
      · have hd := decode_high s pos hp (by omega)
        rw [noLetter_high k _ hd.1, if_pos rfl]
        constructor
        · intro _
          exact ⟨_, List.mem_cons_self, by rw [← get_L s pos hp]; exact noL_high k _ (by omega)⟩
        · intro _; omega
    · rw [Lib.idxFuncFrom_end _ _ _ _ _ hp, List.drop_of_length_le (by rw [← size_L]; omega)]
      simp
theorem find_iff (k : Int) (s : ByteArray) : 0 ≤ Lib.idxFunc (noLetter k) true s ↔ ∃ c ∈ L s, noL k c = true := by
  have := find_from k s s.size 0 (by omega)
  rw [List.drop_zero] at this
  exact this
/-- The check, plainly. -/
def chkL (k : Int) (s : ByteArray) : Int := if k < 1 ∨ 8 < k then 1 else if 100000 < s.size then 2 else if (L s).any (noL k) = true then 4 else 0
theorem chk_eq (k : Int) (s : ByteArray) : chk k s = chkL k s := by
  unfold chk chkL
  have e : (decide (0 ≤ Lib.idxFunc (noLetter k) true s) = true) ↔ ((L s).any (noL k) = true) := by
    rw [decide_eq_true_iff, find_iff, List.any_eq_true]
  by_cases h1 : k < 1 ∨ 8 < k
  · rw [if_pos h1, if_pos h1]
  · rw [if_neg h1, if_neg h1]
    by_cases h2 : 100000 < s.size
    · rw [if_pos h2, if_pos h2]
    · rw [if_neg h2, if_neg h2]
      by_cases h3 : (L s).any (noL k) = true
      · rw [if_pos h3, if_pos (e.mpr h3)]
      · rw [if_neg h3, if_neg (fun h => h3 (e.mp h))]
theorem noL_isL (c : UInt8) : noL 8 c = !isL c := by
  unfold noL isL
  have := idx_le (c.toNat : Int)
  by_cases h : 0 ≤ idx (c.toNat : Int)
  · rw [decide_eq_true h, decide_eq_false (by omega), decide_eq_false (by omega)]; rfl
  · rw [decide_eq_false h, decide_eq_true (by omega)]; rfl
theorem chkL_8 (s : ByteArray) : chkL 8 s = 0 ↔ Wd s := by
  unfold chkL Wd
  rw [if_neg (by omega)]
  by_cases h2 : 100000 < s.size
  · rw [if_pos h2]; constructor
    · intro h; cases h
    · intro h; omega
  · rw [if_neg h2]
    by_cases h3 : (L s).any (noL 8) = true
    · rw [if_pos h3]
      constructor
      · intro h; cases h
      · intro h
        rw [List.any_eq_true] at h3
        obtain ⟨c, hc, hq⟩ := h3
        rw [noL_isL, h.2 c hc] at hq
        cases hq
    · rw [if_neg h3]
      refine ⟨fun _ => ⟨by omega, fun c hc => ?_⟩, fun _ => rfl⟩
      cases hq : isL c with
      | true => rfl
      | false =>
        exfalso
        exact h3 (List.any_eq_true.mpr ⟨c, hc, by rw [noL_isL, hq]; rfl⟩)
theorem check_f (k : Int) (s : ByteArray) (h : s.size ≤ 9223372036854775807) : word_Check.f k s = some (chkL k s) := by
  unfold word_Check.f
  rw [if_pos h, chk_eq]
theorem is_f (s : ByteArray) (h : s.size ≤ 9223372036854775807) : word_is.f s = some (decide (Wd s)) := by
  unfold word_is.f
  rw [check_f 8 s h]
  simp only [Option.bind_some]
  congr 1
  by_cases hw : Wd s
  · rw [decide_eq_true hw, (chkL_8 s).mpr hw]; rfl
  · rw [decide_eq_false hw, beq_eq_false_iff_ne]
    exact fun h => hw ((chkL_8 s).mp h)
theorem letter_range (c : UInt8) (h : isL c = true) : (97 ≤ c.toNat ∧ c.toNat < 105) ∨ (65 ≤ c.toNat ∧ c.toNat < 73) := by
  unfold isL at h
  have h := of_decide_eq_true h
  unfold idx at h
  split at h
  · left; omega
  · split at h
    · right; omega
    · omega
theorem isL_oth (c : UInt8) : isL (oth c) = isL c := by
  have key : ∀ n : Fin 256, isL (oth (UInt8.ofFin n)) = isL (UInt8.ofFin n) := by decide +kernel
  have := key c.toFin
  simpa using this
theorem cat_one (s : ByteArray) : cat [s] = L s := by unfold cat; simp
end Go.Proofs.YthiehmogphknlaaGreatDoor.Pure1
namespace Go.Proofs.YthiehmogphknlaaGreatDoor.Pure1
open Go.RowKit Go.Proofs.YthiehmogphknlaaGreatDoor.G Go.Proofs.YthiehmogphknlaaGreatDoor.PA Go.Proofs.YthiehmogphknlaaGreatDoorW.PrintWords Go.Proofs.YthiehmogphknlaaGreatDoor.Free
theorem toList_loop (s : ByteArray) : ∀ (d i : Nat) (r : List UInt8), i + d = s.size → ByteArray.toList.loop s i r = r.reverse ++ (L s).drop i := by
  intro d
  induction d with
  | zero =>
    intro i r h
    rw [ByteArray.toList.loop, if_neg (by omega), List.drop_of_length_le (by rw [← size_L]; omega), List.append_nil]
  | succ d ih =>
    intro i r h
    have hlt : i < (L s).length := by rw [← size_L]; omega
    rw [ByteArray.toList.loop, if_pos (by omega), ih (i + 1) _ (by omega), List.reverse_cons, List.append_assoc, List.drop_eq_getElem_cons hlt]
    have : s.get! i = (L s)[i] := by
      have e : s.get! i = s.data[i]! := by cases s; rfl
      rw [e, getElem!_pos s.data i (by have := hlt; simpa [L] using this)]
      rfl
    rw [this]
    rfl
theorem toList_L (s : ByteArray) : s.toList = L s := by
  unfold ByteArray.toList
  rw [toList_loop s s.size 0 [] (by omega)]
  rfl
theorem extract_L (s : ByteArray) (a b : Nat) : s.extract a b = B (((L s).drop a).take (b - a)) := by
  rw [← B_L (s.extract a b)]
  unfold L
  rw [Lib.extract_data s a b]
theorem append_L (a b : ByteArray) : a ++ b = B (L a ++ L b) := by
  rw [← B_L (a ++ b)]
  unfold L
  rw [ByteArray.data_append, Array.toList_append]
theorem B_append (a b : List UInt8) : B a ++ B b = B (a ++ b) := by rw [append_L, L_B, L_B]
theorem B_inj {a b : List UInt8} (h : B a = B b) : a = b := by have := congrArg L h; rwa [L_B, L_B] at this
theorem L_inj {a b : ByteArray} (h : L a = L b) : a = b := by rw [← B_L a, h, B_L]
/-- The conjugator and the core. -/
def peel : Nat → List UInt8 → List UInt8 × List UInt8
  | 0, l => ([], l)
  | f + 1, l => if 2 ≤ l.length ∧ l.head? = (l.getLast?).map oth then (l.take 1 ++ (peel f l.tail.dropLast).1, (peel f l.tail.dropLast).2) else ([], l)
def cyc (l : List UInt8) : List UInt8 × List UInt8 := peel l.length l
theorem mid_step (l : List UInt8) (n : Nat) (_h : 2 ≤ l.length - 2 * n) : ((l.drop n).take (l.length - 2 * n)).tail.dropLast = (l.drop (n + 1)).take (l.length - 2 * (n + 1)) := by
  rw [← List.drop_one, List.drop_take, List.drop_drop, List.dropLast_eq_take, List.take_take]
  congr 1
  rw [List.length_take, List.length_drop]
  omega
theorem cyclic_l0 (l : List UInt8) (hl : l.length ≤ 140737488355328) : ∀ (f n : Nat), 2 * n ≤ l.length → l.length - 2 * n ≤ f →
    Ev (fun k => word_cyclic.l0 k (B l) (n : Int)) (B (peel f ((l.drop n).take (l.length - 2 * n))).2, B (l.take n ++ (peel f ((l.drop n).take (l.length - 2 * n))).1)) := by
  intro f
  have hend : ∀ n : Nat, 2 * n ≤ l.length → (B l).extract (n : Int).toNat (wrap64 (((B l).size : Int) - (n : Int))).toNat = B ((l.drop n).take (l.length - 2 * n)) ∧ (B l).extract 0 (n : Int).toNat = B (l.take n) := by
    intro n hn
    constructor
    · rw [extract_L, L_B, Int.toNat_natCast, size_B, w64 _ (by omega) (by omega)]
      congr 2
      omega
    · rw [extract_L, L_B, Int.toNat_natCast, List.drop_zero, Nat.sub_zero]
  have hguard : ∀ n : Nat, 2 * n ≤ l.length → (n : Int) ≤ wrap64 (((B l).size : Int) - (n : Int)) ∧ wrap64 (((B l).size : Int) - (n : Int)) ≤ ((B l).size : Int) ∧ (n : Int) ≤ ((B l).size : Int) := by
    intro n hn
    rw [size_B, w64 _ (by omega) (by omega)]
    omega
  have h2 : ∀ n : Nat, 2 * n ≤ l.length → wrap64 (((B l).size : Int) - wrap64 (2 * (n : Int))) = ((l.length - 2 * n : Nat) : Int) := by
    intro n hn
    rw [size_B, w64 (2 * (n : Int)) (by omega) (by omega), w64 _ (by omega) (by omega)]
    omega
  have h3 : ∀ n : Nat, n < l.length → wrap64 (wrap64 (((B l).size : Int) - 1) - (n : Int)) = ((l.length - 1 - n : Nat) : Int) := by
    intro n hn
    rw [size_B, w64 ((l.length : Int) - 1) (by omega) (by omega), w64 _ (by omega) (by omega)]
    omega
  induction f with
  | zero =>
    intro n hn hf
    refine ev_some _ _ (fun k => ?_)
    obtain ⟨g1, g2, g3⟩ := hguard n hn
    obtain ⟨e1, e2⟩ := hend n hn
    simp only [word_cyclic.l0]
    rw [h2 n hn, if_neg (by omega), if_pos (by omega), if_pos g1, if_pos g2, if_pos g3, e1, e2]
    simp [peel]
  | succ f ih =>
    intro n hn hf
    obtain ⟨g1, g2, g3⟩ := hguard n hn
    obtain ⟨e1, e2⟩ := hend n hn
    by_cases hlen : 2 ≤ l.length - 2 * n
    · have hn1 : n < l.length := by omega
      have hn2 : l.length - 1 - n < l.length := by omega
      have hh : ((l.drop n).take (l.length - 2 * n)).head? = some (l[n]) := by
        rw [List.head?_take, if_neg (by omega), List.head?_drop, List.getElem?_eq_getElem hn1]
      have ht : ((l.drop n).take (l.length - 2 * n)).getLast? = some (l[l.length - 1 - n]) := by
        rw [List.getLast?_eq_getElem?, List.length_take, List.length_drop, List.getElem?_take, if_pos (by omega), List.getElem?_drop, List.getElem?_eq_getElem (by omega)]
        congr 1
        congr 1
        omega
      have hb1 : bt (B l) (n : Int) = ((l[n]).toNat : Int) := bt_nat (B l) n (by rw [L_B]; exact hn1)
      have hb2 : word_other.f (bt (B l) ((l.length - 1 - n : Nat) : Int)) = some ((oth (l[l.length - 1 - n])).toNat : Int) := other_bt (B l) (l.length - 1 - n) (by rw [L_B]; exact hn2)
      have hm : ((l.drop n).take (l.length - 2 * n)).length = l.length - 2 * n := by simp; omega
      by_cases hx : l[n] = oth (l[l.length - 1 - n])
      · have hc : 2 ≤ ((l.drop n).take (l.length - 2 * n)).length ∧ ((l.drop n).take (l.length - 2 * n)).head? = (((l.drop n).take (l.length - 2 * n)).getLast?).map oth := ⟨by omega, by rw [hh, ht, hx]; rfl⟩
        have ht1 : ((l.drop n).take (l.length - 2 * n)).take 1 = [l[n]] := by
          rw [List.take_take, show min 1 (l.length - 2 * n) = 1 by omega, List.drop_eq_getElem_cons hn1]; rfl
        have := ih (n + 1) (by omega) (by omega)
        rw [← mid_step l n hlen] at this
        rw [peel, if_pos hc, ht1]
        rw [List.take_succ_eq_append_getElem hn1, List.append_assoc] at this
        refine Ev.step (fun k => ?_) this
        simp only [word_cyclic.l0]
        rw [h2 n hn, if_pos (by omega), if_pos (by omega), if_pos (by rw [size_B]; omega), h3 n hn1, if_pos (by omega), if_pos (by rw [size_B]; omega), hb2]
        simp only [Option.bind_some]
        rw [hb1, if_pos (by rw [hx]), w64_succ n (by omega)]
      · have hc : ¬ (2 ≤ ((l.drop n).take (l.length - 2 * n)).length ∧ ((l.drop n).take (l.length - 2 * n)).head? = (((l.drop n).take (l.length - 2 * n)).getLast?).map oth) := by
          rintro ⟨_, h⟩
          rw [hh, ht] at h
          exact hx (Option.some.inj h)
        rw [peel, if_neg hc]
        refine ev_some _ _ (fun k => ?_)
        simp only [word_cyclic.l0]
        rw [h2 n hn, if_pos (by omega), if_pos (by omega), if_pos (by rw [size_B]; omega), h3 n hn1, if_pos (by omega), if_pos (by rw [size_B]; omega), hb2]
        simp only [Option.bind_some]
        have hxi : ¬ ((l[n]).toNat : Int) = ((oth (l[l.length - 1 - n])).toNat : Int) := fun e => hx (UInt8.toNat_inj.mp (Int.ofNat.inj e))
        rw [hb1, if_neg hxi, if_pos g1, if_pos g2, if_pos g3, e1, e2, List.append_nil]
    · have hm : ((l.drop n).take (l.length - 2 * n)).length = l.length - 2 * n := by simp; omega
      have hc : ¬ (2 ≤ ((l.drop n).take (l.length - 2 * n)).length ∧ ((l.drop n).take (l.length - 2 * n)).head? = (((l.drop n).take (l.length - 2 * n)).getLast?).map oth) := by
        rintro ⟨h, _⟩; omega
      rw [peel, if_neg hc]
      refine ev_some _ _ (fun k => ?_)
      simp only [word_cyclic.l0]
      rw [h2 n hn, if_neg (by omega), if_pos (by omega), if_pos g1, if_pos g2, if_pos g3, e1, e2, List.append_nil]
theorem cyclic_ev (s : ByteArray) (h : s.size < 140737488355328) : Ev (fun k => word_cyclic.f k s) (B (cyc (red (L s))).2, B (cyc (red (L s))).1) := by
  unfold word_cyclic.f
  have h1 := reduce_ev [s] (by rw [cat_one, ← size_L]; omega) (by simp)
  rw [cat_one] at h1
  refine Ev.bind (f := fun k t => word_cyclic.l0 k t 0) h1 ?_
  have hl := red_length (L s)
  rw [← size_L] at hl
  have := cyclic_l0 (red (L s)) (by omega) (red (L s)).length 0 (by omega) (by omega)
  simpa [cyc] using this
/-- The power, if it is short enough. -/
def powL (l : List UInt8) (n : Int) : Option (List UInt8) :=
  let c := (cyc (red l)).1
  let x := if n < 0 then inv (cyc (red l)).2 else (cyc (red l)).2
  if x = [] ∨ n = 0 then some []
  else if 100000 < n.natAbs ∨ 100000 < x.length * n.natAbs + 2 * c.length then none
  else some (c ++ Lib.repeatL x n.natAbs ++ inv c)
theorem peel_length : ∀ (f : Nat) (l : List UInt8), 2 * (peel f l).1.length + (peel f l).2.length = l.length
  | 0, l => by simp [peel]
  | f + 1, l => by
    rw [peel]
    split
    · rename_i h
      have := peel_length f l.tail.dropLast
      simp only [List.length_append, List.length_take, List.length_dropLast, List.length_tail] at this ⊢
      omega
    · simp
theorem cyc_length (l : List UInt8) : 2 * (cyc l).1.length + (cyc l).2.length = l.length := peel_length _ _
theorem power_j (c x : List UInt8) (n : Nat) (hc : c.length ≤ 1000000) (hx : x.length ≤ 1000000) (hn : n ≤ 9223372036854775807) :
    Ev (fun k => word_power.j0 k (n : Int) (B x) (B c)) (if x = [] ∨ n = 0 then (B [], true) else if 100000 < n ∨ 100000 < x.length * n + 2 * c.length then (B [], false) else (B (c ++ Lib.repeatL x n ++ inv c), true)) := by
  have hb : (B []) = (⟨#[]⟩ : ByteArray) := rfl
  by_cases h1 : x = [] ∨ n = 0
  · rw [if_pos h1]
    refine Ev.step (f := fun k => word_power.j1 k (n : Int) (B x) (B c) true) (fun k => ?_) (ev_some _ _ (fun k => ?_))
    · simp only [word_power.j0]
      rw [toList_L, L_B]
      by_cases hx0 : x = []
      · rw [if_pos hx0]
      · rw [if_neg hx0]
        have : n = 0 := h1.resolve_left hx0
        subst this
        rfl
    · simp only [word_power.j1]
      rfl
  · rw [if_neg h1]
    have hx0 : ¬ x = [] := fun h => h1 (.inl h)
    have hn0 : ((n : Int) == 0) = false := by rw [beq_eq_false_iff_ne]; intro h; exact h1 (.inr (by omega))
    have hstep : ∀ r, Ev (fun k => word_power.j1 k (n : Int) (B x) (B c) false) r → Ev (fun k => word_power.j0 k (n : Int) (B x) (B c)) r := by
      intro r hr
      refine Ev.step (fun k => ?_) hr
      simp only [word_power.j0]
      rw [toList_L, L_B, if_neg hx0, hn0]
    apply hstep
    have hstep2 : ∀ r (b : Bool), b = decide (100000 < n ∨ 100000 < x.length * n + 2 * c.length) → Ev (fun k => word_power.j2 k (n : Int) (B x) (B c) b) r → Ev (fun k => word_power.j1 k (n : Int) (B x) (B c) false) r := by
      intro r b hb' hr
      refine Ev.step (fun k => ?_) hr
      simp only [word_power.j1]
      rw [if_neg (by decide)]
      by_cases h2 : 100000 < n
      · rw [if_pos (by omega), hb', decide_eq_true (.inl h2)]
      · rw [if_neg (by omega)]
        have hm : x.length * n ≤ 1000000 * 100000 := Nat.mul_le_mul hx (by omega)
        have e1 : wrap64 (((B x).size : Int) * (n : Int)) = ((x.length * n : Nat) : Int) := by rw [size_B, w64 _ (by rw [← Int.natCast_mul]; omega) (by rw [← Int.natCast_mul]; omega)]; exact (Int.natCast_mul _ _).symm
        have e2 : wrap64 (2 * ((B c).size : Int)) = ((2 * c.length : Nat) : Int) := by rw [size_B, w64 _ (by omega) (by omega)]; omega
        rw [e1, e2, hb']
        congr 1
        rw [decide_eq_decide]
        clear e1 e2 hstep
        rw [w64 _ (by omega) (by omega)]
        constructor
        · intro h; exact .inr (by omega)
        · rintro (h | h)
          · exact absurd h h2
          · omega
    by_cases h2 : 100000 < n ∨ 100000 < x.length * n + 2 * c.length
    · rw [if_pos h2]
      refine hstep2 _ true (decide_eq_true h2).symm (ev_some _ _ (fun k => ?_))
      simp only [word_power.j2]
      rfl
    · rw [if_neg h2]
      refine hstep2 _ false (decide_eq_false h2).symm ?_
      have hm : x.length * n ≤ 100000 := by omega
      have hrl : (Lib.repeatL x n).length = n * x.length := Lib.repeatL_length x n
      have hrl' : (Lib.repeatL x n).length ≤ 100000 := by rw [hrl, Nat.mul_comm]; exact hm
      have hrep : strings_Repeat.f (B x) (n : Int) = some (B (Lib.repeatL x n)) := by
        unfold strings_Repeat.f
        rw [if_pos ⟨by omega, by omega, by rw [size_B, Int.toNat_natCast]; omega⟩, Int.toNat_natCast]
        rfl
      have hi := inverse_ev (B c) (by rw [size_B]; omega)
      rw [L_B] at hi
      refine Ev.step (f := fun k => (word_inverse.f k (B c)).bind fun t => some ((B c ++ B (Lib.repeatL x n)) ++ t, true)) (fun k => ?_) ?_
      · simp only [word_power.j2]
        rw [if_neg (by decide), hrep]
        simp only [Option.bind_some]
        rw [if_pos (by rw [size_B, size_B]; omega)]
        cases hq : word_inverse.f k (B c) with
        | none => rfl
        | some t =>
          simp only [Option.bind_some]
          have ht : t = B (inv c) := by
            obtain ⟨K, hK⟩ := hi
            have h1 := at_rounds (word_inverse.mono (B c)) (Nat.le_add_right k K) hq
            have h2 := hK (k + K) (by omega)
            dsimp only at h2
            rw [h1] at h2
            exact Option.some.inj h2
          rw [if_pos (by rw [ht, B_append, size_B, size_B, List.length_append, inv_length]; omega)]
      · have := Ev.bind (f := fun _ t => some ((B c ++ B (Lib.repeatL x n)) ++ t, true)) hi (Ev.now _)
        rw [B_append, B_append] at this
        rw [B_append]
        exact this
theorem power_ev (s : ByteArray) (hs : s.size ≤ 1000000) (n : Int) (h0 : -9223372036854775808 < n) (h1 : n ≤ 9223372036854775807) :
    Ev (fun k => word_power.f k s n) (match powL (L s) n with | some l => (B l, true) | none => (B [], false)) := by
  have hc := cyc_length (red (L s))
  have hr := red_length (L s)
  rw [← size_L] at hr
  unfold word_power.f powL
  refine Ev.bind (f := fun k (bt : ByteArray × ByteArray) => if n < 0 then ((word_inverse.f k bt.1).bind fun t => (if n = (wrap64 (-n)) then (some ((⟨#[]⟩ : ByteArray), (t.toList == ([] : List UInt8)))) else (word_power.j0 k (wrap64 (-n)) t bt.2))) else (word_power.j0 k n bt.1 bt.2)) (cyclic_ev s (by omega)) ?_
  obtain ⟨c, hc'⟩ : ∃ c, (cyc (red (L s))).1 = c := ⟨_, rfl⟩
  obtain ⟨x, hx'⟩ : ∃ x, (cyc (red (L s))).2 = x := ⟨_, rfl⟩
  rw [hc', hx'] at hc ⊢
  dsimp only
  by_cases hn : n < 0
  · rw [if_pos hn]
    have hi := inverse_ev (B x) (by rw [size_B]; omega)
    rw [L_B] at hi
    refine Ev.congr (f := fun k => (word_inverse.f k (B x)).bind fun t => word_power.j0 k ((n.natAbs : Nat) : Int) t (B c)) (fun k => ?_) ?_
    · rw [if_pos hn]
      congr 1
      funext t
      have hw : wrap64 (-n) = ((n.natAbs : Nat) : Int) := by rw [w64 _ (by omega) (by omega)]; omega
      rw [hw, if_neg (by omega)]
    · refine Ev.bind (f := fun k t => word_power.j0 k ((n.natAbs : Nat) : Int) t (B c)) hi ?_
      have := power_j c (inv x) n.natAbs (by omega) (by rw [inv_length]; omega) (by omega)
      have e : (inv x = [] ∨ n.natAbs = 0) ↔ (inv x = [] ∨ n = 0) := by
        constructor
        · rintro (h | h)
          · exact .inl h
          · exact .inr (by omega)
        · rintro (h | h)
          · exact .inl h
          · exact .inr (by omega)
      by_cases h2 : inv x = [] ∨ n = 0
      · rw [if_pos (e.mpr h2)] at this; rw [if_pos h2]; exact this
      · rw [if_neg (fun h => h2 (e.mp h))] at this; rw [if_neg h2]
        by_cases h3 : 100000 < n.natAbs ∨ 100000 < (inv x).length * n.natAbs + 2 * c.length
        · rw [if_pos h3] at this ⊢; exact this
        · rw [if_neg h3] at this ⊢; exact this
  · rw [if_neg hn]
    obtain ⟨m, rfl⟩ := Int.eq_ofNat_of_zero_le (a := n) (by omega)
    refine Ev.congr (f := fun k => word_power.j0 k (m : Int) (B x) (B c)) (fun k => ?_) ?_
    · rw [if_neg hn]
    · have := power_j c x m (by omega) (by omega) (by omega)
      rw [Int.natAbs_natCast]
      have e : (x = [] ∨ m = 0) ↔ (x = [] ∨ (m : Int) = 0) := by
        constructor
        · rintro (h | h)
          · exact .inl h
          · exact .inr (by omega)
        · rintro (h | h)
          · exact .inl h
          · exact .inr (by omega)
      by_cases h2 : x = [] ∨ (m : Int) = 0
      · rw [if_pos (e.mpr h2)] at this; rw [if_pos h2]; exact this
      · rw [if_neg (fun h => h2 (e.mp h))] at this; rw [if_neg h2]
        by_cases h3 : 100000 < m ∨ 100000 < x.length * m + 2 * c.length
        · rw [if_pos h3] at this ⊢; exact this
        · rw [if_neg h3] at this ⊢; exact this
end Go.Proofs.YthiehmogphknlaaGreatDoor.Pure1
namespace Go.Proofs.YthiehmogphknlaaGreatDoor.Pure1
open Go.RowKit Go.Proofs.YthiehmogphknlaaGreatDoor.G Go.Proofs.YthiehmogphknlaaGreatDoor.PA Go.Proofs.YthiehmogphknlaaGreatDoorW.PrintWords Go.Proofs.YthiehmogphknlaaGreatDoor.Free
theorem rIndex (k : Nat) (c : Int) (h0 : 0 ≤ c) (h1 : c ≤ 255) : cayleyref01_Index.f (k + 1) c = some (idx c) := by
  unfold cayleyref01_Index.f idx
  simp only [cayleyref01_Index.j0]
  by_cases a : 97 ≤ c
  · by_cases b : c < 105
    · have e : (c - 97) % 256 = c - 97 := by omega
      simp [a, b, e]
    · have e1 : ¬ c < 73 := by omega
      simp [a, b, e1]
  · by_cases b : 65 ≤ c
    · by_cases d : c < 73
      · have e : (c - 65) % 256 = c - 65 := by omega
        simp [a, b, d, e]
      · simp [a, b, d]
    · simp [a, b]
theorem w64_two (k : Int) (h0 : 1 ≤ k) (h1 : k ≤ 8) : wrap64 (2 * k) = 2 * k := w64 _ (by omega) (by omega)
theorem rCheck_l0 (kk : Int) (h0 : 1 ≤ kk) (h1 : kk ≤ 8) (s : ByteArray) (hs : s.size ≤ 140737488355328) : ∀ (d i : Nat), i + d = s.size →
    Ev (fun k => cayleyref01_Check.l0 k kk s (i : Int)) (if ((L s).drop i).any (noL kk) = true then 4 else 0) := by
  intro d
  induction d with
  | zero =>
    intro i hi
    refine ev_some _ _ (fun k => ?_)
    simp only [cayleyref01_Check.l0]
    rw [if_neg (by omega), List.drop_eq_nil_of_le (by rw [← size_L]; omega)]
    rfl
  | succ d ih =>
    intro i hi
    have hlt : i < (L s).length := by rw [← size_L]; omega
    have hr := bt_range s (i : Int)
    have key : ((L s).drop i).any (noL kk) = (noL kk ((L s)[i]) || ((L s).drop (i + 1)).any (noL kk)) := by
      rw [List.drop_eq_getElem_cons hlt, List.any_cons]
    have hb := bt_nat s i hlt
    refine Ev.step (f := fun k => (cayleyref01_Index.f k (bt s (i : Int))).bind fun t171 => (if t171 < 0 then (some 4) else (if t171 ≥ (wrap64 (2 * kk)) then (some 4) else (cayleyref01_Check.l0 k kk s (wrap64 ((i : Int) + 1)))))) (fun k => ?_) ?_
    · simp only [cayleyref01_Check.l0]
      rw [if_pos (by omega), if_pos (by omega)]
    · refine Ev.bind (a := idx (bt s (i : Int))) (Ev.step (f := fun _ => some (idx (bt s (i : Int)))) (fun k => rIndex k _ hr.1 hr.2) (Ev.now _)) ?_
      rw [w64_two kk h0 h1, w64_succ i (by omega), key]
      unfold noL
      rw [hb]
      by_cases a : idx (((L s)[i]).toNat : Int) < 0
      · rw [decide_eq_true a, Bool.true_or, Bool.true_or, if_pos rfl]
        refine Ev.congr (f := fun _ => some 4) (fun k => ?_) (Ev.now _)
        rw [if_pos a]
      · rw [decide_eq_false a]
        by_cases b : 2 * kk ≤ idx (((L s)[i]).toNat : Int)
        · rw [decide_eq_true b, Bool.or_true, Bool.true_or, if_pos rfl]
          refine Ev.congr (f := fun _ => some 4) (fun k => ?_) (Ev.now _)
          rw [if_neg a, if_pos b]
        · rw [decide_eq_false b, Bool.or_false, Bool.false_or]
          refine Ev.congr (f := fun k => cayleyref01_Check.l0 k kk s ((i + 1 : Nat) : Int)) (fun k => ?_) (ih (i + 1) (by omega))
          rw [if_neg a, if_neg b]
theorem rCheck_ev (kk : Int) (s : ByteArray) (hs : s.size ≤ 140737488355328) : Ev (fun k => cayleyref01_Check.f k kk s) (chkL kk s) := by
  have e : ∀ k, cayleyref01_Check.f k kk s = cayleyref01_Check.j0 k kk s (decide (kk < 1 ∨ 8 < kk)) := by
    intro k
    unfold cayleyref01_Check.f
    by_cases a : kk < 1
    · rw [if_pos a, decide_eq_true (Or.inl a)]
    · rw [if_neg a]
      congr 1
      exact decide_eq_decide.2 ⟨fun h => Or.inr h, fun h => h.resolve_left a⟩
  refine Ev.congr e ?_
  unfold chkL
  by_cases a : kk < 1 ∨ 8 < kk
  · rw [if_pos a, decide_eq_true a]
    exact ev_some _ _ (fun k => by simp only [cayleyref01_Check.j0]; rw [if_pos trivial])
  · rw [if_neg a, decide_eq_false a]
    by_cases b : 100000 < s.size
    · rw [if_pos b]
      exact ev_some _ _ (fun k => by simp only [cayleyref01_Check.j0]; rw [if_neg (by simp), if_pos (by omega)])
    · rw [if_neg b]
      refine Ev.step (f := fun k => cayleyref01_Check.l0 k kk s ((0 : Nat) : Int)) (fun k => ?_) ?_
      · simp only [cayleyref01_Check.j0]
        rw [if_neg (by simp), if_neg (by omega)]
        rfl
      · exact rCheck_l0 kk (by omega) (by omega) s hs s.size 0 (by omega)
theorem rIs_ev (s : ByteArray) (hs : s.size ≤ 140737488355328) : Ev (fun k => cayleyref01_Is.f k s) (decide (Wd s)) := by
  unfold cayleyref01_Is.f
  refine Ev.bind (f := fun _ t => some (t == 0)) (rCheck_ev 8 s hs) ?_
  have : (chkL 8 s == 0) = decide (Wd s) := by
    by_cases h : Wd s
    · rw [decide_eq_true h, (chkL_8 s).2 h]; rfl
    · rw [decide_eq_false h]
      exact beq_eq_false_iff_ne.2 (fun e => h ((chkL_8 s).1 e))
  rw [this]
  exact Ev.now _
/-- A word of at most 1000 letters. -/
def Sw (s : ByteArray) : Prop := s.size ≤ 1000 ∧ ∀ c ∈ L s, isL c = true
instance (s : ByteArray) : Decidable (Sw s) := by unfold Sw; infer_instance
/-- Shortlex, of equal lengths. -/
def cmpL : List UInt8 → List UInt8 → Int
  | a :: u, b :: v => if idx (a.toNat : Int) < idx (b.toNat : Int) then -1 else if idx (b.toNat : Int) < idx (a.toNat : Int) then 1 else cmpL u v
  | _, _ => 0
def cmp (u v : List UInt8) : Int := if u.length = v.length then cmpL u v else if u.length < v.length then -1 else 1
end Go.Proofs.YthiehmogphknlaaGreatDoor.Pure1
