/- What the printed functions of package word come to, as plain functions of lists: is, inverse, reduce. -/
import Derived.Test.YthiehmogphknlaaGreatDoorPAx
import Derived.Test.YthiehmogphknlaaGreatDoorFree
import Derived.Lib.LazyBuf
namespace Go.Proofs.YthiehmogphknlaaGreatDoor.Pure1
open Go.RowKit Go.Proofs.YthiehmogphknlaaGreatDoor.G Go.Proofs.YthiehmogphknlaaGreatDoor.PA Go.Proofs.YthiehmogphknlaaGreatDoorW.PrintWords Go.Proofs.YthiehmogphknlaaGreatDoor.Free

def L (s : ByteArray) : List UInt8 := s.data.toList
def B (l : List UInt8) : ByteArray := ⟨l.toArray⟩
def toI (l : List UInt8) : List Int := l.map fun b => (b.toNat : Int)
theorem L_B (l : List UInt8) : L (B l) = l := rfl
theorem B_L (s : ByteArray) : B (L s) = s := rfl
theorem size_L (s : ByteArray) : s.size = (L s).length := rfl
theorem size_B (l : List UInt8) : (B l).size = l.length := rfl
theorem str_toI (l : List UInt8) : strOfNums (toI l) = B l := Lib.Lz.strOfNums_map l
theorem toI_append (a b : List UInt8) : toI (a ++ b) = toI a ++ toI b := by simp [toI]
theorem toI_length (a : List UInt8) : (toI a).length = a.length := by simp [toI]
theorem bt_nat (s : ByteArray) (i : Nat) (h : i < (L s).length) : bt s (i : Int) = (((L s)[i]).toNat : Int) := by
  unfold bt
  rw [dif_pos (show (i : Int).toNat < s.size from h)]
  rfl
theorem xor32 (c : UInt8) : Go.bits .xor .u8 (c.toNat : Int) 32 = ((oth c).toNat : Int) := by
  have key : ∀ n : Fin 256, Go.bits .xor .u8 ((UInt8.ofFin n).toNat : Int) 32 = ((oth (UInt8.ofFin n)).toNat : Int) := by decide +kernel
  have := key c.toFin
  simpa using this
theorem other_bt (s : ByteArray) (i : Nat) (h : i < (L s).length) : word_other.f (bt s (i : Int)) = some ((oth ((L s)[i])).toNat : Int) := by
  unfold word_other.f
  rw [bt_nat s i h, xor32]
theorem ev_some {α : Type} (r : α) (g : Nat → Option α) (h : ∀ k, g (k + 1) = some r) : Ev g r := Ev.step h (Ev.now r)

theorem w64 (x : Int) (h0 : -9223372036854775808 ≤ x) (h1 : x ≤ 9223372036854775807) : wrap64 x = x := by unfold wrap64; omega

theorem w64_succ (i : Nat) (h : i < 9223372036854775807) : wrap64 ((i : Int) + 1) = ((i + 1 : Nat) : Int) := by rw [w64 _ (by omega) (by omega)]; rfl
theorem w64_pred (m : Nat) (h : m < 9223372036854775807) : wrap64 (((m + 1 : Nat) : Int) - 1) = (m : Int) := by rw [w64 _ (by omega) (by omega)]; omega
theorem inverse_l0 (s : ByteArray) (hs : s.size ≤ 140737488355328) : ∀ (d i : Nat), i + d = s.size →
    Ev (fun k => word_inverse.l0 k s (List.replicate (s.size - i) 0 ++ toI (inv ((L s).take i))) (s.size : Int) (i : Int)) (B (inv (L s))) := by
  intro d
  induction d with
  | zero =>
    intro i hi
    refine ev_some _ _ (fun k => ?_)
    simp only [word_inverse.l0]
    rw [if_neg (by omega), show s.size - i = 0 by omega, List.replicate_zero, List.nil_append, str_toI, List.take_of_length_le (by rw [← size_L]; omega)]
  | succ d ih =>
    intro i hi
    have hlt : i < (L s).length := by rw [← size_L]; omega
    refine Ev.step (f := fun k => word_inverse.l0 k s (List.replicate (s.size - (i + 1)) 0 ++ toI (inv ((L s).take (i + 1)))) (s.size : Int) ((i + 1 : Nat) : Int)) (fun k => ?_) (ih (i + 1) (by omega))
    simp only [word_inverse.l0]
    rw [if_pos (by omega), if_pos (by omega), if_pos (by omega), other_bt s i hlt]
    simp only [Option.bind_some]
    rw [show wrap64 ((s.size : Int) - 1) = (s.size : Int) - 1 from w64 _ (by omega) (by omega), show wrap64 ((s.size : Int) - 1 - (i : Int)) = ((s.size - (i + 1) : Nat) : Int) by rw [w64 _ (by omega) (by omega)]; omega]
    rw [if_pos (by omega), if_pos (by rw [List.length_append, List.length_replicate]; omega), show wrap64 ((i : Int) + 1) = ((i + 1 : Nat) : Int) by rw [w64 _ (by omega) (by omega)]; rfl]
    rw [Int.toNat_natCast]
    congr 1
    rw [show s.size - i = (s.size - (i + 1)) + 1 by omega, List.replicate_succ', List.append_assoc, List.set_append_right _ _ (by simp)]
    rw [List.length_replicate, Nat.sub_self, List.singleton_append, List.set_cons_zero]
    congr 1
    rw [List.take_succ_eq_append_getElem hlt, inv_append, show inv [(L s)[i]] = [oth ((L s)[i])] from rfl, toI_append]
    rfl
theorem inverse_ev (s : ByteArray) (hs : s.size ≤ 140737488355328) : Ev (fun k => word_inverse.f k s) (B (inv (L s))) := by
  refine Ev.congr (f := fun k => word_inverse.l0 k s (List.replicate (s.size - 0) 0 ++ toI (inv ((L s).take 0))) (s.size : Int) ((0 : Nat) : Int)) (fun k => ?_) (inverse_l0 s hs s.size 0 (by omega))
  unfold word_inverse.f
  rw [if_pos (by omega), if_pos (by rw [Int.toNat_natCast]; omega), Int.toNat_natCast]
  congr 1
  simp [inv, toI]

/-- What lies behind element j. -/
def rest (l : List ByteArray) (j : Nat) : List UInt8 := (l.drop j).flatMap L

theorem reduce_l1 (l : List ByteArray) (j : Nat) (s : ByteArray) (hs : s.size ≤ 140737488355328) (hT : Nat) (hTb : hT < 140737488355328) (n : Nat) (hn : n ≤ 9223372036854775806) (hj : j < n) :
    ∀ (d i : Nat) (st : List UInt8), i + d = s.size → st.length + (s.size - i) ≤ hT →
    (∀ st', st'.length ≤ st.length + (s.size - i) → Ev (fun k => word_reduce.l0 k (toI st'.reverse) l (n : Int) ((j + 1 : Nat) : Int)) (B (run st' (rest l (j + 1))).reverse)) →
    Ev (fun k => word_reduce.l1 k (toI st.reverse) s l (n : Int) (j : Int) (s.size : Int) (i : Int)) (B (run (run st ((L s).drop i)) (rest l (j + 1))).reverse) := by
  intro d
  induction d with
  | zero =>
    intro i st hi hb h0
    refine Ev.step (f := fun k => word_reduce.l0 k (toI st.reverse) l (n : Int) ((j + 1 : Nat) : Int)) (fun k => ?_) ?_
    · simp only [word_reduce.l1]
      rw [if_neg (by omega), w64_succ j (by omega)]
    · rw [List.drop_of_length_le (by rw [← size_L]; omega), run_nil]
      exact h0 st (by omega)
  | succ d ih =>
    intro i st hi hb h0
    have hlt : i < (L s).length := by rw [← size_L]; omega
    have hdrop : (L s).drop i = (L s)[i] :: (L s).drop (i + 1) := List.drop_eq_getElem_cons hlt
    obtain ⟨c, hc⟩ : ∃ c, (L s)[i] = c := ⟨_, rfl⟩
    rw [hdrop, run_cons, hc]
    have hlen : (push st c).length ≤ st.length + 1 := by
      cases st with
      | nil => simp [push]
      | cons x t => rw [push_cons]; split <;> simp <;> omega
    refine Ev.step (f := fun k => word_reduce.l1 k (toI (push st c).reverse) s l (n : Int) (j : Int) (s.size : Int) ((i + 1 : Nat) : Int)) (fun k => ?_) (ih (i + 1) (push st c) (by omega) (by omega) (fun st' h' => h0 st' (by omega)))
    simp only [word_reduce.l1]
    have q1 : (i : Int) < (s.size : Int) := by omega
    have q2 : 0 ≤ (i : Int) := by omega
    have qi : i < 9223372036854775807 := by omega
    have ho := other_bt s i hlt
    have hbt := bt_nat s i hlt
    rw [hc] at ho hbt
    rw [if_pos q1]
    cases st with
    | nil =>
      have q3 : ¬ ((toI ([] : List UInt8).reverse).length : Int) > 0 := by simp [toI]
      have q4 : (toI ([] : List UInt8).reverse).length < 140737488355328 := by simp [toI]
      rw [if_neg q3, if_pos q2, if_pos q1, if_pos q4, w64_succ i qi, hbt]
      rfl
    | cons x t =>
      have hb' : t.length + 1 + (s.size - i) ≤ hT := by simpa using hb
      have hl : (toI (x :: t).reverse).length = t.length + 1 := by rw [toI_length]; simp
      have q3 : ((toI (x :: t).reverse).length : Int) > 0 := by rw [hl]; omega
      have qt : t.length < 9223372036854775807 := by omega
      have q4 : 0 ≤ (t.length : Int) := by omega
      have q5 : (t.length : Int) < ((toI (x :: t).reverse).length : Int) := by rw [hl]; omega
      have q6 : (t.length : Int) ≤ ((toI (x :: t).reverse).length : Int) := by omega
      have q7 : (toI (x :: t).reverse).length < 140737488355328 := by rw [hl]; omega
      have hsub : wrap64 (((toI (x :: t).reverse).length : Int) - 1) = (t.length : Int) := by rw [hl]; exact w64_pred _ qt
      rw [if_pos q3, hsub, if_pos q4, if_pos q5, if_pos q2, if_pos q1, ho]
      simp only [Option.bind_some]
      have hrd : rd (toI (x :: t).reverse) (t.length : Int) = (x.toNat : Int) := by
        unfold rd
        rw [Int.toNat_natCast, List.reverse_cons, toI_append, List.getD_eq_getElem?_getD, List.getElem?_append_right (by rw [toI_length]; simp)]
        rw [toI_length, List.length_reverse, Nat.sub_self]
        rfl
      rw [hrd, push_cons]
      by_cases hx : x = oth c
      · have q8 : (x.toNat : Int) = ((oth c).toNat : Int) := by rw [hx]
        rw [if_pos q8, if_pos q6, if_pos hx, w64_succ i qi, Int.toNat_natCast, List.reverse_cons, toI_append, List.take_left' (by rw [toI_length]; simp)]
      · have q8 : ¬ (x.toNat : Int) = ((oth c).toNat : Int) := by intro e; exact hx (UInt8.toNat_inj.mp (Int.ofNat.inj e))
        rw [if_neg q8, if_neg hx, if_pos q7, w64_succ i qi, hbt, List.reverse_cons (a := c), toI_append]
        rfl

theorem reduce_l0 (l : List ByteArray) (hT : Nat) (hTb : hT < 140737488355328) (hn : l.length ≤ 9223372036854775806) : ∀ (d j : Nat) (st : List UInt8), j + d = l.length → st.length + (rest l j).length ≤ hT →
    Ev (fun k => word_reduce.l0 k (toI st.reverse) l (l.length : Int) (j : Int)) (B (run st (rest l j)).reverse) := by
  intro d
  induction d with
  | zero =>
    intro j st hj hb
    refine ev_some _ _ (fun k => ?_)
    simp only [word_reduce.l0]
    rw [if_neg (by omega), str_toI]
    unfold rest
    rw [List.drop_of_length_le (by omega)]
    rfl
  | succ d ih =>
    intro j st hj hb
    have hlt : j < l.length := by omega
    have hdrop : l.drop j = l[j] :: l.drop (j + 1) := List.drop_eq_getElem_cons hlt
    have hrest : rest l j = L l[j] ++ rest l (j + 1) := by unfold rest; rw [hdrop, List.flatMap_cons]
    obtain ⟨s, hs⟩ : ∃ s, l[j] = s := ⟨_, rfl⟩
    rw [hs] at hrest
    rw [hrest] at hb ⊢
    rw [List.length_append, ← size_L] at hb
    rw [run_append]
    have h1 := reduce_l1 l j s (by omega) hT hTb l.length hn hlt s.size 0 st (by omega) (by omega) (fun st' h' => ih (j + 1) st' (by omega) (by omega))
    rw [List.drop_zero] at h1
    refine Ev.step (fun k => ?_) h1
    simp only [word_reduce.l0]
    have hg : rdOf ByteArray.empty l (j : Int) = s := by
      unfold rdOf
      rw [Int.toNat_natCast, List.getD_eq_getElem?_getD, List.getElem?_eq_getElem hlt, hs]
      rfl
    rw [if_pos (by omega), if_pos (by omega), if_pos (by omega), hg]
    rfl

/-- The strings, one behind the other. -/
def cat (l : List ByteArray) : List UInt8 := l.flatMap L
theorem reduce_ev (l : List ByteArray) (h : (cat l).length < 140737488355328) (hn : l.length ≤ 9223372036854775806) : Ev (fun k => word_reduce.f k l) (B (red (cat l))) := by
  have := reduce_l0 l (cat l).length h hn l.length 0 [] (by omega) (by simp [rest, cat])
  exact this

/-- A word of eight generators. -/
def isL (c : UInt8) : Bool := decide (0 ≤ idx (c.toNat : Int))
def Wd (s : ByteArray) : Prop := s.size ≤ 100000 ∧ ∀ c ∈ L s, isL c = true
instance (s : ByteArray) : Decidable (Wd s) := by unfold Wd; infer_instance

end Go.Proofs.YthiehmogphknlaaGreatDoor.Pure1
