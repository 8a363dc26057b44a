/- The reference's letters. -/
import Derived.Test.YthiehmogphknlaaGreatDoorLawKit
import Derived.Lib.Join
import Derived.Test.YthiehmogphknlaaGreatDoorPTx0
import Derived.Test.YthiehmogphknlaaGreatDoorPTx1
import Derived.Test.YthiehmogphknlaaGreatDoorMath
import Derived.Test.YthiehmogphknlaaGreatDoorPVx0
import Derived.Test.YthiehmogphknlaaGreatDoorPVx1
import Derived.Test.YthiehmogphknlaaGreatDoorPVx2
import Derived.Test.YthiehmogphknlaaGreatDoorPVx3
namespace Go.Proofs.YthiehmogphknlaaGreatDoor.Laws
open Go.RowKit Go.Proofs.YthiehmogphknlaaGreatDoor.G Go.Proofs.YthiehmogphknlaaGreatDoor.PA Go.Proofs.YthiehmogphknlaaGreatDoorW.PrintWords Go.Proofs.YthiehmogphknlaaGreatDoor.Free Go.Proofs.YthiehmogphknlaaGreatDoor.Pure1
theorem rLetter (k : Nat) (n : Int) : cayleyref01_Letter.f (k + 1) n = some (let_ n) := by
  unfold cayleyref01_Letter.f let_
  simp only [cayleyref01_Letter.j0]
  by_cases a : n < 0
  · simp [a]
  · rw [if_neg a]
    by_cases b : 16 ≤ n
    · simp [a, b]
    · have h0 : 0 ≤ n := by omega
      have e1 : Int.tmod n 2 = n % 2 := by rw [Int.tmod_eq_emod_of_nonneg h0]
      have e2 : Int.tdiv n 2 = n / 2 := by rw [Int.tdiv_eq_ediv_of_nonneg h0]
      have e3 : wrap64 (n / 2) = n / 2 := by unfold wrap64; omega
      rw [if_neg (by simp; omega), e1, e2, e3, if_neg (show ¬ (n < 0 ∨ 16 ≤ n) by omega)]
      by_cases c : n % 2 = 0
      · rw [if_pos c, if_pos c]; congr 1; omega
      · rw [if_neg c, if_neg c]; congr 1; omega
set_option maxRecDepth 100000 in
theorem let_oth_all : ∀ n : Fin 256, isL (UInt8.ofNat n) = true → let_ (Go.bits .xor .i64 (idx ((UInt8.ofNat n).toNat : Int)) 1) = ((oth (UInt8.ofNat n)).toNat : Int) := by decide +kernel
theorem let_oth (c : UInt8) (h : isL c = true) : let_ (Go.bits .xor .i64 (idx (c.toNat : Int)) 1) = ((oth c).toNat : Int) := by
  have e : UInt8.ofNat (⟨c.toNat, c.toNat_lt⟩ : Fin 256) = c := by simp
  have := let_oth_all ⟨c.toNat, c.toNat_lt⟩
  rw [e] at this
  exact this h
theorem rOther (k : Nat) (c : UInt8) (h : isL c = true) : cayleyref01_Other.f (k + 1) (c.toNat : Int) = some ((oth c).toNat : Int) := by
  unfold cayleyref01_Other.f
  have h0 := c.toNat_lt
  rw [rIndex k _ (by omega) (by omega)]
  simp only [Option.bind_some]
  rw [rLetter]
  simp only [Option.bind_some]
  rw [let_oth c h]
theorem let_all : ∀ i : Fin 16, (Utf8.encode (let_ i) = B [UInt8.ofNat (let_ i).toNat] ∧ Utf8.encode (let_ (Go.bits .xor .i64 i 1)) = B [oth (UInt8.ofNat (let_ i).toNat)]) ∧ isL (UInt8.ofNat (let_ i).toNat) = true := by
  intro i
  obtain ⟨i, hi⟩ := i
  have : i = 0 ∨ i = 1 ∨ i = 2 ∨ i = 3 ∨ i = 4 ∨ i = 5 ∨ i = 6 ∨ i = 7 ∨ i = 8 ∨ i = 9 ∨ i = 10 ∨ i = 11 ∨ i = 12 ∨ i = 13 ∨ i = 14 ∨ i = 15 := by omega
  rcases this with rfl | rfl | rfl | rfl | rfl | rfl | rfl | rfl | rfl | rfl | rfl | rfl | rfl | rfl | rfl | rfl <;> exact ⟨⟨by kernel_rfl, by kernel_rfl⟩, by kernel_rfl⟩
end Go.Proofs.YthiehmogphknlaaGreatDoor.Laws
namespace Go.Proofs.YthiehmogphknlaaGreatDoor.Laws
open Go.RowKit Go.Proofs.YthiehmogphknlaaGreatDoor.G Go.Proofs.YthiehmogphknlaaGreatDoor.PA Go.Proofs.YthiehmogphknlaaGreatDoorW.PrintWords Go.Proofs.YthiehmogphknlaaGreatDoor.Free Go.Proofs.YthiehmogphknlaaGreatDoor.Pure1 Go.Proofs.YthiehmogphknlaaGreatDoor.Parse
theorem trim_letter (c : UInt8) (l : List UInt8) (h : c ≠ 32) : trimL (c :: l) = c :: l := by
  unfold trimL Lib.trimLeftB
  rw [List.dropWhile_cons_of_neg (by simpa using h)]
theorem trim_blank (l : List UInt8) : trimL (32 :: l) = trimL l := by
  unfold trimL Lib.trimLeftB
  rw [List.dropWhile_cons_of_pos (by simp)]
end Go.Proofs.YthiehmogphknlaaGreatDoor.Laws
namespace Go.Proofs.YthiehmogphknlaaGreatDoor.Laws
open Go.RowKit Go.Proofs.YthiehmogphknlaaGreatDoor.G Go.Proofs.YthiehmogphknlaaGreatDoor.PA Go.Proofs.YthiehmogphknlaaGreatDoor.PT Go.Proofs.YthiehmogphknlaaGreatDoorW.PrintWords Go.Proofs.YthiehmogphknlaaGreatDoor.Free Go.Proofs.YthiehmogphknlaaGreatDoor.Pure1
theorem rOther_ev (c : UInt8) (h : isL c = true) : Ev (fun k => cayleyref01_Other.f k (c.toNat : Int)) ((oth c).toNat : Int) := Ev.step (f := fun _ => some _) (fun k => rOther k c h) (Ev.now _)
theorem rIndex_ev (c : Int) (h0 : 0 ≤ c) (h1 : c ≤ 255) : Ev (fun k => cayleyref01_Index.f k c) (idx c) := Ev.step (f := fun _ => some _) (fun k => rIndex k c h0 h1) (Ev.now _)
theorem rReduce_l0 (s : ByteArray) (hs : s.size ≤ 100000) (hL : ∀ c ∈ L s, isL c = true) : ∀ (d i : Nat) (st : List UInt8), i + d = s.size → st.length ≤ i →
    Ev (fun k => cayleyref01_Reduce.l0 k s (toI st.reverse) (i : Int)) (B (run st ((L s).drop i)).reverse) := by
  intro d
  induction d with
  | zero =>
    intro i st hi _
    refine ev_some _ _ (fun k => ?_)
    simp only [cayleyref01_Reduce.l0]
    rw [if_neg (by omega), List.drop_of_length_le (by rw [← size_L]; omega), run_nil, str_toI]
  | succ d ih =>
    intro i st hi hst
    have hlt : i < (L s).length := by rw [← size_L]; omega
    have hdrop : (L s).drop i = (L s)[i] :: (L s).drop (i + 1) := List.drop_eq_getElem_cons hlt
    have hlet := hL _ (List.getElem_mem hlt)
    have hbt := bt_nat s i hlt
    obtain ⟨c, hc⟩ : ∃ c, (L s)[i] = c := ⟨_, rfl⟩
    rw [hc] at hdrop hlet hbt
    rw [hdrop, run_cons]
    have q1 : (i : Int) < (s.size : Int) := by omega
    have q2 : 0 ≤ (i : Int) := by omega
    have hw := w64_succ i (by omega)
    cases st with
    | nil =>
      have q3 : ¬ ((toI ([] : List UInt8).reverse).length : Int) > 0 := by simp [toI]
      have q4 : (toI ([] : List UInt8).reverse).length < 140737488355328 := by simp [toI]
      refine Ev.step (fun k => ?_) (ih (i + 1) [c] (by omega) (by simp))
      simp only [cayleyref01_Reduce.l0]
      rw [if_pos q1, if_neg q3, if_pos q2, if_pos q4, hw, hbt]
      rfl
    | cons x t =>
      rw [List.length_cons] at hst
      have hl : (toI (x :: t).reverse).length = t.length + 1 := by rw [toI_length]; simp
      have q3 : ((toI (x :: t).reverse).length : Int) > 0 := by rw [hl]; omega
      have q4 : 0 ≤ (t.length : Int) := by omega
      have q5 : (t.length : Int) < ((toI (x :: t).reverse).length : Int) := by rw [hl]; omega
      have q6 : (t.length : Int) ≤ ((toI (x :: t).reverse).length : Int) := by omega
      have q7 : (toI (x :: t).reverse).length < 140737488355328 := by rw [hl]; omega
      have hsub : wrap64 (((toI (x :: t).reverse).length : Int) - 1) = (t.length : Int) := by rw [hl]; exact w64_pred _ (by omega)
      have hrd : rd (toI (x :: t).reverse) (t.length : Int) = (x.toNat : Int) := by
        unfold rd
        rw [Int.toNat_natCast, List.reverse_cons, toI_append, List.getD_eq_getElem?_getD, List.getElem?_append_right (by rw [toI_length]; simp)]
        rw [toI_length, List.length_reverse, Nat.sub_self]
        rfl
      refine Ev.step (f := fun k => (cayleyref01_Other.f k (bt s (i : Int))).bind fun t182 => (if (x.toNat : Int) = t182 then (cayleyref01_Reduce.l0 k s (toI t.reverse) ((i + 1 : Nat) : Int)) else (cayleyref01_Reduce.l0 k s (toI (c :: x :: t).reverse) ((i + 1 : Nat) : Int)))) (fun k => ?_) ?_
      · simp only [cayleyref01_Reduce.l0]
        rw [if_pos q1, if_pos q3, hsub, if_pos q4, if_pos q5, if_pos q2]
        simp only [hrd, if_pos q6, if_pos q7, hw]
        congr 1
        funext t182
        rw [Int.toNat_natCast, List.reverse_cons, toI_append, List.take_left' (by rw [toI_length]; simp), List.reverse_cons (a := c), toI_append, List.reverse_cons, toI_append, hbt]
        rfl
      · rw [hbt]
        refine Ev.bind (rOther_ev c hlet) ?_
        rw [push_cons]
        by_cases hx : x = oth c
        · have q8 : (x.toNat : Int) = ((oth c).toNat : Int) := by rw [hx]
          rw [if_pos hx]
          simp only [if_pos q8]
          exact ih (i + 1) t (by omega) (by omega)
        · have q8 : ¬ (x.toNat : Int) = ((oth c).toNat : Int) := by intro e; exact hx (UInt8.toNat_inj.mp (Int.ofNat.inj e))
          rw [if_neg hx]
          simp only [if_neg q8]
          exact ih (i + 1) (c :: x :: t) (by omega) (by simp only [List.length_cons]; omega)
theorem rReduce_ev (s : ByteArray) (hs : s.size ≤ 140737488355328) : Ev (fun k => cayleyref01_Reduce.f k s) (if Wd s then B (red (L s)) else B []) := by
  unfold cayleyref01_Reduce.f
  refine Ev.bind (rIs_ev s hs) ?_
  by_cases h : Wd s
  · rw [if_pos h, decide_eq_true h]
    simp only [if_true]
    have := rReduce_l0 s h.1 h.2 s.size 0 [] (by omega) (by simp)
    rw [List.drop_zero] at this
    exact this
  · rw [if_neg h, decide_eq_false h]
    exact Ev.congr (f := fun _ => some (B [])) (fun k => by rw [if_neg (by simp)]; rfl) (Ev.now _)
theorem rInverse_l0 (s : ByteArray) (hs : s.size ≤ 100000) (hL : ∀ c ∈ L s, isL c = true) : ∀ (m : Nat), m ≤ s.size →
    Ev (fun k => cayleyref01_Inverse.l0 k s (toI (inv ((L s).drop m))) ((m : Int) - 1)) (B (inv (L s))) := by
  intro m
  induction m with
  | zero =>
    intro _
    refine ev_some _ _ (fun k => ?_)
    simp only [cayleyref01_Inverse.l0]
    rw [if_neg (by omega), List.drop_zero, str_toI]
  | succ m ih =>
    intro hm
    have hlt : m < (L s).length := by rw [← size_L]; omega
    have hdrop : (L s).drop m = (L s)[m] :: (L s).drop (m + 1) := List.drop_eq_getElem_cons hlt
    have hlet := hL _ (List.getElem_mem hlt)
    have hbt := bt_nat s m hlt
    have hl : (toI (inv ((L s).drop (m + 1)))).length < 140737488355328 := by rw [toI_length, inv_length, List.length_drop, ← size_L]; omega
    have e : ((m + 1 : Nat) : Int) - 1 = (m : Int) := by omega
    have hw : wrap64 ((m : Int) - 1) = (m : Int) - 1 := by unfold wrap64; omega
    rw [e]
    have ih' := ih (by omega)
    refine Ev.step (f := fun k => (cayleyref01_Other.f k (bt s (m : Int))).bind fun t176 => cayleyref01_Inverse.l0 k s (toI (inv ((L s).drop (m + 1))) ++ [t176]) ((m : Int) - 1)) (fun k => ?_) ?_
    · simp only [cayleyref01_Inverse.l0]
      rw [if_pos (by omega), if_pos (by omega), if_pos (by omega)]
      simp only [if_pos hl, hw]
    · rw [hbt]
      refine Ev.bind (rOther_ev _ hlet) ?_
      rw [hdrop, inv_cons, toI_append] at ih'
      exact ih'
theorem rInverse_ev (s : ByteArray) (hs : s.size ≤ 140737488355328) : Ev (fun k => cayleyref01_Inverse.f k s) (if Wd s then B (inv (L s)) else B []) := by
  unfold cayleyref01_Inverse.f
  refine Ev.bind (rIs_ev s hs) ?_
  by_cases h : Wd s
  · rw [if_pos h, decide_eq_true h]
    simp only [if_true]
    have := rInverse_l0 s h.1 h.2 s.size (Nat.le_refl _)
    rw [List.drop_of_length_le (by rw [← size_L]; exact Nat.le_refl _)] at this
    have h1 := h.1
    have hw : wrap64 ((s.size : Int) - 1) = (s.size : Int) - 1 := by unfold wrap64; omega
    rw [hw]
    exact this
  · rw [if_neg h, decide_eq_false h]
    exact Ev.congr (f := fun _ => some (B [])) (fun k => by rw [if_neg (by simp)]; rfl) (Ev.now _)
theorem rCompare_l0 (a b : ByteArray) (hs : a.size ≤ 140737488355328) (hab : a.size = b.size) : ∀ (d i : Nat), i + d = a.size →
    Ev (fun k => cayleyref01_Compare.l0 k a b (i : Int)) (cmpL ((L a).drop i) ((L b).drop i)) := by
  intro d
  induction d with
  | zero =>
    intro i hi
    refine ev_some _ _ (fun k => ?_)
    simp only [cayleyref01_Compare.l0]
    rw [if_neg (by omega), List.drop_eq_nil_of_le (by rw [← size_L]; omega)]
    rfl
  | succ d ih =>
    intro i hi
    have ha : i < (L a).length := by rw [← size_L]; omega
    have hb : i < (L b).length := by rw [← size_L]; omega
    rw [List.drop_eq_getElem_cons ha, List.drop_eq_getElem_cons hb]
    unfold cmpL
    have ra := bt_range a (i : Int)
    have rb := bt_range b (i : Int)
    refine Ev.step (f := fun k => (cayleyref01_Index.f k (bt a (i : Int))).bind fun t117 => (cayleyref01_Index.f k (bt b (i : Int))).bind fun t118 => (if t117 < t118 then (some (-1)) else (if t117 > t118 then (some 1) else (cayleyref01_Compare.l0 k a b ((i + 1 : Nat) : Int))))) (fun k => ?_) ?_
    · simp only [cayleyref01_Compare.l0]
      have q : (i : Int) < (b.size : Int) := by omega
      rw [if_pos (by omega), if_pos (by omega)]
      simp only [if_pos q, w64_succ i (by omega)]
    · refine Ev.bind (rIndex_ev _ ra.1 ra.2) (Ev.bind (rIndex_ev _ rb.1 rb.2) ?_)
      rw [bt_nat a i ha, bt_nat b i hb]
      by_cases h1 : idx (((L a)[i]).toNat : Int) < idx (((L b)[i]).toNat : Int)
      · simp only [if_pos h1]
        exact Ev.now _
      · simp only [if_neg h1]
        by_cases h2 : idx (((L b)[i]).toNat : Int) < idx (((L a)[i]).toNat : Int)
        · simp only [if_pos h2]
          exact Ev.now _
        · simp only [if_neg h2]
          exact ih (i + 1) (by omega)
theorem rCompare_ev (a b : ByteArray) (ha : a.size ≤ 140737488355328) (hb : b.size ≤ 140737488355328) : Ev (fun k => cayleyref01_Compare.f k a b) (if Wd a ∧ Wd b then cmp (L a) (L b) else 0) := by
  unfold cayleyref01_Compare.f
  have hj : Ev (fun k => cayleyref01_Compare.j0 k a b true) 0 := ev_some _ _ (fun k => by simp only [cayleyref01_Compare.j0, if_true])
  refine Ev.bind (rIs_ev a ha) ?_
  by_cases h : Wd a
  · rw [decide_eq_true h]
    simp only [if_true]
    refine Ev.bind (rIs_ev b hb) ?_
    by_cases h2 : Wd b
    · rw [decide_eq_true h2, if_pos ⟨h, h2⟩]
      show Ev (fun k => cayleyref01_Compare.j0 k a b false) _
      unfold cmp
      by_cases e : a.size = b.size
      · have := rCompare_l0 a b ha e a.size 0 (by omega)
        rw [List.drop_zero, List.drop_zero] at this
        rw [if_pos (by rw [← size_L, ← size_L]; exact e)]
        refine Ev.step (fun k => ?_) this
        simp only [cayleyref01_Compare.j0, Bool.false_eq_true, if_false]
        rw [if_pos (by omega)]
        rfl
      · rw [if_neg (by rw [← size_L, ← size_L]; exact e)]
        refine ev_some _ _ (fun k => ?_)
        simp only [cayleyref01_Compare.j0, Bool.false_eq_true, if_false]
        rw [if_neg (by omega), ← size_L, ← size_L]
        by_cases e2 : a.size < b.size
        · rw [if_pos (by omega), if_pos e2]
        · rw [if_neg (by omega), if_neg e2]
    · rw [decide_eq_false h2, if_neg (fun x => h2 x.2)]
      exact hj
  · rw [decide_eq_false h, if_neg (fun x => h x.1)]
    exact Ev.congr (fun k => by rw [if_neg (by simp)]) hj
set_option maxRecDepth 100000 in
theorem let_idx_all : ∀ n : Fin 256, isL (UInt8.ofNat n) = true → (0 ≤ idx ((UInt8.ofNat n).toNat : Int) ∧ idx ((UInt8.ofNat n).toNat : Int) < 16) ∧ let_ (idx ((UInt8.ofNat n).toNat : Int)) = ((UInt8.ofNat n).toNat : Int) := by decide +kernel
theorem enc_letter (c : UInt8) (h : isL c = true) : Utf8.encode (c.toNat : Int) = B [c] := by
  have e : UInt8.ofNat (⟨c.toNat, c.toNat_lt⟩ : Fin 256) = c := by simp
  have := let_idx_all ⟨c.toNat, c.toNat_lt⟩
  rw [e] at this
  obtain ⟨⟨h0, h1⟩, h2⟩ := this h
  have h3 := let_all ⟨(idx (c.toNat : Int)).toNat, by omega⟩
  have e2 : (((⟨(idx (c.toNat : Int)).toNat, by omega⟩ : Fin 16) : Nat) : Int) = idx (c.toNat : Int) := by simp; omega
  rw [e2, h2] at h3
  have e3 : UInt8.ofNat ((c.toNat : Int)).toNat = c := by simp
  rw [e3] at h3
  exact h3.1.1
def Sh (s : ByteArray) : Prop := s.size ≤ 1000 ∨ 100000 < s.size
instance (s : ByteArray) : Decidable (Sh s) := inferInstanceAs (Decidable (_ ∨ _))
theorem Sh.sw {s : ByteArray} (h : Sh s) (hw : Wd s) : Sw s := ⟨by have := hw.1; unfold Sh at h; omega, hw.2⟩
theorem short_l0 (l : List ByteArray) (hl : l.length ≤ 1000) : ∀ (d i : Nat), i + d = l.length → Ev (fun k => cayleylaw01_short.l0 k l (i : Int)) ((l.drop i).all fun s => decide (Sh s)) := by
  intro d
  induction d with
  | zero =>
    intro i hi
    refine ev_some _ _ (fun k => ?_)
    simp only [cayleylaw01_short.l0]
    rw [if_neg (by omega), List.drop_eq_nil_of_le (by omega)]
    simp
  | succ d ih =>
    intro i hi
    have hlt : i < l.length := by omega
    have hrd : rdOf ByteArray.empty l (i : Int) = l[i] := by
      unfold rdOf
      rw [Int.toNat_natCast]
      simp [hlt]
    have hd : l.drop i = l[i] :: l.drop (i + 1) := List.drop_eq_getElem_cons hlt
    by_cases a : Sh l[i]
    · rw [hd, List.all_cons, decide_eq_true a, Bool.true_and]
      refine Ev.step (fun k => ?_) (ih (i + 1) (by omega))
      simp only [cayleylaw01_short.l0]
      rw [if_pos (by omega), if_pos (by omega), hrd, w64_succ i (by omega)]
      unfold Sh at a
      by_cases b : l[i].size ≤ 1000
      · rw [if_neg (by omega)]
      · rw [if_pos (by omega), if_neg (by omega)]
    · rw [hd, List.all_cons, decide_eq_false a, Bool.false_and]
      refine ev_some _ _ (fun k => ?_)
      simp only [cayleylaw01_short.l0]
      unfold Sh at a
      rw [if_pos (by omega), if_pos (by omega), hrd, if_pos (by omega), if_pos (by omega)]
theorem short_ev (l : List ByteArray) (hl : l.length ≤ 1000) : Ev (fun k => cayleylaw01_short.f k l) (l.all fun s => decide (Sh s)) := by
  have := short_l0 l hl l.length 0 (by omega)
  rw [List.drop_zero] at this
  exact this
end Go.Proofs.YthiehmogphknlaaGreatDoor.Laws
namespace Go.Proofs.YthiehmogphknlaaGreatDoor.Laws
open Go.RowKit Go.Proofs.YthiehmogphknlaaGreatDoor.G Go.Proofs.YthiehmogphknlaaGreatDoor.PA Go.Proofs.YthiehmogphknlaaGreatDoorW.PrintWords Go.Proofs.YthiehmogphknlaaGreatDoor.Free Go.Proofs.YthiehmogphknlaaGreatDoor.Pure1 Go.Proofs.YthiehmogphknlaaGreatDoor.Min Go.Proofs.YthiehmogphknlaaGreatDoor.Cyc Go.Proofs.YthiehmogphknlaaGreatDoor.Rot
theorem ev_mono {α : Type} {f : Nat → Option α} (hm : ∀ k, LeO (f k) (f (k + 1))) {K : Nat} {r : α} (h : f K = some r) : Ev f r := by
  refine ⟨K, fun k hk => ?_⟩
  obtain ⟨d, rfl⟩ : ∃ d, k = K + d := ⟨k - K, by omega⟩
  induction d with
  | zero => exact h
  | succ d ih => exact hm (K + d) _ (ih (by omega))
theorem form_ev (s : ByteArray) (hs : s.size ≤ 140737488355328) : Ev (fun k => word_form.f k s) (B (formL (L s))) := ev_mono (word_form.mono s) (form_f s hs)
/-- The cyclic form. -/
def cf (l : List UInt8) : List UInt8 := formL (core l)
theorem core_length (l : List UInt8) : (core l).length ≤ l.length := by
  have h1 := cyc_length (red l)
  have h2 := red_length l
  unfold core
  omega
theorem core_isL {l : List UInt8} (h : ∀ c ∈ l, isL c = true) : ∀ c ∈ core l, isL c = true := by
  intro c hc
  refine red_isL h c ?_
  rw [cyc_split (red l)]
  exact List.mem_append_right _ (List.mem_append_left _ hc)
theorem Form_ev {s : ByteArray} (h : Wd s) : Ev (fun k => word_Form.f k s) (B (cf (L s))) := by
  have hs := h.1
  unfold word_Form.f
  rw [is_f s (by omega), decide_eq_true h]
  simp only [Option.bind_some, if_true]
  refine Ev.bind (cyclic_ev s (by omega)) ?_
  have hc := core_length (L s)
  rw [size_L] at hs
  have := form_ev (B (core (L s))) (by rw [size_B]; omega)
  rw [L_B] at this
  exact Ev.bind this (Ev.now _)
theorem rot_full (l : List UInt8) : rot l l.length = l := by simp [rot]
theorem form_find (a b : List UInt8) (ha : a ≠ []) (h : formL a = formL b) : ∃ i, i < b.length ∧ rot b i = a := by
  have hlen : a.length = b.length := by rw [← formL_length a, h, formL_length]
  have hb : b ≠ [] := by rintro rfl; exact ha (List.length_eq_zero_iff.1 hlen)
  have hb0 : 0 < b.length := List.length_pos_iff.2 hb
  have la := (least_lt a ha).2
  have lb := (least_lt b hb).2
  obtain ⟨c, hc, e⟩ := rot_back a (least a) (by omega)
  have h2 : rot a (least a) = rot b (least b) := h
  rw [h2] at e
  obtain ⟨d, hd, e2⟩ := rot_rot b (least b) c (by omega) (by omega)
  rw [e2] at e
  by_cases x : d = b.length
  · subst x
    rw [rot_full] at e
    exact ⟨0, hb0, by rw [rot_zero]; exact e⟩
  · exact ⟨d, by omega, e⟩
theorem conj_spec (u v : List UInt8) : (conjP u v).2 = decide (cf u = cf v) ∧ (cf u = cf v → Eqv ((conjP u v).1 ++ (v ++ inv (conjP u v).1)) u) ∧ (conjP u v).1.length ≤ u.length + v.length ∧
    ((∀ c ∈ u, isL c = true) → (∀ c ∈ v, isL c = true) → ∀ c ∈ (conjP u v).1, isL c = true) := by
  have hu := cyc_split (red u)
  have hv := cyc_split (red v)
  have lu := cyc_length (red u)
  have lv := cyc_length (red v)
  have ru := red_length u
  have rv := red_length v
  have eu := Eqv.red u
  have ev := Eqv.red v
  have mu := red_subset u
  have mv := red_subset v
  unfold cf core conjP
  generalize red u = u' at *
  generalize red v = v' at *
  generalize (cyc u').2 = a at *
  generalize (cyc u').1 = c at *
  generalize (cyc v').2 = b at *
  generalize (cyc v').1 = d at *
  dsimp only
  by_cases h : formL a = formL b
  · have hlen : a.length = b.length := by rw [← formL_length a, h, formL_length]
    rw [if_neg (fun hc => hc.elim (fun x => x hlen) (fun x => x h)), decide_eq_true h]
    by_cases ha : a = []
    · rw [if_pos ha]
      refine ⟨rfl, fun _ => ?_, by simp, fun _ _ c hc => by cases hc⟩
      subst ha
      have hb : b = [] := List.length_eq_zero_iff.1 hlen.symm
      subst hb
      have e1 : Eqv u' [] := by rw [hu]; exact eqv_inv_right c
      have e2 : Eqv v' [] := by rw [hv]; exact eqv_inv_right d
      rw [inv_nil, List.append_nil, List.nil_append]
      exact ((ev.symm.trans e2).trans e1.symm).trans eu
    · rw [if_neg ha]
      obtain ⟨i, hi, hr⟩ := form_find a b ha h
      have hf : ∃ k, (List.range b.length).find? (fun i => decide (b.drop i ++ b.take i = a)) = some k := by
        cases hq : (List.range b.length).find? (fun i => decide (b.drop i ++ b.take i = a)) with
        | some k => exact ⟨k, rfl⟩
        | none =>
          rw [List.find?_eq_none] at hq
          have := hq i (List.mem_range.2 hi)
          exact absurd (decide_eq_true hr) this
      obtain ⟨k, hk⟩ := hf
      have hk2 := List.find?_some hk
      have hk3 : b.drop k ++ b.take k = a := of_decide_eq_true hk2
      rw [hk]
      refine ⟨rfl, fun _ => ?_, ?_, ?_⟩
      · -- the conjugator
        show Eqv (red (c ++ (inv (b.take k) ++ inv d)) ++ (v ++ inv (red (c ++ (inv (b.take k) ++ inv d))))) u
        generalize hy : c ++ (inv (b.take k) ++ inv d) = y
        have ey : Eqv (red y) y := Eqv.red y
        have e1 : Eqv (red y ++ (v ++ inv (red y))) (y ++ (v' ++ inv y)) := ey.append (Eqv.append ev.symm ey.inv)
        refine e1.trans ?_
        have e2 : y ++ (v' ++ inv y) = (c ++ inv (b.take k)) ++ ((inv d ++ d) ++ (b ++ ((inv d ++ d) ++ (b.take k ++ inv c)))) := by
          conv => lhs; rw [hv]
          rw [← hy, inv_append, inv_append, inv_inv, inv_inv]
          simp [List.append_assoc]
        rw [e2]
        have e3 : Eqv (inv d ++ d) [] := eqv_inv_left d
        have e4 : Eqv ((inv d ++ d) ++ (b.take k ++ inv c)) (b.take k ++ inv c) := by
          have := e3.appendRight (b.take k ++ inv c)
          rwa [List.nil_append] at this
        have e5 : Eqv ((inv d ++ d) ++ (b ++ ((inv d ++ d) ++ (b.take k ++ inv c)))) (b ++ (b.take k ++ inv c)) := by
          have := e3.append (e4.appendLeft b)
          rwa [List.nil_append] at this
        refine (e5.appendLeft (c ++ inv (b.take k))).trans ?_
        have e6 : (c ++ inv (b.take k)) ++ (b ++ (b.take k ++ inv c)) = c ++ ((inv (b.take k) ++ b.take k) ++ (b.drop k ++ (b.take k ++ inv c))) := by
          have e9 : b ++ (b.take k ++ inv c) = b.take k ++ (b.drop k ++ (b.take k ++ inv c)) :=
            (congrArg (· ++ (b.take k ++ inv c)) (List.take_append_drop k b).symm).trans (List.append_assoc _ _ _)
          rw [e9]
          simp [List.append_assoc]
        rw [e6]
        have e7 : Eqv ((inv (b.take k) ++ b.take k) ++ (b.drop k ++ (b.take k ++ inv c))) (b.drop k ++ (b.take k ++ inv c)) := by
          have := (eqv_inv_left (b.take k)).appendRight (b.drop k ++ (b.take k ++ inv c))
          rwa [List.nil_append] at this
        refine (e7.appendLeft c).trans ?_
        have e8 : c ++ (b.drop k ++ (b.take k ++ inv c)) = u' := by
          rw [hu, ← hk3]; simp [List.append_assoc]
        rw [e8]
        exact eu
      · have h1 := red_length (c ++ (inv (b.take k) ++ inv d))
        simp only [List.length_append, inv_length, List.length_take] at h1
        show (red (c ++ (inv (b.take k) ++ inv d))).length ≤ _
        omega
      · intro h1 h2
        have hu' : ∀ x ∈ u', isL x = true := fun x hx => h1 x (mu x hx)
        have hv' : ∀ x ∈ v', isL x = true := fun x hx => h2 x (mv x hx)
        have hc : ∀ x ∈ c, isL x = true := fun x hx => hu' x (by rw [hu]; exact List.mem_append_left _ hx)
        have hb : ∀ x ∈ b, isL x = true := fun x hx => hv' x (by rw [hv]; exact List.mem_append_right _ (List.mem_append_left _ hx))
        have hd : ∀ x ∈ d, isL x = true := fun x hx => hv' x (by rw [hv]; exact List.mem_append_left _ hx)
        refine red_isL (fun x hx => ?_)
        rcases List.mem_append.1 hx with hx | hx
        · exact hc x hx
        · rcases List.mem_append.1 hx with hx | hx
          · exact inv_isL (fun y hy => hb y (List.mem_of_mem_take hy)) x hx
          · exact inv_isL hd x hx
  · rw [if_pos (Or.inr h), decide_eq_false h]
    exact ⟨rfl, fun h' => absurd h' h, by simp, fun _ _ c hc => by cases hc⟩
theorem conj_f {u v : ByteArray} (hu : Wd u) (hv : Wd v) : word_Conjugate.f u v = some (B (conjP (L u) (L v)).1, decide (cf (L u) = cf (L v))) := by
  unfold word_Conjugate.f
  rw [if_pos ⟨by have := hu.1; omega, by have := hv.1; omega⟩, if_pos ⟨hu, hv⟩, (conj_spec (L u) (L v)).1]
end Go.Proofs.YthiehmogphknlaaGreatDoor.Laws
namespace Go.Proofs.YthiehmogphknlaaGreatDoor.Laws
open Go.RowKit Go.Proofs.YthiehmogphknlaaGreatDoor.G Go.Proofs.YthiehmogphknlaaGreatDoor.PA Go.Proofs.YthiehmogphknlaaGreatDoorW.PrintWords Go.Proofs.YthiehmogphknlaaGreatDoor.Free Go.Proofs.YthiehmogphknlaaGreatDoor.Pure1 Go.Proofs.YthiehmogphknlaaGreatDoor.Min Go.Proofs.YthiehmogphknlaaGreatDoor.Cyc Go.Proofs.YthiehmogphknlaaGreatDoor.Rot Go.Proofs.YthiehmogphknlaaGreatDoor.Pow
theorem period_l0 (s : ByteArray) (hs : s.size ≤ 140737488355328) : ∀ (f p : Nat), 1 ≤ p → p ≤ s.size + 1 → s.size ≤ p + f → Ev (fun k => word_period.l0 k s (p : Int)) (perF (L s) f p : Int) := by
  have hw : wrap64 ((s.size : Int) / 2) = ((s.size / 2 : Nat) : Int) := by rw [w64 _ (by omega) (by omega)]; omega
  intro f
  induction f with
  | zero =>
    intro p hp hp2 hf
    refine ev_some _ _ (fun k => ?_)
    simp only [word_period.l0]
    rw [hw, if_neg (by omega)]
    rfl
  | succ f ih =>
    intro p hp hp2 hf
    rw [perF, ← size_L]
    by_cases h1 : p ≤ s.size / 2
    · rw [if_pos h1]
      have hsub : wrap64 ((s.size : Int) - (p : Int)) = ((s.size - p : Nat) : Int) := by rw [w64 _ (by omega) (by omega)]; omega
      have hmod : ((s.size : Int) % (p : Int) = 0) ↔ s.size % p = 0 := by
        rw [← Int.natCast_emod]; omega
      have hd : (s.extract p s.size).toList = (L s).drop p := by
        rw [extract_L, toList_L, L_B, List.take_of_length_le (by rw [List.length_drop, ← size_L]; exact Nat.le_refl _)]
      have ht : (s.extract 0 (s.size - p)).toList = (L s).take (s.size - p) := by
        rw [extract_L, toList_L, L_B, List.drop_zero, Nat.sub_zero]
      have hb : ∀ k, word_period.l0 (k + 1) s (p : Int) = if s.size % p = 0 then (if (L s).drop p = (L s).take (s.size - p) then some (p : Int) else word_period.l0 k s ((p + 1 : Nat) : Int)) else word_period.l0 k s ((p + 1 : Nat) : Int) := by
        intro k
        simp only [word_period.l0]
        rw [hw, if_pos (by omega), if_neg (by omega), hsub, w64_succ p (by omega), Int.toNat_natCast, Int.toNat_natCast, hd, ht]
        by_cases hm : s.size % p = 0
        · rw [if_pos (hmod.2 hm), if_pos hm, if_pos (by omega), if_pos (by omega), if_pos (by omega), if_pos (by omega)]
        · rw [if_neg (fun h => hm (hmod.1 h)), if_neg hm]
      by_cases hm : s.size % p = 0
      · by_cases he : (L s).drop p = (L s).take (s.size - p)
        · rw [if_pos ⟨hm, he⟩]
          exact ev_some _ _ (fun k => by rw [hb, if_pos hm, if_pos he])
        · rw [if_neg (fun h => he h.2)]
          exact Ev.step (fun k => by rw [hb, if_pos hm, if_neg he]) (ih (p + 1) (by omega) (by omega) (by omega))
      · rw [if_neg (fun h => hm h.1)]
        exact Ev.step (fun k => by rw [hb, if_neg hm]) (ih (p + 1) (by omega) (by omega) (by omega))
    · rw [if_neg h1]
      refine ev_some _ _ (fun k => ?_)
      simp only [word_period.l0]
      rw [hw, if_neg (by omega)]
theorem period_ev (s : ByteArray) (hs : s.size ≤ 140737488355328) : Ev (fun k => word_period.f k s) (per (L s) : Int) := by
  have := period_l0 s hs (L s).length 1 (by omega) (by omega) (by rw [← size_L]; omega)
  exact this
theorem Root_ev {s : ByteArray} (h : Wd s) : Ev (fun k => word_Root.f k s) (B (rtL (L s)), (rtN (L s) : Int)) := by
  have hs := h.1
  unfold word_Root.f
  rw [is_f s (by omega), decide_eq_true h]
  simp only [Option.bind_some, if_true]
  have hcv : Ev (fun k => word_cyclic.f k s) (B (core (L s)), B (cj (L s))) := cyclic_ev s (by omega)
  refine Ev.bind hcv ?_
  have hl := core_length (L s)
  have hcj : 2 * (cj (L s)).length + (core (L s)).length = (red (L s)).length := cyc_length _
  have hrl := red_length (L s)
  rw [size_L] at hs
  show Ev (fun k => if (B (core (L s))).toList = ([] : List UInt8) then some ((⟨#[]⟩ : ByteArray), (0 : Int)) else (word_period.f k (B (core (L s)))).bind fun t152 => _) _
  by_cases hc : core (L s) = []
  · have e1 : (B (core (L s))).toList = ([] : List UInt8) := by rw [toList_L, L_B, hc]
    simp only [if_pos e1]
    have e2 : rtL (L s) = [] := by unfold rtL; rw [if_pos hc]
    have e3 : rtN (L s) = 0 := by unfold rtN; rw [if_pos hc]
    rw [e2, e3]
    exact Ev.now _
  · have e1 : ¬ (B (core (L s))).toList = ([] : List UInt8) := by rw [toList_L, L_B]; exact hc
    simp only [if_neg e1]
    have hp := period_ev (B (core (L s))) (by rw [size_B]; omega)
    rw [L_B] at hp
    refine Ev.bind hp ?_
    have h1 := per_pos _ hc
    have h2 := per_le _ hc
    have s1 : (0 : Int) ≤ (per (core (L s)) : Int) := by omega
    have s2 : (per (core (L s)) : Int) ≤ ((B (core (L s))).size : Int) := by rw [size_B]; omega
    simp only [if_pos s1, if_pos s2]
    have hi := inverse_ev (B (cj (L s))) (by rw [size_B]; omega)
    rw [L_B] at hi
    refine Ev.bind hi ?_
    have ex : (B (core (L s))).extract 0 ((per (core (L s)) : Int)).toNat = B (rootL (core (L s))) := by
      rw [Int.toNat_natCast, extract_L, L_B, List.drop_zero, Nat.sub_zero]; rfl
    have hcat : cat [B (cj (L s)), B (rootL (core (L s))), B (inv (cj (L s)))] = cj (L s) ++ (rootL (core (L s)) ++ inv (cj (L s))) := by simp [cat, L_B]
    have hrlen := root_len _ hc
    have hr := reduce_ev [B (cj (L s)), B (rootL (core (L s))), B (inv (cj (L s)))] (by rw [hcat, List.length_append, List.length_append, inv_length, hrlen]; omega) (by simp)
    rw [hcat] at hr
    show Ev (fun k => (word_reduce.f k [B (cj (L s)), (B (core (L s))).extract 0 ((per (core (L s)) : Int)).toNat, B (inv (cj (L s)))]).bind fun t157 => _) _
    rw [ex]
    refine Ev.bind hr ?_
    have e4 : ¬ (per (core (L s)) : Int) = 0 := by omega
    simp only [if_neg e4]
    have e5 : rtL (L s) = red (cj (L s) ++ (rootL (core (L s)) ++ inv (cj (L s)))) := by unfold rtL; rw [if_neg hc]
    have e6 : wrap64 (((B (core (L s))).size : Int) / (per (core (L s)) : Int)) = (rtN (L s) : Int) := by
      have : rtN (L s) = (core (L s)).length / per (core (L s)) := by unfold rtN; rw [if_neg hc]
      rw [this, size_B, ← Int.natCast_ediv]
      have : (core (L s)).length / per (core (L s)) ≤ (core (L s)).length := Nat.div_le_self _ _
      rw [w64 _ (by omega) (by omega)]
    rw [e5, e6]
    exact Ev.now _
end Go.Proofs.YthiehmogphknlaaGreatDoor.Laws
namespace Go.Proofs.YthiehmogphknlaaGreatDoor.Laws
open Go.RowKit Go.Proofs.YthiehmogphknlaaGreatDoor.G Go.Proofs.YthiehmogphknlaaGreatDoor.PA Go.Proofs.YthiehmogphknlaaGreatDoor.PT Go.Proofs.YthiehmogphknlaaGreatDoor.PV Go.Proofs.YthiehmogphknlaaGreatDoorW.PrintWords Go.Proofs.YthiehmogphknlaaGreatDoor.Free Go.Proofs.YthiehmogphknlaaGreatDoor.Pure1 Go.Proofs.YthiehmogphknlaaGreatDoor.Min Go.Proofs.YthiehmogphknlaaGreatDoor.Cyc Go.Proofs.YthiehmogphknlaaGreatDoor.Rot Go.Proofs.YthiehmogphknlaaGreatDoor.Pow
theorem rCyclic_l0 (l : List UInt8) (hl : l.length ≤ 100000) (hL : ∀ c ∈ l, isL c = true) : ∀ (f n : Nat), 2 * n ≤ l.length → l.length - 2 * n ≤ f →
    Ev (fun k => cayleyref01_Cyclic.l0 k (B l) (n : Int)) (B (peel f ((l.drop n).take (l.length - 2 * n))).2, B (l.take n ++ (peel f ((l.drop n).take (l.length - 2 * n))).1)) := by
  intro f
  have hend : ∀ n : Nat, 2 * n ≤ l.length → (B l).extract (n : Int).toNat (wrap64 (((B l).size : Int) - (n : Int))).toNat = B ((l.drop n).take (l.length - 2 * n)) ∧ (B l).extract 0 (n : Int).toNat = B (l.take n) := by
    intro n hn
    constructor
    · rw [extract_L, L_B, Int.toNat_natCast, size_B, w64 _ (by omega) (by omega)]
      congr 2
      omega
    · rw [extract_L, L_B, Int.toNat_natCast, List.drop_zero, Nat.sub_zero]
  have hguard : ∀ n : Nat, 2 * n ≤ l.length → (n : Int) ≤ wrap64 (((B l).size : Int) - (n : Int)) ∧ wrap64 (((B l).size : Int) - (n : Int)) ≤ ((B l).size : Int) ∧ (n : Int) ≤ ((B l).size : Int) := by
    intro n hn
    rw [size_B, w64 _ (by omega) (by omega)]
    omega
  have h2 : ∀ n : Nat, 2 * n ≤ l.length → wrap64 (((B l).size : Int) - wrap64 (2 * (n : Int))) = ((l.length - 2 * n : Nat) : Int) := by
    intro n hn
    rw [size_B, w64 (2 * (n : Int)) (by omega) (by omega), w64 _ (by omega) (by omega)]
    omega
  have h3 : ∀ n : Nat, n < l.length → wrap64 (wrap64 (((B l).size : Int) - 1) - (n : Int)) = ((l.length - 1 - n : Nat) : Int) := by
    intro n hn
    rw [size_B, w64 ((l.length : Int) - 1) (by omega) (by omega), w64 _ (by omega) (by omega)]
    omega
  induction f with
  | zero =>
    intro n hn hf
    refine ev_some _ _ (fun k => ?_)
    obtain ⟨g1, g2, g3⟩ := hguard n hn
    obtain ⟨e1, e2⟩ := hend n hn
    simp only [cayleyref01_Cyclic.l0]
    rw [h2 n hn, if_neg (by omega), if_pos (by omega), if_pos g1, if_pos g2, if_pos g3, e1, e2]
    simp [peel]
  | succ f ih =>
    intro n hn hf
    obtain ⟨g1, g2, g3⟩ := hguard n hn
    obtain ⟨e1, e2⟩ := hend n hn
    by_cases hlen : 2 ≤ l.length - 2 * n
    · have hn1 : n < l.length := by omega
      have hn2 : l.length - 1 - n < l.length := by omega
      have hh : ((l.drop n).take (l.length - 2 * n)).head? = some (l[n]) := by
        rw [List.head?_take, if_neg (by omega), List.head?_drop, List.getElem?_eq_getElem hn1]
      have ht : ((l.drop n).take (l.length - 2 * n)).getLast? = some (l[l.length - 1 - n]) := by
        rw [List.getLast?_eq_getElem?, List.length_take, List.length_drop, List.getElem?_take, if_pos (by omega), List.getElem?_drop, List.getElem?_eq_getElem (by omega)]
        congr 1
        congr 1
        omega
      have hb1 : bt (B l) (n : Int) = ((l[n]).toNat : Int) := bt_nat (B l) n (by rw [L_B]; exact hn1)
      have hb2 : bt (B l) ((l.length - 1 - n : Nat) : Int) = ((l[l.length - 1 - n]).toNat : Int) := bt_nat (B l) (l.length - 1 - n) (by rw [L_B]; exact hn2)
      have ho := rOther_ev (l[n]) (hL _ (List.getElem_mem hn1))
      have hm : ((l.drop n).take (l.length - 2 * n)).length = l.length - 2 * n := by simp; omega
      refine Ev.step (f := fun k => (cayleyref01_Other.f k (bt (B l) (n : Int))).bind fun t103 => (if bt (B l) ((l.length - 1 - n : Nat) : Int) = t103 then (cayleyref01_Cyclic.l0 k (B l) ((n + 1 : Nat) : Int)) else (some (B ((l.drop n).take (l.length - 2 * n)), B (l.take n))))) (fun k => ?_) ?_
      · simp only [cayleyref01_Cyclic.l0]
        rw [h2 n hn, if_pos (by omega), h3 n hn1, if_pos (by omega), if_pos (by rw [size_B]; omega), if_pos (by omega), if_pos (by rw [size_B]; omega), w64_succ n (by omega)]
        simp only [if_pos g1, if_pos g2, if_pos g3, e1, e2]
      · rw [hb1, hb2]
        refine Ev.bind ho ?_
        by_cases hx : l[n] = oth (l[l.length - 1 - n])
        · have hx2 : l[l.length - 1 - n] = oth (l[n]) := by rw [hx, oth_oth]
          have hc : 2 ≤ ((l.drop n).take (l.length - 2 * n)).length ∧ ((l.drop n).take (l.length - 2 * n)).head? = (((l.drop n).take (l.length - 2 * n)).getLast?).map oth := ⟨by omega, by rw [hh, ht, hx]; rfl⟩
          have ht1 : ((l.drop n).take (l.length - 2 * n)).take 1 = [l[n]] := by
            rw [List.take_take, show min 1 (l.length - 2 * n) = 1 by omega, List.drop_eq_getElem_cons hn1]; rfl
          have := ih (n + 1) (by omega) (by omega)
          rw [← mid_step l n hlen] at this
          rw [peel, if_pos hc, ht1]
          rw [List.take_succ_eq_append_getElem hn1, List.append_assoc] at this
          have e : ((l[l.length - 1 - n]).toNat : Int) = ((oth (l[n])).toNat : Int) := by rw [hx2]
          simp only [if_pos e]
          exact this
        · have hx2 : ¬ l[l.length - 1 - n] = oth (l[n]) := fun e => hx (by rw [e, oth_oth])
          have hc : ¬ (2 ≤ ((l.drop n).take (l.length - 2 * n)).length ∧ ((l.drop n).take (l.length - 2 * n)).head? = (((l.drop n).take (l.length - 2 * n)).getLast?).map oth) := by
            rintro ⟨_, h⟩
            rw [hh, ht] at h
            exact hx (Option.some.inj h)
          rw [peel, if_neg hc, List.append_nil]
          have e : ¬ ((l[l.length - 1 - n]).toNat : Int) = ((oth (l[n])).toNat : Int) := fun e => hx2 (UInt8.toNat_inj.mp (Int.ofNat.inj e))
          simp only [if_neg e]
          exact Ev.now _
    · have hm : ((l.drop n).take (l.length - 2 * n)).length = l.length - 2 * n := by simp; omega
      have hc : ¬ (2 ≤ ((l.drop n).take (l.length - 2 * n)).length ∧ ((l.drop n).take (l.length - 2 * n)).head? = (((l.drop n).take (l.length - 2 * n)).getLast?).map oth) := by
        rintro ⟨h, _⟩; omega
      rw [peel, if_neg hc]
      refine ev_some _ _ (fun k => ?_)
      simp only [cayleyref01_Cyclic.l0]
      rw [h2 n hn, if_neg (by omega), if_pos (by omega), if_pos g1, if_pos g2, if_pos g3, e1, e2, List.append_nil]
theorem rCyclic_ev {s : ByteArray} (h : Wd s) : Ev (fun k => cayleyref01_Cyclic.f k s) (B (core (L s)), B (cj (L s))) := by
  have hs := h.1
  unfold cayleyref01_Cyclic.f
  refine Ev.bind (rIs_ev s (by omega)) ?_
  rw [decide_eq_true h]
  simp only [if_true]
  have h1 := rReduce_ev s (by omega)
  rw [if_pos h] at h1
  refine Ev.bind h1 ?_
  have hl := red_length (L s)
  rw [← size_L] at hl
  have := rCyclic_l0 (red (L s)) (by omega) (red_isL h.2) (red (L s)).length 0 (by omega) (by omega)
  simpa [cyc, core, cj] using this
theorem rCyclic_no {s : ByteArray} (hs : s.size ≤ 140737488355328) (h : ¬ Wd s) : Ev (fun k => cayleyref01_Cyclic.f k s) (B [], B []) := by
  unfold cayleyref01_Cyclic.f
  refine Ev.bind (rIs_ev s hs) ?_
  rw [decide_eq_false h]
  exact Ev.congr (f := fun _ => some (B [], B [])) (fun k => by rw [if_neg (by simp)]; rfl) (Ev.now _)
theorem cmpL_first : ∀ (u v : List UInt8), u.length = v.length → cmpL u v = -1 → ∃ k, k < u.length ∧ (∀ l, l < k → idx ((u.getD l 0).toNat : Int) = idx ((v.getD l 0).toNat : Int)) ∧ idx ((u.getD k 0).toNat : Int) < idx ((v.getD k 0).toNat : Int)
  | [], [], _, h => by simp [cmpL] at h
  | [], _ :: _, h, _ => by simp at h
  | _ :: _, [], h, _ => by simp at h
  | a :: u, b :: v, hl, h => by
    rw [cmpL_cons] at h
    split at h
    · rename_i hlt
      exact ⟨0, by simp, fun l hl => by omega, hlt⟩
    · split at h
      · exact absurd h (by decide)
      · obtain ⟨k, h1, h2, h3⟩ := cmpL_first u v (by simpa using hl) h
        refine ⟨k + 1, by simpa using h1, ?_, h3⟩
        intro l hl
        cases l with
        | zero => show idx (a.toNat : Int) = idx (b.toNat : Int); omega
        | succ l => exact h2 l (by omega)
theorem rot_getD (l : List UInt8) (q p : Nat) (hq : q ≤ l.length) (hp : p < l.length) : (rot l q).getD p 0 = cy l (q + p) := by
  rw [List.getD_eq_getElem?_getD, List.getElem?_eq_getElem (by rw [rot_length]; exact hp)]
  exact rot_get l q p hq (by rw [rot_length]; exact hp)
theorem least_le (l : List UInt8) (h : l ≠ []) (i : Nat) (hi : i < l.length) : cmp (formL l) (rot l i) ≤ 0 := by
  have hm := least_isMin l h
  have hlt := (least_lt l h).2
  have hlen : (formL l).length = (rot l i).length := by rw [formL_length, rot_length]
  rw [cmp_eq hlen]
  have hr := cmpL_range (formL l) (rot l i)
  by_cases hc : cmpL (formL l) (rot l i) ≤ 0
  · exact hc
  · exfalso
    have h1 : cmpL (rot l i) (formL l) = -1 := by rw [cmpL_neg (formL l) (rot l i)]; omega
    obtain ⟨k, hk, h2, h3⟩ := cmpL_first _ _ hlen.symm h1
    rw [rot_length] at hk
    refine hm i ⟨k, ?_, ?_⟩
    · intro j hj
      have := h2 j hj
      rw [formL_rot_eq, rot_getD l i j (by omega) (by omega), rot_getD l (least l) j (by omega) (by omega)] at this
      rw [rk_cy l h, rk_cy l h]
      exact this
    · rw [formL_rot_eq, rot_getD l i k (by omega) (by omega), rot_getD l (least l) k (by omega) (by omega)] at h3
      rw [rk_cy l h, rk_cy l h]
      exact h3
theorem rot_mem (l : List UInt8) (i : Nat) : ∀ c ∈ rot l i, c ∈ l := by
  intro c hc
  unfold rot at hc
  rcases List.mem_append.1 hc with hc | hc
  · exact List.mem_of_mem_drop hc
  · exact List.mem_of_mem_take hc
theorem rForm_l0 (l : List UInt8) (hl : l.length ≤ 100000) (hL : ∀ c ∈ l, isL c = true) (h : l ≠ []) : ∀ (d i q : Nat), i + d = l.length → 1 ≤ i → q < l.length → (∀ j, j < i → cmp (rot l q) (rot l j) ≤ 0) →
    Ev (fun k => cayleyref01_Form.l0 k (B l) (B (rot l q)) (i : Int)) (B (formL l)) := by
  intro d
  induction d with
  | zero =>
    intro i q hi _ hq hmin
    have hlt := (least_lt l h).2
    have h1 : cmp (rot l q) (formL l) ≤ 0 := by rw [formL_rot_eq]; exact hmin _ (by omega)
    have h2 := least_le l h q hq
    have h3 : cmp (formL l) (rot l q) = 0 := by
      have := cmp_neg (formL l) (rot l q)
      omega
    have h4 : formL l = rot l q := (cmp_zero _ _ (fun c hc => hL c (rot_mem l _ c (by rw [← formL_rot_eq]; exact hc))) (fun c hc => hL c (rot_mem l _ c hc))).1 h3
    rw [h4]
    refine ev_some _ _ (fun k => ?_)
    simp only [cayleyref01_Form.l0]
    rw [if_neg (by rw [size_B]; omega)]
  | succ d ih =>
    intro i q hi h1 hq hmin
    have e1 : (B l).extract ((i : Int)).toNat (B l).size = B (l.drop i) := by
      rw [extract_L, L_B, Int.toNat_natCast, List.take_of_length_le (by rw [size_B, List.length_drop]; omega)]
    have e2 : (B l).extract 0 ((i : Int)).toNat = B (l.take i) := by
      rw [extract_L, L_B, Int.toNat_natCast, List.drop_zero, Nat.sub_zero]
    have e3 : B (l.drop i) ++ B (l.take i) = B (rot l i) := by rw [B_append]; rfl
    have hz : (B (l.drop i)).size + (B (l.take i)).size ≤ 9223372036854775807 := by
      rw [size_B, size_B, List.length_drop, List.length_take]; omega
    have w1 : Wd (B (rot l i)) := ⟨by rw [size_B, rot_length]; exact hl, fun c hc => hL c (rot_mem l i c hc)⟩
    have w2 : Wd (B (rot l q)) := ⟨by rw [size_B, rot_length]; exact hl, fun c hc => hL c (rot_mem l q c hc)⟩
    refine Ev.step (f := fun k => (cayleyref01_Compare.f k (B (rot l i)) (B (rot l q))).bind fun t114 => (if t114 < 0 then (cayleyref01_Form.l0 k (B l) (B (rot l i)) ((i + 1 : Nat) : Int)) else (cayleyref01_Form.l0 k (B l) (B (rot l q)) ((i + 1 : Nat) : Int)))) (fun k => ?_) ?_
    · simp only [cayleyref01_Form.l0]
      rw [if_pos (by rw [size_B]; omega), if_pos (by omega), if_pos (by rw [size_B]; omega), e1, e2, if_pos hz, e3, w64_succ i (by omega)]
    · have hc := rCompare_ev (B (rot l i)) (B (rot l q)) (by rw [size_B, rot_length]; omega) (by rw [size_B, rot_length]; omega)
      rw [if_pos ⟨w1, w2⟩] at hc
      refine Ev.bind hc ?_
      rw [L_B, L_B]
      by_cases hlt : cmp (rot l i) (rot l q) < 0
      · simp only [if_pos hlt]
        refine ih (i + 1) i (by omega) (by omega) (by omega) ?_
        intro j hj
        by_cases e : j = i
        · subst e; rw [cmp_eq rfl, cmpL_self]; omega
        · exact cmp_trans _ _ _ (by omega) (hmin j (by omega))
      · simp only [if_neg hlt]
        refine ih (i + 1) q (by omega) (by omega) hq ?_
        intro j hj
        by_cases e : j = i
        · subst e
          have := cmp_neg (rot l q) (rot l j)
          omega
        · exact hmin j (by omega)
theorem rForm_ev {s : ByteArray} (h : Wd s) : Ev (fun k => cayleyref01_Form.f k s) (B (cf (L s))) := by
  have hs := h.1
  rw [size_L] at hs
  have hcl := core_length (L s)
  unfold cayleyref01_Form.f
  refine Ev.bind (rCyclic_ev h) ?_
  unfold cf
  by_cases hc : core (L s) = []
  · rw [hc]
    refine ev_some _ _ (fun k => ?_)
    simp only [cayleyref01_Form.l0]
    rw [if_neg (by rw [size_B]; simp)]
    rfl
  · have hlen : 0 < (core (L s)).length := List.length_pos_iff.2 hc
    have := rForm_l0 (core (L s)) (by omega) (core_isL h.2) hc ((core (L s)).length - 1) 1 0 (by omega) (by omega) (by omega) (fun j hj => by
      obtain rfl : j = 0 := by omega
      rw [cmp_eq rfl, cmpL_self]; omega)
    rw [rot_zero] at this
    exact this
theorem rForm_no {s : ByteArray} (hs : s.size ≤ 140737488355328) (h : ¬ Wd s) : Ev (fun k => cayleyref01_Form.f k s) (B []) := by
  unfold cayleyref01_Form.f
  refine Ev.bind (rCyclic_no hs h) (ev_some _ _ (fun k => ?_))
  simp only [cayleyref01_Form.l0]
  rw [if_neg (by rw [size_B]; simp)]
theorem bytesOf_toI (l : List UInt8) : bytesOf (B l) = toI l := rfl
theorem copies_l0 (l : List UInt8) (n : Nat) (hn : n ≤ 9223372036854775806) (hb : l.length * n < 140737488355328) : ∀ (d i : Nat), i + d = n →
    Ev (fun k => cayleyref01_copies.l0 k (B l) (n : Int) (toI (Lib.repeatL l i)) (i : Int)) (B (Lib.repeatL l n)) := by
  intro d
  induction d with
  | zero =>
    intro i hi
    refine ev_some _ _ (fun k => ?_)
    simp only [cayleyref01_copies.l0]
    rw [if_neg (by omega), str_toI, show i = n by omega]
  | succ d ih =>
    intro i hi
    have h1 : l.length * (i + 1) ≤ l.length * n := Nat.mul_le_mul_left _ (by omega)
    have h2 : (toI (Lib.repeatL l i)).length + (B l).size < 140737488355328 := by
      rw [toI_length, rep_len, size_B, Nat.mul_comm]
      rw [Nat.mul_add, Nat.mul_one] at h1
      omega
    refine Ev.step (fun k => ?_) (ih (i + 1) (by omega))
    simp only [cayleyref01_copies.l0]
    rw [if_pos (by omega), if_pos h2, w64_succ i (by omega), bytesOf_toI, ← toI_append, ← rep_snoc]
theorem copies_ev (l : List UInt8) (n : Nat) (hn : n ≤ 9223372036854775806) (hb : l.length * n < 140737488355328) : Ev (fun k => cayleyref01_copies.f k (B l) (n : Int)) (B (Lib.repeatL l n)) := copies_l0 l n hn hb n 0 (by omega)
theorem tdiv_nat (n k : Nat) (hn : n ≤ 100000) : wrap64 (Int.tdiv (n : Int) (k : Int)) = ((n / k : Nat) : Int) := by
  have h : n / k ≤ n := Nat.div_le_self _ _
  rw [Int.tdiv_eq_ediv_of_nonneg (Int.natCast_nonneg _), ← Int.natCast_ediv]
  obtain ⟨q, hq⟩ : ∃ q, n / k = q := ⟨_, rfl⟩
  rw [hq] at h ⊢
  exact w64 _ (by omega) (by omega)
theorem tmod_nat (n k : Nat) : Int.tmod (n : Int) (k : Int) = ((n % k : Nat) : Int) := by
  rw [Int.tmod_eq_emod_of_nonneg (Int.natCast_nonneg _), ← Int.natCast_emod]
theorem root_j1 (l c : List UInt8) (k0 q : Nat) (hk : 1 ≤ k0) (hkl : k0 ≤ l.length) (hd : wrap64 (Int.tdiv (l.length : Int) (k0 : Int)) = (q : Int)) (hLc : ∀ x ∈ c, isL x = true) (hL : ∀ x ∈ l, isL x = true) (hsum : 2 * c.length + l.length ≤ 100000) :
    Ev (fun k => cayleyref01_Root.j1 k (B l) (B c) (l.length : Int) (k0 : Int) true) (B (red (c ++ (l.take k0 ++ inv c))), (q : Int)) := by
  have e1 : (B l).extract 0 ((k0 : Int)).toNat = B (l.take k0) := by
    rw [extract_L, L_B, Int.toNat_natCast, List.drop_zero, Nat.sub_zero]
  have htl : (l.take k0).length = k0 := by rw [List.length_take]; omega
  have hcw : Wd (B c) := ⟨by rw [size_B]; omega, hLc⟩
  have hinv := rInverse_ev (B c) (by rw [size_B]; omega)
  rw [if_pos hcw, L_B] at hinv
  have hcat : B c ++ B (l.take k0) ++ B (inv c) = B (c ++ (l.take k0 ++ inv c)) := by rw [B_append, B_append, List.append_assoc]
  have hlen : (c ++ (l.take k0 ++ inv c)).length ≤ 100000 := by rw [List.length_append, List.length_append, inv_length, htl]; omega
  have hrw : Wd (B (c ++ (l.take k0 ++ inv c))) := by
    refine ⟨by rw [size_B]; exact hlen, ?_⟩
    rw [L_B]
    intro x hx
    rcases List.mem_append.1 hx with hx | hx
    · exact hLc x hx
    · rcases List.mem_append.1 hx with hx | hx
      · exact hL x (List.mem_of_mem_take hx)
      · exact inv_isL hLc x hx
  have hred := rReduce_ev (B (c ++ (l.take k0 ++ inv c))) (by rw [size_B]; omega)
  rw [if_pos hrw, L_B] at hred
  have hkne : ¬ (k0 : Int) = 0 := by omega
  have z1 : (B c).size + (B (l.take k0)).size ≤ 9223372036854775807 := by rw [size_B, size_B, htl]; omega
  have z2 : (B c ++ B (l.take k0)).size + (B (inv c)).size ≤ 9223372036854775807 := by rw [B_append, size_B, size_B, List.length_append, inv_length, htl]; omega
  have q1 : 0 ≤ (k0 : Int) := by omega
  have q2 : (k0 : Int) ≤ ((B l).size : Int) := by rw [size_B]; omega
  refine Ev.step (f := fun k => (cayleyref01_Inverse.f k (B c)).bind fun t110 => (if (B c ++ B (l.take k0)).size + t110.size ≤ 9223372036854775807 then ((cayleyref01_Reduce.f k (B c ++ B (l.take k0) ++ t110)).bind fun t111 => some (t111, (q : Int))) else none)) (fun k => ?_) ?_
  · simp only [cayleyref01_Root.j1, if_true]
    rw [if_pos q1, if_pos q2, e1, if_pos z1]
    simp only [if_neg hkne, hd]
  · refine Ev.bind hinv ?_
    simp only [if_pos z2, hcat]
    exact Ev.bind hred (Ev.now _)
theorem root_step (l c : List UInt8) (k0 q : Nat) (hl : l.length ≤ 100000) (hk : 1 ≤ k0) (hkl : k0 ≤ l.length) (hm : l.length % k0 = 0) (hq : l.length / k0 = q) {r : ByteArray × Int}
    (hr : Ev (fun k => cayleyref01_Root.j1 k (B l) (B c) (l.length : Int) (k0 : Int) (Lib.repeatL (l.take k0) q == l)) r) : Ev (fun k => cayleyref01_Root.l0 k (B l) (B c) (l.length : Int) (k0 : Int)) r := by
  have hd := tdiv_nat l.length k0 hl
  have hmul : k0 * q = l.length := by rw [← hq]; exact Nat.mul_div_cancel' (Nat.dvd_of_mod_eq_zero hm)
  have hle : q ≤ l.length := by rw [← hq]; exact Nat.div_le_self _ _
  rw [hq] at hd
  have hmod : Int.tmod (l.length : Int) (k0 : Int) = 0 := by rw [tmod_nat, hm]; rfl
  have e1 : (B l).extract 0 ((k0 : Int)).toNat = B (l.take k0) := by
    rw [extract_L, L_B, Int.toNat_natCast, List.drop_zero, Nat.sub_zero]
  have htl : (l.take k0).length = k0 := by rw [List.length_take]; omega
  have hcop := copies_ev (l.take k0) q (by omega) (by rw [htl]; omega)
  have hkne : ¬ (k0 : Int) = 0 := by omega
  have q0 : (k0 : Int) ≤ (l.length : Int) := by omega
  have q1 : 0 ≤ (k0 : Int) := by omega
  have q2 : (k0 : Int) ≤ ((B l).size : Int) := by rw [size_B]; omega
  refine Ev.step (f := fun k => (cayleyref01_copies.f k (B (l.take k0)) (q : Int)).bind fun t109 => (cayleyref01_Root.j1 k (B l) (B c) (l.length : Int) (k0 : Int) (t109.toList == (B l).toList))) (fun k => ?_) ?_
  · simp only [cayleyref01_Root.l0]
    rw [if_pos q0, if_neg hkne, if_pos hmod, if_pos q1, if_pos q2, e1, hd]
  · refine Ev.bind hcop ?_
    rw [toList_L, toList_L, L_B, L_B]
    exact hr
theorem rRoot_l0 (l c : List UInt8) (hLc : ∀ x ∈ c, isL x = true) (hL : ∀ x ∈ l, isL x = true) (h : l ≠ []) (hsum : 2 * c.length + l.length ≤ 100000) : ∀ (d k0 : Nat), k0 + d = per l → 1 ≤ k0 →
    Ev (fun k => cayleyref01_Root.l0 k (B l) (B c) (l.length : Int) (k0 : Int)) (B (red (c ++ (rootL l ++ inv c))), ((l.length / per l : Nat) : Int)) := by
  have hp2 := per_le l h
  have hp3 := per_mod l h
  have hpp := per_pow l h
  intro d
  induction d with
  | zero =>
    intro k0 hk h1
    obtain rfl : k0 = per l := by omega
    refine root_step l c (per l) _ (by omega) h1 hp2 hp3 rfl ?_
    have e : (Lib.repeatL (l.take (per l)) (l.length / per l) == l) = true := by
      rw [beq_iff_eq]; exact hpp.symm
    rw [e]
    exact root_j1 l c (per l) _ h1 hp2 (tdiv_nat _ _ (by omega)) hLc hL hsum
  | succ d ih =>
    intro k0 hk h1
    have hnx := ih (k0 + 1) (by omega) (by omega)
    have hw := w64_succ k0 (by omega)
    have hj : Ev (fun k => cayleyref01_Root.j1 k (B l) (B c) (l.length : Int) (k0 : Int) false) (B (red (c ++ (rootL l ++ inv c))), ((l.length / per l : Nat) : Int)) := by
      refine Ev.step (fun k => ?_) hnx
      simp only [cayleyref01_Root.j1, Bool.false_eq_true, if_false, hw]
    by_cases hm : l.length % k0 = 0
    · refine root_step l c k0 _ (by omega) h1 (by omega) hm rfl ?_
      have e : (Lib.repeatL (l.take k0) (l.length / k0) == l) = false := by
        rw [beq_eq_false_iff_ne]
        intro e
        have := per_min l (l.take k0) h (l.length / k0) e.symm
        rw [List.length_take] at this
        omega
      rw [e]
      exact hj
    · have hmod : ¬ Int.tmod (l.length : Int) (k0 : Int) = 0 := by
        rw [tmod_nat]
        omega
      have hkne : ¬ (k0 : Int) = 0 := by omega
      have q0 : (k0 : Int) ≤ (l.length : Int) := by omega
      refine Ev.step (fun k => ?_) hj
      simp only [cayleyref01_Root.l0]
      rw [if_pos q0, if_neg hkne, if_neg hmod]
theorem rRoot_ev {s : ByteArray} (h : Wd s) : Ev (fun k => cayleyref01_Root.f k s) (B (rtL (L s)), (rtN (L s) : Int)) := by
  have hs := h.1
  rw [size_L] at hs
  have hcl := core_length (L s)
  have hlen := cyc_length (red (L s))
  have hrl := red_length (L s)
  have hlen2 : 2 * (cj (L s)).length + (core (L s)).length ≤ (L s).length := by
    have : 2 * (cj (L s)).length + (core (L s)).length = (red (L s)).length := hlen
    omega
  unfold cayleyref01_Root.f
  refine Ev.bind (rCyclic_ev h) ?_
  by_cases hc : core (L s) = []
  · have e1 : ((B (core (L s))).size : Int) = 0 := by rw [hc]; rfl
    simp only [if_pos e1]
    have e2 : rtL (L s) = [] := by unfold rtL; rw [if_pos hc]
    have e3 : rtN (L s) = 0 := by unfold rtN; rw [if_pos hc]
    rw [e2, e3]
    exact Ev.now _
  · have hpos : 0 < (core (L s)).length := List.length_pos_iff.2 hc
    have e1 : ¬ ((B (core (L s))).size : Int) = 0 := by rw [size_B]; omega
    simp only [if_neg e1]
    have e2 : rtL (L s) = red (cj (L s) ++ (rootL (core (L s)) ++ inv (cj (L s)))) := by unfold rtL; rw [if_neg hc]
    have e3 : rtN (L s) = (core (L s)).length / per (core (L s)) := by unfold rtN; rw [if_neg hc]
    have hcjL : ∀ x ∈ cj (L s), isL x = true := fun x hx => red_isL h.2 x (by rw [red_parts]; exact List.mem_append_left _ hx)
    have hp1 := per_pos (core (L s)) hc
    have := rRoot_l0 (core (L s)) (cj (L s)) hcjL (core_isL h.2) hc (by omega) (per (core (L s)) - 1) 1 (by omega) (by omega)
    rw [e2, e3, size_B]
    exact this
theorem rRoot_no {s : ByteArray} (hs : s.size ≤ 140737488355328) (h : ¬ Wd s) : Ev (fun k => cayleyref01_Root.f k s) (B [], 0) := by
  unfold cayleyref01_Root.f
  refine Ev.bind (rCyclic_no hs h) ?_
  have e1 : ((B []).size : Int) = 0 := rfl
  simp only [if_pos e1]
  exact Ev.now _
end Go.Proofs.YthiehmogphknlaaGreatDoor.Laws
namespace Go.Proofs.YthiehmogphknlaaGreatDoor.Laws
open Go.RowKit Go.Proofs.YthiehmogphknlaaGreatDoor.G Go.Proofs.YthiehmogphknlaaGreatDoor.PA Go.Proofs.YthiehmogphknlaaGreatDoor.PT Go.Proofs.YthiehmogphknlaaGreatDoor.PV Go.Proofs.YthiehmogphknlaaGreatDoorW.PrintWords Go.Proofs.YthiehmogphknlaaGreatDoor.Free Go.Proofs.YthiehmogphknlaaGreatDoor.Pure1 Go.Proofs.YthiehmogphknlaaGreatDoor.Min Go.Proofs.YthiehmogphknlaaGreatDoor.Cyc Go.Proofs.YthiehmogphknlaaGreatDoor.Rot Go.Proofs.YthiehmogphknlaaGreatDoor.Pow
/-- What Power answers at a word. -/
def powE (l : List UInt8) (n : Int) : ByteArray × Int :=
  if core l = [] ∨ n = 0 then (B [], 0)
  else if 100000 < n.natAbs ∨ 100000 < (core l).length * n.natAbs + 2 * (cj l).length then (B [], 2)
  else (B (cj l ++ Lib.repeatL (if n < 0 then inv (core l) else core l) n.natAbs ++ inv (cj l)), 0)
theorem powL_E (l : List UInt8) (n : Int) : (match powL l n with | some r => (B r, (0 : Int)) | none => (B [], 2)) = powE l n := by
  have hx : (if n < 0 then inv (core l) else core l) = [] ↔ core l = [] := by
    split
    · exact inv_nil_iff _
    · exact Iff.rfl
  have hxl : (if n < 0 then inv (core l) else core l).length = (core l).length := by split <;> simp [inv_length]
  unfold powL powE
  show (match (if (if n < 0 then inv (core l) else core l) = [] ∨ n = 0 then some [] else if 100000 < n.natAbs ∨ 100000 < (if n < 0 then inv (core l) else core l).length * n.natAbs + 2 * (cj l).length then none else some (cj l ++ Lib.repeatL (if n < 0 then inv (core l) else core l) n.natAbs ++ inv (cj l))) with | some r => (B r, (0 : Int)) | none => (B [], 2)) = _
  rw [hxl]
  by_cases h1 : core l = [] ∨ n = 0
  · rw [if_pos h1, if_pos (h1.imp hx.2 id)]
  · rw [if_neg h1, if_neg (fun h => h1 (h.imp hx.1 id))]
    by_cases h2 : 100000 < n.natAbs ∨ 100000 < (core l).length * n.natAbs + 2 * (cj l).length
    · rw [if_pos h2, if_pos h2]
    · rw [if_neg h2, if_neg h2]
theorem wPower_ev {s : ByteArray} (h : Wd s) (n : Int) (h0 : -9223372036854775808 ≤ n) (h1 : n ≤ 9223372036854775807) : Ev (fun k => word_Power.f k s n) (powE (L s) n) := by
  have hs := h.1
  unfold word_Power.f
  rw [is_f s (by omega), decide_eq_true h]
  simp only [Option.bind_some, if_true]
  by_cases hn : n = -9223372036854775808
  · subst hn
    have hc := core_length (L s)
    rw [size_L] at hs
    have hp : Ev (fun k => word_power.f k s (-9223372036854775808)) (B [], decide (core (L s) = [])) := by
      unfold word_power.f
      refine Ev.bind (f := fun k (bt : ByteArray × ByteArray) => if (-9223372036854775808 : Int) < 0 then ((word_inverse.f k bt.1).bind fun t => (if (-9223372036854775808 : Int) = (wrap64 (-(-9223372036854775808))) then (some ((⟨#[]⟩ : ByteArray), (t.toList == ([] : List UInt8)))) else (word_power.j0 k (wrap64 (-(-9223372036854775808))) t bt.2))) else (word_power.j0 k (-9223372036854775808) bt.1 bt.2)) (cyclic_ev s (by rw [size_L]; omega)) ?_
      have hi := inverse_ev (B (core (L s))) (by rw [size_B]; omega)
      rw [L_B] at hi
      have e1 : (-9223372036854775808 : Int) < 0 := by decide
      have e2 : (-9223372036854775808 : Int) = wrap64 (-(-9223372036854775808)) := by kernel_rfl
      simp only [if_pos e1, if_pos e2]
      refine Ev.bind hi ?_
      have e3 : ((B (inv (core (L s)))).toList == ([] : List UInt8)) = decide (core (L s) = []) := by
        rw [toList_L, L_B]
        by_cases hc : core (L s) = []
        · rw [hc]; rfl
        · rw [decide_eq_false hc, beq_eq_false_iff_ne]
          exact fun e => hc ((inv_nil_iff _).1 e)
      rw [e3]
      exact Ev.now _
    refine Ev.bind hp ?_
    by_cases hc : core (L s) = []
    · have hE : powE (L s) (-9223372036854775808) = (B [], 0) := if_pos (.inl hc)
      rw [hE]
      simp only [decide_eq_true hc, if_true]
      exact Ev.now _
    · have hE : powE (L s) (-9223372036854775808) = (B [], 2) := by
        unfold powE
        rw [if_neg (by rintro (h | h); exact hc h; exact absurd h (by decide)), if_pos (.inl (by decide))]
      have e : ¬ decide (core (L s) = []) = true := by simpa using hc
      rw [hE]
      simp only [if_neg e]
      exact Ev.now _
  · have hp := power_ev s (by omega) n (by omega) h1
    have hE := powL_E (L s) n
    refine Ev.bind hp ?_
    rw [← hE]
    cases powL (L s) n with
    | none =>
      simp only [Bool.false_eq_true, if_false]
      exact Ev.now _
    | some r =>
      simp only [if_true]
      exact Ev.now _
theorem wPower_no {s : ByteArray} (hs : s.size ≤ 140737488355328) (h : ¬ Wd s) (n : Int) : Ev (fun k => word_Power.f k s n) (B [], 4) := by
  unfold word_Power.f
  rw [is_f s (by omega), decide_eq_false h]
  simp only [Option.bind_some]
  exact Ev.congr (f := fun _ => some (B [], 4)) (fun k => by rw [if_neg (by simp)]; rfl) (Ev.now _)
theorem sum64 (a n b p : Nat) (hp : a * n = p) (h : p ≤ 10000000000) (hb : b ≤ 100000) : wrap64 (wrap64 ((a : Int) * (n : Int)) + wrap64 (2 * (b : Int))) = ((p + 2 * b : Nat) : Int) := by
  have e : (a : Int) * (n : Int) = (p : Int) := by rw [← hp, Int.natCast_mul]
  rw [e, w64 (p : Int) (by omega) (by omega), w64 (2 * (b : Int)) (by omega) (by omega), w64 _ (by omega) (by omega)]
  omega
/-- The power of a core, with its conjugator. -/
theorem rpower_j1 (x c : List UInt8) (hx : x.length ≤ 100000) (hc : c.length ≤ 100000) (hL : ∀ b ∈ c, isL b = true) (n : Nat) (hn : n ≤ 9223372036854775807) :
    Ev (fun k => cayleyref01_Power.j1 k (n : Int) (B x) (B c)) (if 100000 < n ∨ 100000 < x.length * n + 2 * c.length then (B [], 2) else (B (c ++ Lib.repeatL x n ++ inv c), 0)) := by
  have bad : Ev (fun k => cayleyref01_Power.j2 k (n : Int) (B x) (B c) true) (B [], 2) := ev_some _ _ (fun k => by simp only [cayleyref01_Power.j2, if_true]; rfl)
  by_cases h1 : 100000 < n
  · rw [if_pos (.inl h1)]
    refine Ev.step (fun k => ?_) bad
    simp only [cayleyref01_Power.j1]
    rw [if_pos (by omega)]
  · have hp : x.length * n ≤ 10000000000 := by
      have : x.length * n ≤ 100000 * 100000 := Nat.mul_le_mul hx (by omega)
      omega
    have hsum := sum64 x.length n c.length _ rfl hp hc
    have hd : (decide ((wrap64 ((wrap64 (((B x).size : Int) * (n : Int))) + (wrap64 (2 * ((B c).size : Int))))) > 100000)) = decide (100000 < x.length * n + 2 * c.length) := by
      rw [size_B, size_B, hsum]
      obtain ⟨q, hq⟩ : ∃ q, x.length * n + 2 * c.length = q := ⟨_, rfl⟩
      rw [hq]
      exact decide_eq_decide.2 (by omega)
    by_cases h2 : 100000 < x.length * n + 2 * c.length
    · rw [if_pos (.inr h2)]
      refine Ev.step (fun k => ?_) bad
      simp only [cayleyref01_Power.j1]
      rw [if_neg (by omega), hd, decide_eq_true h2]
    · rw [if_neg (by rintro (h | h); exact h1 h; exact h2 h)]
      obtain ⟨p, hpp⟩ : ∃ p, x.length * n = p := ⟨_, rfl⟩
      have hrl : (Lib.repeatL x n).length = p := by rw [rep_len, Nat.mul_comm, hpp]
      rw [hpp] at h2
      have hcop := copies_ev x n (by omega) (by rw [hpp]; omega)
      have hcw : Wd (B c) := ⟨by rw [size_B]; exact hc, hL⟩
      have hinv := rInverse_ev (B c) (by rw [size_B]; omega)
      rw [if_pos hcw, L_B] at hinv
      have z1 : (B c).size + (B (Lib.repeatL x n)).size ≤ 9223372036854775807 := by rw [size_B, size_B, hrl]; omega
      have z2 : (B c ++ B (Lib.repeatL x n)).size + (B (inv c)).size ≤ 9223372036854775807 := by rw [B_append, size_B, size_B, List.length_append, inv_length, hrl]; omega
      refine Ev.step (f := fun k => cayleyref01_Power.j2 k (n : Int) (B x) (B c) false) (fun k => ?_) ?_
      · simp only [cayleyref01_Power.j1]
        rw [if_neg (by omega), hd, hpp, decide_eq_false h2]
      · refine Ev.step (f := fun k => (cayleyref01_copies.f k (B x) (n : Int)).bind fun t119 => (if (B c).size + t119.size ≤ 9223372036854775807 then ((cayleyref01_Inverse.f k (B c)).bind fun t120 => (if (B c ++ t119).size + t120.size ≤ 9223372036854775807 then (some ((B c ++ t119) ++ t120, (0 : Int))) else (none))) else (none))) (fun k => by simp only [cayleyref01_Power.j2, Bool.false_eq_true, if_false]) ?_
        refine Ev.bind hcop ?_
        simp only [if_pos z1]
        refine Ev.bind hinv ?_
        simp only [if_pos z2]
        simp only [B_append]
        exact Ev.now _
theorem rPower_ev {s : ByteArray} (h : Wd s) (n : Int) (h0 : -9223372036854775808 ≤ n) (h1 : n ≤ 9223372036854775807) : Ev (fun k => cayleyref01_Power.f k s n) (powE (L s) n) := by
  have hs := h.1
  rw [size_L] at hs
  have hcl := core_length (L s)
  have hlen := cyc_length (red (L s))
  have hrl := red_length (L s)
  have hlen2 : 2 * (cj (L s)).length + (core (L s)).length ≤ (L s).length := by
    have : 2 * (cj (L s)).length + (core (L s)).length = (red (L s)).length := hlen
    omega
  have hcjL : ∀ x ∈ cj (L s), isL x = true := fun x hx => red_isL h.2 x (by rw [red_parts]; exact List.mem_append_left _ hx)
  unfold cayleyref01_Power.f powE
  refine Ev.bind (rIs_ev s (by rw [size_L]; omega)) ?_
  rw [decide_eq_true h]
  simp only [if_true]
  refine Ev.bind (rCyclic_ev h) ?_
  have triv : Ev (fun k => cayleyref01_Power.j0 k n (B (core (L s))) (B (cj (L s))) true) (B [], 0) := ev_some _ _ (fun k => by simp only [cayleyref01_Power.j0, if_true]; rfl)
  by_cases hn : n = 0
  · rw [if_pos (.inr hn)]
    simp only [if_pos hn]
    exact triv
  · simp only [if_neg hn]
    by_cases hc : core (L s) = []
    · rw [if_pos (.inl hc)]
      have e : (((B (core (L s))).size : Int) == 0) = true := by rw [hc]; rfl
      rw [e]
      exact triv
    · rw [if_neg (by rintro (h | h); exact hc h; exact hn h)]
      have hpos : 0 < (core (L s)).length := List.length_pos_iff.2 hc
      have e : (((B (core (L s))).size : Int) == 0) = false := by rw [size_B, beq_eq_false_iff_ne]; omega
      rw [e]
      by_cases hneg : n < 0
      · obtain ⟨m, hm⟩ : ∃ m : Nat, n = -(m : Int) := ⟨n.natAbs, by omega⟩
        have hma : n.natAbs = m := by omega
        rw [if_pos hneg, hma]
        by_cases hbig : n < -100000
        · rw [if_pos (.inl (by omega))]
          refine ev_some _ _ (fun k => ?_)
          simp only [cayleyref01_Power.j0, Bool.false_eq_true, if_false]
          rw [if_pos hneg, if_pos hbig]
          rfl
        · have hw : wrap64 (-n) = (m : Int) := by rw [w64 _ (by omega) (by omega)]; omega
          have hcw : Wd (B (core (L s))) := ⟨by rw [size_B]; omega, core_isL h.2⟩
          have hinv := rInverse_ev (B (core (L s))) (by rw [size_B]; omega)
          rw [if_pos hcw, L_B] at hinv
          have hj := rpower_j1 (inv (core (L s))) (cj (L s)) (by rw [inv_length]; omega) (by omega) hcjL m (by omega)
          rw [inv_length] at hj
          refine Ev.step (f := fun k => (cayleyref01_Inverse.f k (B (core (L s)))).bind fun t118 => (cayleyref01_Power.j1 k (m : Int) t118 (B (cj (L s))))) (fun k => ?_) (Ev.bind hinv hj)
          simp only [cayleyref01_Power.j0, Bool.false_eq_true, if_false]
          rw [if_pos hneg, if_neg hbig, hw]
      · obtain ⟨m, rfl⟩ := Int.eq_ofNat_of_zero_le (a := n) (by omega)
        rw [if_neg hneg, Int.natAbs_natCast]
        refine Ev.step (fun k => ?_) (rpower_j1 (core (L s)) (cj (L s)) (by omega) (by omega) hcjL m (by omega))
        simp only [cayleyref01_Power.j0, Bool.false_eq_true, if_false]
        rw [if_neg hneg]
theorem rPower_no {s : ByteArray} (hs : s.size ≤ 140737488355328) (h : ¬ Wd s) (n : Int) : Ev (fun k => cayleyref01_Power.f k s n) (B [], 4) := by
  unfold cayleyref01_Power.f
  refine Ev.bind (rIs_ev s hs) ?_
  rw [decide_eq_false h]
  exact Ev.congr (f := fun _ => some (B [], 4)) (fun k => by rw [if_neg (by simp)]; rfl) (Ev.now _)
theorem rConj_ev (u v : ByteArray) (hu : u.size ≤ 140737488355328) (hv : v.size ≤ 140737488355328) : Ev (fun k => cayleyref01_Conjugates.f k u v) (decide (Wd u ∧ Wd v ∧ cf (L u) = cf (L v))) := by
  unfold cayleyref01_Conjugates.f
  refine Ev.bind (rIs_ev u hu) ?_
  by_cases h : Wd u
  · rw [decide_eq_true h]
    simp only [if_true]
    refine Ev.bind (rIs_ev v hv) ?_
    by_cases h2 : Wd v
    · rw [decide_eq_true h2]
      simp only [if_true]
      refine Ev.bind (rForm_ev h) (Ev.bind (rForm_ev h2) ?_)
      rw [toList_L, toList_L, L_B, L_B]
      by_cases e : cf (L u) = cf (L v)
      · rw [decide_eq_true ⟨h, h2, e⟩, e, beq_self_eq_true]
        exact Ev.now _
      · rw [decide_eq_false (fun x => e x.2.2), beq_eq_false_iff_ne.2 e]
        exact Ev.now _
    · rw [decide_eq_false h2, decide_eq_false (fun x => h2 x.2.1)]
      exact Ev.congr (f := fun _ => some false) (fun k => by rw [if_neg (by simp)]) (Ev.now _)
  · rw [decide_eq_false h, decide_eq_false (fun x => h x.1)]
    exact Ev.congr (f := fun _ => some false) (fun k => by rw [if_neg (by simp)]) (Ev.now _)
end Go.Proofs.YthiehmogphknlaaGreatDoor.Laws
