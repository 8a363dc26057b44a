/- The reference's Inverse, Reduce, Compare and Text are the program's. -/
import Derived.Test.YthiehmogphknlaaGreatDoorRef
import Derived.Test.YthiehmogphknlaaGreatDoorText
import Derived.Test.YthiehmogphknlaaGreatDoorPTx
namespace Go.Proofs.YthiehmogphknlaaGreatDoor.Laws
open Go.RowKit Go.Proofs.YthiehmogphknlaaGreatDoor.G Go.Proofs.YthiehmogphknlaaGreatDoor.PA Go.Proofs.YthiehmogphknlaaGreatDoor.PT Go.Proofs.YthiehmogphknlaaGreatDoorW.PrintWords Go.Proofs.YthiehmogphknlaaGreatDoor.Free Go.Proofs.YthiehmogphknlaaGreatDoor.Pure1

theorem rOther_ev (c : UInt8) (h : isL c = true) : Ev (fun k => cayleyref01_Other.f k (c.toNat : Int)) ((oth c).toNat : Int) := Ev.step (f := fun _ => some _) (fun k => rOther k c h) (Ev.now _)
theorem rIndex_ev (c : Int) (h0 : 0 ≤ c) (h1 : c ≤ 255) : Ev (fun k => cayleyref01_Index.f k c) (idx c) := Ev.step (f := fun _ => some _) (fun k => rIndex k c h0 h1) (Ev.now _)
theorem rLetter_ev (c : Int) : Ev (fun k => cayleyref01_Letter.f k c) (let_ c) := Ev.step (f := fun _ => some _) (fun k => rLetter k c) (Ev.now _)

/-! ### Reduce -/
theorem rReduce_l0 (s : ByteArray) (hs : s.size ≤ 100000) (hL : ∀ c ∈ L s, isL c = true) : ∀ (d i : Nat) (st : List UInt8), i + d = s.size → st.length ≤ i →
    Ev (fun k => cayleyref01_Reduce.l0 k s (toI st.reverse) (i : Int)) (B (run st ((L s).drop i)).reverse) := by
  intro d
  induction d with
  | zero =>
    intro i st hi _
    refine ev_some _ _ (fun k => ?_)
    simp only [cayleyref01_Reduce.l0]
    rw [if_neg (by omega), List.drop_of_length_le (by rw [← size_L]; omega), run_nil, str_toI]
  | succ d ih =>
    intro i st hi hst
    have hlt : i < (L s).length := by rw [← size_L]; omega
    have hdrop : (L s).drop i = (L s)[i] :: (L s).drop (i + 1) := List.drop_eq_getElem_cons hlt
    have hlet := hL _ (List.getElem_mem hlt)
    have hbt := bt_nat s i hlt
    obtain ⟨c, hc⟩ : ∃ c, (L s)[i] = c := ⟨_, rfl⟩
    rw [hc] at hdrop hlet hbt
    rw [hdrop, run_cons]
    have q1 : (i : Int) < (s.size : Int) := by omega
    have q2 : 0 ≤ (i : Int) := by omega
    have hw := w64_succ i (by omega)
    cases st with
    | nil =>
      have q3 : ¬ ((toI ([] : List UInt8).reverse).length : Int) > 0 := by simp [toI]
      have q4 : (toI ([] : List UInt8).reverse).length < 140737488355328 := by simp [toI]
      refine Ev.step (fun k => ?_) (ih (i + 1) [c] (by omega) (by simp))
      simp only [cayleyref01_Reduce.l0]
      rw [if_pos q1, if_neg q3, if_pos q2, if_pos q4, hw, hbt]
      rfl
    | cons x t =>
      rw [List.length_cons] at hst
      have hl : (toI (x :: t).reverse).length = t.length + 1 := by rw [toI_length]; simp
      have q3 : ((toI (x :: t).reverse).length : Int) > 0 := by rw [hl]; omega
      have q4 : 0 ≤ (t.length : Int) := by omega
      have q5 : (t.length : Int) < ((toI (x :: t).reverse).length : Int) := by rw [hl]; omega
      have q6 : (t.length : Int) ≤ ((toI (x :: t).reverse).length : Int) := by omega
      have q7 : (toI (x :: t).reverse).length < 140737488355328 := by rw [hl]; omega
      have hsub : wrap64 (((toI (x :: t).reverse).length : Int) - 1) = (t.length : Int) := by rw [hl]; exact w64_pred _ (by omega)
      have hrd : rd (toI (x :: t).reverse) (t.length : Int) = (x.toNat : Int) := by
        unfold rd
        rw [Int.toNat_natCast, List.reverse_cons, toI_append, List.getD_eq_getElem?_getD, List.getElem?_append_right (by rw [toI_length]; simp)]
        rw [toI_length, List.length_reverse, Nat.sub_self]
        rfl
      refine Ev.step (f := fun k => (cayleyref01_Other.f k (bt s (i : Int))).bind fun t182 => (if (x.toNat : Int) = t182 then (cayleyref01_Reduce.l0 k s (toI t.reverse) ((i + 1 : Nat) : Int)) else (cayleyref01_Reduce.l0 k s (toI (c :: x :: t).reverse) ((i + 1 : Nat) : Int)))) (fun k => ?_) ?_
      · simp only [cayleyref01_Reduce.l0]
        rw [if_pos q1, if_pos q3, hsub, if_pos q4, if_pos q5, if_pos q2]
        simp only [hrd, if_pos q6, if_pos q7, hw]
        congr 1
        funext t182
        rw [Int.toNat_natCast, List.reverse_cons, toI_append, List.take_left' (by rw [toI_length]; simp), List.reverse_cons (a := c), toI_append, List.reverse_cons, toI_append, hbt]
        rfl
      · rw [hbt]
        refine Ev.bind (rOther_ev c hlet) ?_
        rw [push_cons]
        by_cases hx : x = oth c
        · have q8 : (x.toNat : Int) = ((oth c).toNat : Int) := by rw [hx]
          rw [if_pos hx]
          simp only [if_pos q8]
          exact ih (i + 1) t (by omega) (by omega)
        · have q8 : ¬ (x.toNat : Int) = ((oth c).toNat : Int) := by intro e; exact hx (UInt8.toNat_inj.mp (Int.ofNat.inj e))
          rw [if_neg hx]
          simp only [if_neg q8]
          exact ih (i + 1) (c :: x :: t) (by omega) (by simp only [List.length_cons]; omega)
theorem rReduce_ev (s : ByteArray) (hs : s.size ≤ 140737488355328) : Ev (fun k => cayleyref01_Reduce.f k s) (if Wd s then B (red (L s)) else B []) := by
  unfold cayleyref01_Reduce.f
  refine Ev.bind (rIs_ev s hs) ?_
  by_cases h : Wd s
  · rw [if_pos h, decide_eq_true h]
    simp only [if_true]
    have := rReduce_l0 s h.1 h.2 s.size 0 [] (by omega) (by simp)
    rw [List.drop_zero] at this
    exact this
  · rw [if_neg h, decide_eq_false h]
    exact Ev.congr (f := fun _ => some (B [])) (fun k => by rw [if_neg (by simp)]; rfl) (Ev.now _)

/-! ### Inverse -/
theorem rInverse_l0 (s : ByteArray) (hs : s.size ≤ 100000) (hL : ∀ c ∈ L s, isL c = true) : ∀ (m : Nat), m ≤ s.size →
    Ev (fun k => cayleyref01_Inverse.l0 k s (toI (inv ((L s).drop m))) ((m : Int) - 1)) (B (inv (L s))) := by
  intro m
  induction m with
  | zero =>
    intro _
    refine ev_some _ _ (fun k => ?_)
    simp only [cayleyref01_Inverse.l0]
    rw [if_neg (by omega), List.drop_zero, str_toI]
  | succ m ih =>
    intro hm
    have hlt : m < (L s).length := by rw [← size_L]; omega
    have hdrop : (L s).drop m = (L s)[m] :: (L s).drop (m + 1) := List.drop_eq_getElem_cons hlt
    have hlet := hL _ (List.getElem_mem hlt)
    have hbt := bt_nat s m hlt
    have hl : (toI (inv ((L s).drop (m + 1)))).length < 140737488355328 := by rw [toI_length, inv_length, List.length_drop, ← size_L]; omega
    have e : ((m + 1 : Nat) : Int) - 1 = (m : Int) := by omega
    have hw : wrap64 ((m : Int) - 1) = (m : Int) - 1 := by unfold wrap64; omega
    rw [e]
    have ih' := ih (by omega)
    refine Ev.step (f := fun k => (cayleyref01_Other.f k (bt s (m : Int))).bind fun t176 => cayleyref01_Inverse.l0 k s (toI (inv ((L s).drop (m + 1))) ++ [t176]) ((m : Int) - 1)) (fun k => ?_) ?_
    · simp only [cayleyref01_Inverse.l0]
      rw [if_pos (by omega), if_pos (by omega), if_pos (by omega)]
      simp only [if_pos hl, hw]
    · rw [hbt]
      refine Ev.bind (rOther_ev _ hlet) ?_
      rw [hdrop, inv_cons, toI_append] at ih'
      exact ih'
theorem rInverse_ev (s : ByteArray) (hs : s.size ≤ 140737488355328) : Ev (fun k => cayleyref01_Inverse.f k s) (if Wd s then B (inv (L s)) else B []) := by
  unfold cayleyref01_Inverse.f
  refine Ev.bind (rIs_ev s hs) ?_
  by_cases h : Wd s
  · rw [if_pos h, decide_eq_true h]
    simp only [if_true]
    have := rInverse_l0 s h.1 h.2 s.size (Nat.le_refl _)
    rw [List.drop_of_length_le (by rw [← size_L]; exact Nat.le_refl _)] at this
    have h1 := h.1
    have hw : wrap64 ((s.size : Int) - 1) = (s.size : Int) - 1 := by unfold wrap64; omega
    rw [hw]
    exact this
  · rw [if_neg h, decide_eq_false h]
    exact Ev.congr (f := fun _ => some (B [])) (fun k => by rw [if_neg (by simp)]; rfl) (Ev.now _)

/-! ### Compare -/
theorem rCompare_l0 (a b : ByteArray) (hs : a.size ≤ 140737488355328) (hab : a.size = b.size) : ∀ (d i : Nat), i + d = a.size →
    Ev (fun k => cayleyref01_Compare.l0 k a b (i : Int)) (cmpL ((L a).drop i) ((L b).drop i)) := by
  intro d
  induction d with
  | zero =>
    intro i hi
    refine ev_some _ _ (fun k => ?_)
    simp only [cayleyref01_Compare.l0]
    rw [if_neg (by omega), List.drop_eq_nil_of_le (by rw [← size_L]; omega)]
    rfl
  | succ d ih =>
    intro i hi
    have ha : i < (L a).length := by rw [← size_L]; omega
    have hb : i < (L b).length := by rw [← size_L]; omega
    rw [List.drop_eq_getElem_cons ha, List.drop_eq_getElem_cons hb]
    unfold cmpL
    have ra := bt_range a (i : Int)
    have rb := bt_range b (i : Int)
    refine Ev.step (f := fun k => (cayleyref01_Index.f k (bt a (i : Int))).bind fun t117 => (cayleyref01_Index.f k (bt b (i : Int))).bind fun t118 => (if t117 < t118 then (some (-1)) else (if t117 > t118 then (some 1) else (cayleyref01_Compare.l0 k a b ((i + 1 : Nat) : Int))))) (fun k => ?_) ?_
    · simp only [cayleyref01_Compare.l0]
      have q : (i : Int) < (b.size : Int) := by omega
      rw [if_pos (by omega), if_pos (by omega)]
      simp only [if_pos q, w64_succ i (by omega)]
    · refine Ev.bind (rIndex_ev _ ra.1 ra.2) (Ev.bind (rIndex_ev _ rb.1 rb.2) ?_)
      rw [bt_nat a i ha, bt_nat b i hb]
      by_cases h1 : idx (((L a)[i]).toNat : Int) < idx (((L b)[i]).toNat : Int)
      · simp only [if_pos h1]
        exact Ev.now _
      · simp only [if_neg h1]
        by_cases h2 : idx (((L b)[i]).toNat : Int) < idx (((L a)[i]).toNat : Int)
        · simp only [if_pos h2]
          exact Ev.now _
        · simp only [if_neg h2]
          exact ih (i + 1) (by omega)
theorem rCompare_ev (a b : ByteArray) (ha : a.size ≤ 140737488355328) (hb : b.size ≤ 140737488355328) : Ev (fun k => cayleyref01_Compare.f k a b) (if Wd a ∧ Wd b then cmp (L a) (L b) else 0) := by
  unfold cayleyref01_Compare.f
  have hj : Ev (fun k => cayleyref01_Compare.j0 k a b true) 0 := ev_some _ _ (fun k => by simp only [cayleyref01_Compare.j0, if_true])
  refine Ev.bind (rIs_ev a ha) ?_
  by_cases h : Wd a
  · rw [decide_eq_true h]
    simp only [if_true]
    refine Ev.bind (rIs_ev b hb) ?_
    by_cases h2 : Wd b
    · rw [decide_eq_true h2, if_pos ⟨h, h2⟩]
      show Ev (fun k => cayleyref01_Compare.j0 k a b false) _
      unfold cmp
      by_cases e : a.size = b.size
      · have := rCompare_l0 a b ha e a.size 0 (by omega)
        rw [List.drop_zero, List.drop_zero] at this
        rw [if_pos (by rw [← size_L, ← size_L]; exact e)]
        refine Ev.step (fun k => ?_) this
        simp only [cayleyref01_Compare.j0, Bool.false_eq_true, if_false]
        rw [if_pos (by omega)]
        rfl
      · rw [if_neg (by rw [← size_L, ← size_L]; exact e)]
        refine ev_some _ _ (fun k => ?_)
        simp only [cayleyref01_Compare.j0, Bool.false_eq_true, if_false]
        rw [if_neg (by omega), ← size_L, ← size_L]
        by_cases e2 : a.size < b.size
        · rw [if_pos (by omega), if_pos e2]
        · rw [if_neg (by omega), if_neg e2]
    · rw [decide_eq_false h2, if_neg (fun x => h2 x.2)]
      exact hj
  · rw [decide_eq_false h, if_neg (fun x => h x.1)]
    exact Ev.congr (fun k => by rw [if_neg (by simp)]) hj

/-! ### Text -/
set_option maxRecDepth 100000 in
theorem let_idx_all : ∀ n : Fin 256, isL (UInt8.ofNat n) = true → (0 ≤ idx ((UInt8.ofNat n).toNat : Int) ∧ idx ((UInt8.ofNat n).toNat : Int) < 16) ∧ let_ (idx ((UInt8.ofNat n).toNat : Int)) = ((UInt8.ofNat n).toNat : Int) := by decide +kernel
theorem enc_letter (c : UInt8) (h : isL c = true) : Utf8.encode (c.toNat : Int) = B [c] := by
  have e : UInt8.ofNat (⟨c.toNat, c.toNat_lt⟩ : Fin 256) = c := by simp
  have := let_idx_all ⟨c.toNat, c.toNat_lt⟩
  rw [e] at this
  obtain ⟨⟨h0, h1⟩, h2⟩ := this h
  have h3 := let_all ⟨(idx (c.toNat : Int)).toNat, by omega⟩
  have e2 : (((⟨(idx (c.toNat : Int)).toNat, by omega⟩ : Fin 16) : Nat) : Int) = idx (c.toNat : Int) := by simp; omega
  rw [e2, h2] at h3
  have e3 : UInt8.ofNat ((c.toNat : Int)).toNat = c := by simp
  rw [e3] at h3
  exact h3.1.1
theorem pieces_more : ∀ (f g : Nat) (l : List UInt8), l.length ≤ f → l.length ≤ g → piecesF f l = piecesF g l
  | 0, 0, _, _, _ => rfl
  | 0, g + 1, l, h, _ => by
    obtain rfl := List.eq_nil_of_length_eq_zero (Nat.le_zero.1 h)
    rfl
  | f + 1, 0, l, _, h => by
    obtain rfl := List.eq_nil_of_length_eq_zero (Nat.le_zero.1 h)
    rfl
  | _ + 1, _ + 1, [], _, _ => rfl
  | f + 1, g + 1, c :: l, h1, h2 => by
    have h := tw_len (· == c) l
    rw [List.length_cons] at h1 h2
    rw [pieces_ne, pieces_ne, pieces_more f g _ (by omega) (by omega)]

/-- One run behind what is written. -/
theorem text_j2 (s : ByteArray) (hs : s.size ≤ 1000) (i n : Nat) (c : UInt8) (hi : i < (L s).length) (hc : (L s)[i] = c) (hlet : isL c = true) (h1 : 1 ≤ n) (hn : i + n ≤ s.size) (x : List UInt8) (hx : x.length ≤ 50000) {r : ByteArray}
    (hr : Ev (fun k => cayleyref01_Text.l0 k s (B (x ++ (if 0 < i then [32] else []) ++ piece c n)) ((i + n : Nat) : Int)) r) :
    Ev (fun k => cayleyref01_Text.j2 k s (B x) (i : Int) ((i + n : Nat) : Int)) r := by
  have hbt := bt_nat s i hi
  rw [hc] at hbt
  have hs2 := size_L s
  have henc := enc_letter c hlet
  have hw : wrap64 (((i + n : Nat) : Int) - (i : Int)) = (n : Int) := by unfold wrap64; omega
  have hsp : (⟨#[32]⟩ : ByteArray) = B [32] := rfl
  have hca : (⟨#[94]⟩ : ByteArray) = B [94] := rfl
  have q1 : 0 ≤ (i : Int) := by omega
  have q2 : (i : Int) < (s.size : Int) := by omega
  have hit : 1 < n → (Lib.itoa (n : Int)).length ≤ 4 := fun _ => (num_all ⟨n, by omega⟩).2.1.2
  have eit : strconv_Itoa.f (n : Int) = some (B (Lib.itoa (n : Int))) := by
    unfold strconv_Itoa.f
    rw [if_pos (by omega)]; rfl
  by_cases hi0 : 0 < i
  · rw [if_pos hi0] at hr
    refine Ev.step (fun k => ?_) hr
    have q3 : (i : Int) > 0 := by omega
    have z1 : (B x).size + 1 ≤ 9223372036854775807 := by rw [size_B]; omega
    have z2 : (B (x ++ [32])).size + (B [c]).size ≤ 9223372036854775807 := by rw [size_B, size_B]; simp; omega
    simp only [cayleyref01_Text.j2]
    rw [if_pos q3, if_pos z1, if_pos q1, if_pos q2, hbt, henc, hsp, B_append, if_pos z2, hw, B_append]
    by_cases h2 : 1 < n
    · have z3 : (B (x ++ [32] ++ [c])).size + 1 ≤ 9223372036854775807 := by rw [size_B]; simp; omega
      have z4 : (B (x ++ [32] ++ [c] ++ [94])).size + (B (Lib.itoa (n : Int))).size ≤ 9223372036854775807 := by
        have := hit h2
        rw [size_B, size_B]; simp; omega
      rw [if_pos (by omega), if_pos z3, eit]
      simp only [Option.bind_some]
      rw [hca, B_append, if_pos z4, B_append]
      have e : x ++ [32] ++ [c] ++ [94] ++ Lib.itoa (n : Int) = x ++ [32] ++ piece c n := by unfold piece; rw [if_pos h2]; simp
      rw [e]
    · rw [if_neg (by omega)]
      have e : x ++ [32] ++ [c] = x ++ [32] ++ piece c n := by unfold piece; rw [if_neg h2]
      rw [e]
  · rw [if_neg hi0, List.append_nil] at hr
    refine Ev.step (fun k => ?_) hr
    have q3 : ¬ (i : Int) > 0 := by omega
    have z2 : (B x).size + (B [c]).size ≤ 9223372036854775807 := by rw [size_B, size_B]; simp; omega
    simp only [cayleyref01_Text.j2]
    rw [if_neg q3, if_pos q1, if_pos q2, hbt, henc, if_pos z2, hw, B_append]
    by_cases h2 : 1 < n
    · have z3 : (B (x ++ [c])).size + 1 ≤ 9223372036854775807 := by rw [size_B]; simp; omega
      have z4 : (B (x ++ [c] ++ [94])).size + (B (Lib.itoa (n : Int))).size ≤ 9223372036854775807 := by
        have := hit h2
        rw [size_B, size_B]; simp; omega
      rw [if_pos (by omega), if_pos z3, eit]
      simp only [Option.bind_some]
      rw [hca, B_append, if_pos z4, B_append]
      have e : x ++ [c] ++ [94] ++ Lib.itoa (n : Int) = x ++ piece c n := by unfold piece; rw [if_pos h2]; simp
      rw [e]
    · rw [if_neg (by omega)]
      have e : x ++ [c] = x ++ piece c n := by unfold piece; rw [if_neg h2]
      rw [e]

/-- The end of a run is looked for. -/
theorem text_l1 (s : ByteArray) (hs : s.size ≤ 1000) (i : Nat) (c : UInt8) (hi : i < (L s).length) (hc : (L s)[i] = c) (x : ByteArray) {r : ByteArray} :
    ∀ (d j : Nat), i ≤ j → j + d = s.size → Ev (fun k => cayleyref01_Text.j2 k s x (i : Int) ((j + (((L s).drop j).takeWhile (· == c)).length : Nat) : Int)) r → Ev (fun k => cayleyref01_Text.l1 k s x (i : Int) (j : Int)) r := by
  have hbt := bt_nat s i hi
  rw [hc] at hbt
  have hs2 := size_L s
  intro d
  induction d with
  | zero =>
    intro j hij hj hr
    rw [List.drop_eq_nil_of_le (by omega), List.takeWhile_nil, List.length_nil, Nat.add_zero] at hr
    refine Ev.step (fun k => ?_) hr
    simp only [cayleyref01_Text.l1]
    rw [if_neg (by omega)]
  | succ d ih =>
    intro j hij hj hr
    have hjl : j < (L s).length := by omega
    have hbj := bt_nat s j hjl
    have hdrop : (L s).drop j = (L s)[j] :: (L s).drop (j + 1) := List.drop_eq_getElem_cons hjl
    by_cases he : (L s)[j] = c
    · rw [hdrop, List.takeWhile_cons_of_pos (by simpa using he), List.length_cons, ← Nat.add_assoc, Nat.add_right_comm] at hr
      refine Ev.step (fun k => ?_) (ih (j + 1) (by omega) (by omega) hr)
      simp only [cayleyref01_Text.l1]
      rw [if_pos (by omega), if_pos (by omega), if_pos (by omega), if_pos (by omega), if_pos (by rw [hbj, hbt, he]), w64_succ j (by omega)]
    · rw [hdrop, List.takeWhile_cons_of_neg (by simpa using he), List.length_nil, Nat.add_zero] at hr
      refine Ev.step (fun k => ?_) hr
      simp only [cayleyref01_Text.l1]
      have hne : ¬ bt s (j : Int) = bt s (i : Int) := by
        rw [hbj, hbt]
        intro e
        exact he (UInt8.toNat_inj.1 (by omega))
      rw [if_pos (by omega), if_pos (by omega), if_pos (by omega), if_pos (by omega), if_neg hne]

theorem text_round (s : ByteArray) (hs : s.size ≤ 1000) (hL : ∀ c ∈ L s, isL c = true) (i : Nat) (c : UInt8) (l : List UInt8) (hd : (L s).drop i = c :: l) (x : List UInt8) (hx : x.length ≤ 50000) {r : ByteArray}
    (hr : Ev (fun k => cayleyref01_Text.l0 k s (B (x ++ (if 0 < i then [32] else []) ++ piece c (1 + (l.takeWhile (· == c)).length))) ((i + (1 + (l.takeWhile (· == c)).length) : Nat) : Int)) r) :
    Ev (fun k => cayleyref01_Text.l0 k s (B x) (i : Int)) r := by
  have hs2 := size_L s
  have hlen := congrArg List.length hd
  rw [List.length_drop, List.length_cons] at hlen
  have htw := tw_len (· == c) l
  have hi : i < (L s).length := by omega
  have hc : (L s)[i] = c := by
    have := List.drop_eq_getElem_cons hi
    rw [hd] at this
    exact (List.cons.inj this).1.symm
  have hcl : isL c = true := hL c (hc ▸ List.getElem_mem hi)
  have h2 := text_j2 s hs i (1 + (l.takeWhile (· == c)).length) c hi hc hcl (by omega) (by omega) x hx hr
  have h3 := text_l1 s hs i c hi hc (B x) (r := r) (s.size - i) i (Nat.le_refl _) (by omega) (by
    rw [hd, List.takeWhile_cons_of_pos (by simp), List.length_cons, Nat.add_comm (List.length _) 1]
    exact h2)
  refine Ev.step (fun k => ?_) h3
  simp only [cayleyref01_Text.l0]
  rw [if_pos (by omega)]

theorem rText_l0 (s : ByteArray) (hs : s.size ≤ 1000) (hL : ∀ c ∈ L s, isL c = true) : ∀ (f i : Nat) (x : List UInt8), 0 < i → ((L s).drop i).length ≤ f → x.length ≤ 32 * i →
    Ev (fun k => cayleyref01_Text.l0 k s (B x) (i : Int)) (B (x ++ Lib.joinTail [32] (piecesF f ((L s).drop i)))) := by
  have hs2 := size_L s
  intro f
  induction f with
  | zero =>
    intro i x hi hf hx
    have hd := List.eq_nil_of_length_eq_zero (Nat.le_zero.1 hf)
    have hlen := congrArg List.length hd
    rw [List.length_drop, List.length_nil] at hlen
    rw [hd]
    show Ev _ (B (x ++ []))
    rw [List.append_nil]
    refine ev_some _ _ (fun k => ?_)
    simp only [cayleyref01_Text.l0]
    rw [if_neg (by omega)]
  | succ f ih =>
    intro i x hi hf hx
    cases hd : (L s).drop i with
    | nil =>
      have hlen := congrArg List.length hd
      rw [List.length_drop, List.length_nil] at hlen
      show Ev _ (B (x ++ []))
      rw [List.append_nil]
      refine ev_some _ _ (fun k => ?_)
      simp only [cayleyref01_Text.l0]
      rw [if_neg (by omega)]
    | cons c l =>
      have hlen := congrArg List.length hd
      rw [List.length_drop, List.length_cons] at hlen
      rw [hd, List.length_cons] at hf
      have htw := tw_len (· == c) l
      have hdw := tw_dw (· == c) l
      obtain ⟨n, hn⟩ : ∃ n, 1 + (l.takeWhile (· == c)).length = n := ⟨_, rfl⟩
      have hd2 : (L s).drop (i + n) = l.dropWhile (· == c) := by
        rw [← List.drop_drop, hd, ← hn, Nat.add_comm 1, List.drop_succ_cons, hdw]
      have hp := piece_len c n (by omega)
      refine text_round s hs hL i c l hd x (by omega) ?_
      rw [hn, if_pos hi]
      have := ih (i + n) (x ++ [32] ++ piece c n) (by omega) (by rw [hd2]; omega) (by simp only [List.length_append, List.length_singleton]; omega)
      rw [hd2] at this
      rw [pieces_ne, hn]
      have e : x ++ Lib.joinTail [32] (piece c n :: piecesF f (l.dropWhile (· == c))) = x ++ [32] ++ piece c n ++ Lib.joinTail [32] (piecesF f (l.dropWhile (· == c))) := by
        show x ++ ((32 :: piece c n) ++ Lib.joinTail [32] (piecesF f (l.dropWhile (· == c)))) = _
        simp
      rw [e]
      exact this

theorem rText_ev {s : ByteArray} (h : Sw s) : Ev (fun k => cayleyref01_Text.f k s) (B (textL (L s))) := by
  have h1 := h.1
  have hs2 := size_L s
  unfold cayleyref01_Text.f textL
  refine Ev.bind (rIs_ev s (by omega)) ?_
  rw [decide_eq_true (sw_wd h)]
  simp only [if_true]
  cases hd : L s with
  | nil =>
    have e : s.toList = ([] : List UInt8) := by rw [toList_L, hd]
    simp only [if_pos e]
    exact Ev.now _
  | cons c l =>
    have e : ¬ s.toList = ([] : List UInt8) := by rw [toList_L, hd]; simp
    simp only [if_neg e]
    rw [if_neg (by simp)]
    have hlen := congrArg List.length hd
    rw [List.length_cons] at hlen
    have htw := tw_len (· == c) l
    have hdw := tw_dw (· == c) l
    obtain ⟨n, hn⟩ : ∃ n, 1 + (l.takeWhile (· == c)).length = n := ⟨_, rfl⟩
    have hd2 : (L s).drop n = l.dropWhile (· == c) := by
      rw [hd, ← hn, Nat.add_comm 1, List.drop_succ_cons, hdw]
    have hp := piece_len c n (by omega)
    refine text_round s h1 h.2 0 c l (by rw [List.drop_zero, hd]) [] (by simp) ?_
    rw [hn]
    have := rText_l0 s h1 h.2 l.length n (piece c n) (by omega) (by rw [hd2]; omega) (by omega)
    rw [hd2] at this
    rw [List.length_cons, pieces_ne, hn, Lib.join_cons, Nat.zero_add]
    exact this
theorem rText_no {s : ByteArray} (hs : s.size ≤ 140737488355328) (h : ¬ Wd s) : Ev (fun k => cayleyref01_Text.f k s) (B []) := by
  unfold cayleyref01_Text.f
  refine Ev.bind (rIs_ev s hs) ?_
  rw [decide_eq_false h]
  exact Ev.congr (f := fun _ => some (B [])) (fun k => by rw [if_neg (by simp)]; rfl) (Ev.now _)
theorem Text_no {s : ByteArray} (hs : s.size ≤ 140737488355328) (h : ¬ Wd s) : Ev (fun k => word_Text.f k s) (B []) := by
  unfold word_Text.f
  rw [is_f s (by omega), decide_eq_false h]
  simp only [Option.bind_some]
  exact Ev.congr (f := fun _ => some (B [])) (fun k => by rw [if_neg (by simp)]; rfl) (Ev.now _)

/-! ### short -/
def Sh (s : ByteArray) : Prop := s.size ≤ 1000 ∨ 100000 < s.size
instance (s : ByteArray) : Decidable (Sh s) := inferInstanceAs (Decidable (_ ∨ _))
theorem Sh.sw {s : ByteArray} (h : Sh s) (hw : Wd s) : Sw s := ⟨by have := hw.1; unfold Sh at h; omega, hw.2⟩
theorem short_l0 (l : List ByteArray) (hl : l.length ≤ 1000) : ∀ (d i : Nat), i + d = l.length → Ev (fun k => cayleylaw01_short.l0 k l (i : Int)) ((l.drop i).all fun s => decide (Sh s)) := by
  intro d
  induction d with
  | zero =>
    intro i hi
    refine ev_some _ _ (fun k => ?_)
    simp only [cayleylaw01_short.l0]
    rw [if_neg (by omega), List.drop_eq_nil_of_le (by omega)]
    simp
  | succ d ih =>
    intro i hi
    have hlt : i < l.length := by omega
    have hrd : rdOf ByteArray.empty l (i : Int) = l[i] := by
      unfold rdOf
      rw [Int.toNat_natCast]
      simp [hlt]
    have hd : l.drop i = l[i] :: l.drop (i + 1) := List.drop_eq_getElem_cons hlt
    by_cases a : Sh l[i]
    · rw [hd, List.all_cons, decide_eq_true a, Bool.true_and]
      refine Ev.step (fun k => ?_) (ih (i + 1) (by omega))
      simp only [cayleylaw01_short.l0]
      rw [if_pos (by omega), if_pos (by omega), hrd, w64_succ i (by omega)]
      unfold Sh at a
      by_cases b : l[i].size ≤ 1000
      · rw [if_neg (by omega)]
      · rw [if_pos (by omega), if_neg (by omega)]
    · rw [hd, List.all_cons, decide_eq_false a, Bool.false_and]
      refine ev_some _ _ (fun k => ?_)
      simp only [cayleylaw01_short.l0]
      unfold Sh at a
      rw [if_pos (by omega), if_pos (by omega), hrd, if_pos (by omega), if_pos (by omega)]
theorem short_ev (l : List ByteArray) (hl : l.length ≤ 1000) : Ev (fun k => cayleylaw01_short.f k l) (l.all fun s => decide (Sh s)) := by
  have := short_l0 l hl l.length 0 (by omega)
  rw [List.drop_zero] at this
  exact this

end Go.Proofs.YthiehmogphknlaaGreatDoor.Laws
