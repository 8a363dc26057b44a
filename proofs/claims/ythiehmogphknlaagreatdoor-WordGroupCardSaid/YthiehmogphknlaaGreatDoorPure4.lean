/- The reference's tests for words; shortlex. -/
import Derived.Test.YthiehmogphknlaaGreatDoorPure3
namespace Go.Proofs.YthiehmogphknlaaGreatDoor.Pure1
open Go.RowKit Go.Proofs.YthiehmogphknlaaGreatDoor.G Go.Proofs.YthiehmogphknlaaGreatDoor.PA Go.Proofs.YthiehmogphknlaaGreatDoorW.PrintWords Go.Proofs.YthiehmogphknlaaGreatDoor.Free

theorem rIndex (k : Nat) (c : Int) (h0 : 0 ≤ c) (h1 : c ≤ 255) : cayleyref01_Index.f (k + 1) c = some (idx c) := by
  unfold cayleyref01_Index.f idx
  simp only [cayleyref01_Index.j0]
  by_cases a : 97 ≤ c
  · by_cases b : c < 105
    · have e : (c - 97) % 256 = c - 97 := by omega
      simp [a, b, e]
    · have e1 : ¬ c < 73 := by omega
      simp [a, b, e1]
  · by_cases b : 65 ≤ c
    · by_cases d : c < 73
      · have e : (c - 65) % 256 = c - 65 := by omega
        simp [a, b, d, e]
      · simp [a, b, d]
    · simp [a, b]

theorem w64_two (k : Int) (h0 : 1 ≤ k) (h1 : k ≤ 8) : wrap64 (2 * k) = 2 * k := w64 _ (by omega) (by omega)

theorem rCheck_l0 (kk : Int) (h0 : 1 ≤ kk) (h1 : kk ≤ 8) (s : ByteArray) (hs : s.size ≤ 140737488355328) : ∀ (d i : Nat), i + d = s.size →
    Ev (fun k => cayleyref01_Check.l0 k kk s (i : Int)) (if ((L s).drop i).any (noL kk) = true then 4 else 0) := by
  intro d
  induction d with
  | zero =>
    intro i hi
    refine ev_some _ _ (fun k => ?_)
    simp only [cayleyref01_Check.l0]
    rw [if_neg (by omega), List.drop_eq_nil_of_le (by rw [← size_L]; omega)]
    rfl
  | succ d ih =>
    intro i hi
    have hlt : i < (L s).length := by rw [← size_L]; omega
    have hr := bt_range s (i : Int)
    have key : ((L s).drop i).any (noL kk) = (noL kk ((L s)[i]) || ((L s).drop (i + 1)).any (noL kk)) := by
      rw [List.drop_eq_getElem_cons hlt, List.any_cons]
    have hb := bt_nat s i hlt
    refine Ev.step (f := fun k => (cayleyref01_Index.f k (bt s (i : Int))).bind fun t171 => (if t171 < 0 then (some 4) else (if t171 ≥ (wrap64 (2 * kk)) then (some 4) else (cayleyref01_Check.l0 k kk s (wrap64 ((i : Int) + 1)))))) (fun k => ?_) ?_
    · simp only [cayleyref01_Check.l0]
      rw [if_pos (by omega), if_pos (by omega)]
    · refine Ev.bind (a := idx (bt s (i : Int))) (Ev.step (f := fun _ => some (idx (bt s (i : Int)))) (fun k => rIndex k _ hr.1 hr.2) (Ev.now _)) ?_
      rw [w64_two kk h0 h1, w64_succ i (by omega), key]
      unfold noL
      rw [hb]
      by_cases a : idx (((L s)[i]).toNat : Int) < 0
      · rw [decide_eq_true a, Bool.true_or, Bool.true_or, if_pos rfl]
        refine Ev.congr (f := fun _ => some 4) (fun k => ?_) (Ev.now _)
        rw [if_pos a]
      · rw [decide_eq_false a]
        by_cases b : 2 * kk ≤ idx (((L s)[i]).toNat : Int)
        · rw [decide_eq_true b, Bool.or_true, Bool.true_or, if_pos rfl]
          refine Ev.congr (f := fun _ => some 4) (fun k => ?_) (Ev.now _)
          rw [if_neg a, if_pos b]
        · rw [decide_eq_false b, Bool.or_false, Bool.false_or]
          refine Ev.congr (f := fun k => cayleyref01_Check.l0 k kk s ((i + 1 : Nat) : Int)) (fun k => ?_) (ih (i + 1) (by omega))
          rw [if_neg a, if_neg b]

theorem rCheck_ev (kk : Int) (s : ByteArray) (hs : s.size ≤ 140737488355328) : Ev (fun k => cayleyref01_Check.f k kk s) (chkL kk s) := by
  have e : ∀ k, cayleyref01_Check.f k kk s = cayleyref01_Check.j0 k kk s (decide (kk < 1 ∨ 8 < kk)) := by
    intro k
    unfold cayleyref01_Check.f
    by_cases a : kk < 1
    · rw [if_pos a, decide_eq_true (Or.inl a)]
    · rw [if_neg a]
      congr 1
      exact decide_eq_decide.2 ⟨fun h => Or.inr h, fun h => h.resolve_left a⟩
  refine Ev.congr e ?_
  unfold chkL
  by_cases a : kk < 1 ∨ 8 < kk
  · rw [if_pos a, decide_eq_true a]
    exact ev_some _ _ (fun k => by simp only [cayleyref01_Check.j0]; rw [if_pos trivial])
  · rw [if_neg a, decide_eq_false a]
    by_cases b : 100000 < s.size
    · rw [if_pos b]
      exact ev_some _ _ (fun k => by simp only [cayleyref01_Check.j0]; rw [if_neg (by simp), if_pos (by omega)])
    · rw [if_neg b]
      refine Ev.step (f := fun k => cayleyref01_Check.l0 k kk s ((0 : Nat) : Int)) (fun k => ?_) ?_
      · simp only [cayleyref01_Check.j0]
        rw [if_neg (by simp), if_neg (by omega)]
        rfl
      · exact rCheck_l0 kk (by omega) (by omega) s hs s.size 0 (by omega)
theorem rIs_ev (s : ByteArray) (hs : s.size ≤ 140737488355328) : Ev (fun k => cayleyref01_Is.f k s) (decide (Wd s)) := by
  unfold cayleyref01_Is.f
  refine Ev.bind (f := fun _ t => some (t == 0)) (rCheck_ev 8 s hs) ?_
  have : (chkL 8 s == 0) = decide (Wd s) := by
    by_cases h : Wd s
    · rw [decide_eq_true h, (chkL_8 s).2 h]; rfl
    · rw [decide_eq_false h]
      exact beq_eq_false_iff_ne.2 (fun e => h ((chkL_8 s).1 e))
  rw [this]
  exact Ev.now _

/-- A word of at most 1000 letters. -/
def Sw (s : ByteArray) : Prop := s.size ≤ 1000 ∧ ∀ c ∈ L s, isL c = true
instance (s : ByteArray) : Decidable (Sw s) := by unfold Sw; infer_instance
theorem sw_wd {s : ByteArray} (h : Sw s) : Wd s := ⟨by have := h.1; omega, h.2⟩
theorem dec_cons (x : ByteArray) (t : List ByteArray) : decide (∀ s ∈ x :: t, Sw s) = (decide (Sw x) && decide (∀ s ∈ t, Sw s)) := by
  rw [← Bool.decide_and]
  exact decide_eq_decide.2 (by rw [List.forall_mem_cons])
theorem words_l0 (l : List ByteArray) (hl : l.length ≤ 1000) (hs : ∀ s ∈ l, s.size ≤ 140737488355328) : ∀ (d i : Nat), i + d = l.length →
    Ev (fun k => cayleylaw01_words.l0 k l (i : Int)) (decide (∀ s ∈ l.drop i, Sw s)) := by
  intro d
  induction d with
  | zero =>
    intro i hi
    refine ev_some _ _ (fun k => ?_)
    simp only [cayleylaw01_words.l0]
    rw [if_neg (by omega), List.drop_eq_nil_of_le (by omega)]
    simp
  | succ d ih =>
    intro i hi
    have hlt : i < l.length := by omega
    have hrd : rdOf ByteArray.empty l (i : Int) = l[i] := by
      unfold rdOf
      rw [Int.toNat_natCast]
      simp [hlt]
    have hsz := hs l[i] (List.getElem_mem hlt)
    have hd : l.drop i = l[i] :: l.drop (i + 1) := List.drop_eq_getElem_cons hlt
    by_cases a : l[i].size ≤ 1000
    · refine Ev.step (f := fun k => (cayleyref01_Is.f k l[i]).bind fun t219 => (if t219 = true then (cayleylaw01_words.l0 k l ((i + 1 : Nat) : Int)) else (some false))) (fun k => ?_) ?_
      · simp only [cayleylaw01_words.l0]
        rw [if_pos (by omega), if_pos (by omega), hrd, if_neg (by omega), w64_succ i (by omega)]
      · refine Ev.bind (rIs_ev l[i] hsz) ?_
        by_cases b : Wd l[i]
        · have hsw : Sw l[i] := ⟨a, b.2⟩
          rw [decide_eq_true b]
          refine Ev.congr (f := fun k => cayleylaw01_words.l0 k l ((i + 1 : Nat) : Int)) (fun k => by rw [if_pos rfl]) ?_
          rw [hd, dec_cons, decide_eq_true hsw, Bool.true_and]
          exact ih (i + 1) (by omega)
        · rw [decide_eq_false b]
          have e : decide (∀ s ∈ l.drop i, Sw s) = false := decide_eq_false (by
            rw [hd, List.forall_mem_cons]
            exact fun h => b (sw_wd h.1))
          rw [e]
          exact Ev.congr (f := fun _ => some false) (fun k => by rw [if_neg (by simp)]) (Ev.now _)
    · have e : decide (∀ s ∈ l.drop i, Sw s) = false := decide_eq_false (by
        rw [hd, List.forall_mem_cons]
        exact fun h => a h.1.1)
      rw [e]
      refine ev_some _ _ (fun k => ?_)
      simp only [cayleylaw01_words.l0]
      rw [if_pos (by omega), if_pos (by omega), hrd, if_pos (by omega)]
theorem words_ev (l : List ByteArray) (hl : l.length ≤ 1000) (hs : ∀ s ∈ l, s.size ≤ 140737488355328) : Ev (fun k => cayleylaw01_words.f k l) (decide (∀ s ∈ l, Sw s)) := by
  have := words_l0 l hl hs l.length 0 (by omega)
  rwa [List.drop_zero] at this

/-- Shortlex, of equal lengths. -/
def cmpL : List UInt8 → List UInt8 → Int
  | a :: u, b :: v => if idx (a.toNat : Int) < idx (b.toNat : Int) then -1 else if idx (b.toNat : Int) < idx (a.toNat : Int) then 1 else cmpL u v
  | _, _ => 0
def cmp (u v : List UInt8) : Int := if u.length = v.length then cmpL u v else if u.length < v.length then -1 else 1

theorem wIndex (c : UInt8) : word_Index.f (c.toNat : Int) = some (idx (c.toNat : Int)) := by
  unfold word_Index.f
  have := c.toNat_lt
  rw [if_pos (by omega)]
theorem compare_l0 (a b : ByteArray) (hs : a.size ≤ 140737488355328) (hab : a.size = b.size) : ∀ (d i : Nat), i + d = a.size →
    Ev (fun k => word_compare.l0 k a b (a.size : Int) (i : Int)) (cmpL ((L a).drop i) ((L b).drop i)) := by
  intro d
  induction d with
  | zero =>
    intro i hi
    refine ev_some _ _ (fun k => ?_)
    simp only [word_compare.l0]
    rw [if_neg (by omega), List.drop_eq_nil_of_le (by rw [← size_L]; omega)]
    rfl
  | succ d ih =>
    intro i hi
    have ha : i < (L a).length := by rw [← size_L]; omega
    have hb : i < (L b).length := by rw [← size_L]; omega
    rw [List.drop_eq_getElem_cons ha, List.drop_eq_getElem_cons hb]
    unfold cmpL
    refine Ev.step (f := fun k => if idx (((L a)[i]).toNat : Int) < idx (((L b)[i]).toNat : Int) then some (-1) else if idx (((L a)[i]).toNat : Int) > idx (((L b)[i]).toNat : Int) then some 1 else word_compare.l0 k a b (a.size : Int) ((i + 1 : Nat) : Int)) (fun k => ?_) ?_
    · simp only [word_compare.l0]
      rw [if_pos (by omega), if_pos (by omega), if_pos (by omega), bt_nat a i ha, wIndex]
      simp only [Option.bind_some]
      rw [if_pos (by omega), bt_nat b i hb, wIndex]
      simp only [Option.bind_some]
      rw [w64_succ i (by omega)]
    · by_cases h1 : idx (((L a)[i]).toNat : Int) < idx (((L b)[i]).toNat : Int)
      · rw [if_pos h1]
        exact Ev.congr (f := fun _ => some (-1)) (fun k => by rw [if_pos h1]) (Ev.now _)
      · rw [if_neg h1]
        by_cases h2 : idx (((L b)[i]).toNat : Int) < idx (((L a)[i]).toNat : Int)
        · rw [if_pos h2]
          exact Ev.congr (f := fun _ => some 1) (fun k => by rw [if_neg h1, if_pos h2]) (Ev.now _)
        · rw [if_neg h2]
          exact Ev.congr (fun k => by rw [if_neg h1, if_neg h2]) (ih (i + 1) (by omega))
theorem compare_ev (a b : ByteArray) (hs : a.size ≤ 140737488355328) : Ev (fun k => word_compare.f k a b) (cmp (L a) (L b)) := by
  unfold word_compare.f
  by_cases h : a.size = b.size
  · have e : cmp (L a) (L b) = cmpL (L a) (L b) := if_pos h
    rw [e]
    have := compare_l0 a b hs h a.size 0 (by omega)
    rw [List.drop_zero, List.drop_zero] at this
    exact Ev.congr (f := fun k => word_compare.l0 k a b (a.size : Int) ((0 : Nat) : Int)) (fun k => if_pos (by omega)) this
  · by_cases h2 : a.size < b.size
    · have e : cmp (L a) (L b) = -1 := (if_neg h).trans (if_pos h2)
      rw [e]
      exact Ev.congr (f := fun _ => some (-1)) (fun k => (if_neg (by omega)).trans (if_pos (by omega))) (Ev.now _)
    · have e : cmp (L a) (L b) = 1 := (if_neg h).trans (if_neg h2)
      rw [e]
      exact Ev.congr (f := fun _ => some 1) (fun k => (if_neg (by omega)).trans (if_neg (by omega))) (Ev.now _)
theorem Compare_ev (a b : ByteArray) (ha : a.size ≤ 140737488355328) (hb : b.size ≤ 140737488355328) : Ev (fun k => word_Compare.f k a b) (if Wd a ∧ Wd b then cmp (L a) (L b) else 0) := by
  unfold word_Compare.f
  rw [is_f a (by omega), is_f b (by omega)]
  by_cases h1 : Wd a
  · by_cases h2 : Wd b
    · rw [if_pos ⟨h1, h2⟩]
      exact Ev.congr (f := fun k => (word_compare.f k a b).bind fun t => some t) (fun k => by simp [h1, h2]) (Ev.bind (compare_ev a b ha) (Ev.now _))
    · rw [if_neg (fun h => h2 h.2)]
      exact Ev.congr (f := fun _ => some 0) (fun k => by simp [h1, h2]) (Ev.now _)
  · rw [if_neg (fun h => h1 h.1)]
    exact Ev.congr (f := fun _ => some 0) (fun k => by simp [h1]) (Ev.now _)

end Go.Proofs.YthiehmogphknlaaGreatDoor.Pure1
