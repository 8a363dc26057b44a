/- Plain lists of bytes: free reduction with a stack, inverses, and what follows (no program in sight). -/
import Derived.Test.YthiehmogphknlaaGreatDoorProg
namespace Go.Proofs.YthiehmogphknlaaGreatDoor.Free
/-- The inverse of a letter: its other case. -/
def oth (c : UInt8) : UInt8 := c ^^^ 32
theorem oth_oth (c : UInt8) : oth (oth c) = c := by
  unfold oth
  rw [UInt8.xor_assoc, UInt8.xor_self, UInt8.xor_zero]
theorem oth_ne (c : UInt8) : oth c ≠ c := by
  unfold oth
  intro h
  have h2 : c ^^^ (c ^^^ 32) = c ^^^ c := by rw [h]
  rw [← UInt8.xor_assoc, UInt8.xor_self, UInt8.zero_xor] at h2
  exact absurd h2 (by decide)
theorem oth_inj {a b : UInt8} (h : oth a = oth b) : a = b := by rw [← oth_oth a, h, oth_oth]
/-- One letter onto the stack (the top first). -/
def push (st : List UInt8) (c : UInt8) : List UInt8 := match st with | x :: t => if x = oth c then t else c :: x :: t | [] => [c]
def run (st w : List UInt8) : List UInt8 := w.foldl push st
/-- The free reduction. -/
def red (w : List UInt8) : List UInt8 := (run [] w).reverse
def inv (w : List UInt8) : List UInt8 := (w.map oth).reverse
/-- No letter beside its inverse. -/
def Red : List UInt8 → Prop
  | [] => True
  | [_] => True
  | a :: b :: l => a ≠ oth b ∧ Red (b :: l)
theorem push_cons (x : UInt8) (t : List UInt8) (c : UInt8) : push (x :: t) c = if x = oth c then t else c :: x :: t := rfl
theorem push_nil (c : UInt8) : push [] c = [c] := rfl
theorem Red.tail {a : UInt8} {l : List UInt8} (h : Red (a :: l)) : Red l := by
  cases l with
  | nil => trivial
  | cons b l => exact h.2
theorem Red.cons {a : UInt8} {l : List UInt8} (h : Red l) (ha : ∀ b t, l = b :: t → a ≠ oth b) : Red (a :: l) := by
  cases l with
  | nil => trivial
  | cons b l => exact ⟨ha b l rfl, h⟩
theorem Red.head {a b : UInt8} {l : List UInt8} (h : Red (a :: b :: l)) : a ≠ oth b := h.1
theorem ne_oth_comm {a b : UInt8} (h : a ≠ oth b) : b ≠ oth a := fun e => h (by rw [e, oth_oth])
theorem push_red {st : List UInt8} (h : Red st) (c : UInt8) : Red (push st c) := by
  cases st with
  | nil => trivial
  | cons x t =>
    rw [push_cons]
    split
    · exact h.tail
    · rename_i hx
      exact ⟨ne_oth_comm hx, h⟩
theorem run_red {st : List UInt8} (h : Red st) (w : List UInt8) : Red (run st w) := by
  induction w generalizing st with
  | nil => exact h
  | cons c w ih => exact ih (push_red h c)
theorem Red.append {l m : List UInt8} (hl : Red l) (hm : Red m) (h : ∀ a b, l.getLast? = some a → m.head? = some b → a ≠ oth b) : Red (l ++ m) := by
  induction l with
  | nil => exact hm
  | cons a l ih =>
    cases l with
    | nil =>
      cases m with
      | nil => trivial
      | cons b m => exact ⟨h a b rfl rfl, hm⟩
    | cons b l =>
      refine ⟨hl.1, ih hl.2 (fun x y hx hy => h x y ?_ hy)⟩
      rw [List.getLast?_cons_cons]; exact hx
theorem Red.left {l m : List UInt8} (h : Red (l ++ m)) : Red l := by
  induction l with
  | nil => trivial
  | cons a l ih =>
    cases l with
    | nil => trivial
    | cons b l => exact ⟨h.1, ih h.2⟩
theorem Red.right {l m : List UInt8} (h : Red (l ++ m)) : Red m := by
  induction l with
  | nil => exact h
  | cons a l ih => exact ih h.tail
theorem Red.mid {l m : List UInt8} {a b : UInt8} (h : Red (l ++ a :: b :: m)) : a ≠ oth b := h.right.1
theorem Red.reverse {l : List UInt8} (h : Red l) : Red l.reverse := by
  induction l with
  | nil => trivial
  | cons a l ih =>
    rw [List.reverse_cons]
    refine (ih h.tail).append trivial (fun x y hx hy => ?_)
    rw [List.getLast?_reverse] at hx
    cases l with
    | nil => cases hx
    | cons b l =>
      obtain rfl := Option.some.inj hx
      obtain rfl := Option.some.inj hy
      exact ne_oth_comm h.1
theorem red_red (w : List UInt8) : Red (red w) := (run_red (st := []) trivial w).reverse
theorem run_append (st u v : List UInt8) : run st (u ++ v) = run (run st u) v := by unfold run; rw [List.foldl_append]
theorem run_cons (st : List UInt8) (c : UInt8) (w : List UInt8) : run st (c :: w) = run (push st c) w := rfl
theorem run_nil (st : List UInt8) : run st [] = st := rfl
/-- A reduced word that fits onto the stack goes there as it is. -/
theorem run_of_red {st w : List UInt8} (h : Red (st.reverse ++ w)) : run st w = w.reverse ++ st := by
  induction w generalizing st with
  | nil => rfl
  | cons c w ih =>
    have hp : push st c = c :: st := by
      cases st with
      | nil => rfl
      | cons x t =>
        rw [push_cons, if_neg]
        rw [List.reverse_cons, List.append_assoc] at h
        exact h.right.1
    rw [run_cons, hp, ih (by rw [List.reverse_cons, List.append_assoc]; exact h), List.reverse_cons, List.append_assoc]
    rfl
theorem red_of_red {w : List UInt8} (h : Red w) : red w = w := by
  unfold red
  rw [run_of_red (st := []) h, List.append_nil, List.reverse_reverse]
theorem red_idem (w : List UInt8) : red (red w) = red w := red_of_red (red_red w)
theorem push_oth {st : List UInt8} (h : Red st) (c : UInt8) : push (push st c) (oth c) = st := by
  cases st with
  | nil => rw [push_nil, push_cons, oth_oth, if_pos rfl]
  | cons x t =>
    rw [push_cons]
    split
    · rename_i hx
      cases t with
      | nil => rw [push_nil, hx]
      | cons y t =>
        rw [push_cons, if_neg, hx]
        rw [oth_oth]
        intro e
        exact h.1 (by rw [hx, e])
    · rw [push_cons, oth_oth, if_pos rfl]
/-- A pair of inverse neighbours falls away. -/
theorem red_pair (u v : List UInt8) (c : UInt8) : red (u ++ c :: oth c :: v) = red (u ++ v) := by
  unfold red
  rw [run_append, run_append, run_cons, run_cons, push_oth (run_red (st := []) trivial u)]
/-- Reduction of the first part first. -/
theorem run_nil_red (u : List UInt8) : (run [] (red u)) = run [] u := by
  have := red_idem u
  unfold red at this ⊢
  rw [List.reverse_inj] at this
  exact this
theorem red_left (u v : List UInt8) : red (red u ++ v) = red (u ++ v) := by
  unfold red
  rw [run_append, run_append]
  rw [show run [] (run [] u).reverse = run [] u from run_nil_red u]
/-- 'u' and 'v' are one element of the free group. -/
def Eqv (u v : List UInt8) : Prop := red u = red v
theorem Eqv.refl (u : List UInt8) : Eqv u u := rfl
theorem Eqv.symm {u v : List UInt8} (h : Eqv u v) : Eqv v u := Eq.symm h
theorem Eqv.trans {u v w : List UInt8} (h : Eqv u v) (k : Eqv v w) : Eqv u w := Eq.trans h k
theorem Eqv.appendRight {u v : List UInt8} (h : Eqv u v) (w : List UInt8) : Eqv (u ++ w) (v ++ w) := by
  show red _ = red _
  rw [← red_left u, ← red_left v, h]
theorem Eqv.red (u : List UInt8) : Eqv (Free.red u) u := red_idem u
theorem run_red_right {st : List UInt8} (h : Red st) (v : List UInt8) : run st (red v) = run st v := by
  -- by the last letter
  have key : ∀ v : List UInt8, ∀ st, Red st → run st (run [] v).reverse = run st v := by
    intro v
    induction hn : v.length generalizing v with
    | zero => intro st _; obtain rfl := List.eq_nil_of_length_eq_zero hn; rfl
    | succ n ih =>
      intro st hst
      obtain ⟨u, c, rfl⟩ : ∃ u c, v = u ++ [c] := ⟨v.dropLast, v.getLast (by intro e; simp [e] at hn), (List.dropLast_concat_getLast _).symm⟩
      have hu : u.length = n := by simpa using hn
      rw [run_append, run_append]
      have hr := run_red (st := []) trivial u
      have e1 := ih u hu st hst
      show run st (push (run [] u) c).reverse = push (run st u) c
      cases hq : run [] u with
      | nil =>
        rw [hq] at e1
        rw [push_nil, ← e1]
        rfl
      | cons x t =>
        rw [hq] at e1 hr
        rw [push_cons]
        split
        · rename_i hx
          rw [← e1, List.reverse_cons, run_append]
          show run st t.reverse = push (push (run st t.reverse) x) c
          have hc : c = oth x := by rw [hx, oth_oth]
          rw [hc, push_oth (run_red hst _)]
        · rw [List.reverse_cons, run_append, e1]
          rfl
  exact key v st h
theorem red_right (u v : List UInt8) : red (u ++ red v) = red (u ++ v) := by
  show (run [] (u ++ red v)).reverse = (run [] (u ++ v)).reverse
  rw [run_append, run_append, run_red_right (run_red (st := []) trivial u)]
theorem Eqv.appendLeft {u v : List UInt8} (h : Eqv u v) (w : List UInt8) : Eqv (w ++ u) (w ++ v) := by
  show Free.red _ = Free.red _
  rw [← red_right w u, ← red_right w v, h]
theorem Eqv.append {u v u' v' : List UInt8} (h : Eqv u v) (k : Eqv u' v') : Eqv (u ++ u') (v ++ v') := (h.appendRight u').trans (k.appendLeft v)
theorem inv_append (u v : List UInt8) : inv (u ++ v) = inv v ++ inv u := by unfold inv; rw [List.map_append, List.reverse_append]
theorem inv_cons (c : UInt8) (v : List UInt8) : inv (c :: v) = inv v ++ [oth c] := by unfold inv; rw [List.map_cons, List.reverse_cons]
theorem inv_nil : inv [] = [] := rfl
theorem inv_inv (u : List UInt8) : inv (inv u) = u := by
  unfold inv
  rw [List.map_reverse, List.reverse_reverse, List.map_map]
  conv => rhs; rw [← List.map_id u]
  exact List.map_congr_left fun c _ => oth_oth c
theorem inv_length (u : List UInt8) : (inv u).length = u.length := by simp [inv]
theorem eqv_pair (c : UInt8) (v : List UInt8) : Eqv (c :: oth c :: v) v := red_pair [] v c
theorem eqv_inv_right (u : List UInt8) : Eqv (u ++ inv u) [] := by
  induction u with
  | nil => rfl
  | cons c u ih =>
    rw [inv_cons]
    have h1 : Eqv (u ++ inv u ++ [oth c]) ([] ++ [oth c]) := ih.appendRight _
    have h2 : Eqv ([c] ++ (u ++ inv u ++ [oth c])) ([c] ++ ([] ++ [oth c])) := h1.appendLeft _
    have h3 : Eqv ([c] ++ ([] ++ [oth c])) [] := eqv_pair c []
    have := h2.trans h3
    simpa [List.append_assoc] using this
theorem eqv_inv_left (u : List UInt8) : Eqv (inv u ++ u) [] := by
  have := eqv_inv_right (inv u)
  rwa [inv_inv] at this
theorem Eqv.inv {u v : List UInt8} (h : Eqv u v) : Eqv (Free.inv u) (Free.inv v) := by
  -- u^-1 = u^-1 v v^-1 = u^-1 u v^-1 = v^-1
  have h1 : Eqv (Free.inv u ++ (v ++ Free.inv v)) (Free.inv u) := by
    have := (eqv_inv_right v).appendLeft (Free.inv u)
    rwa [List.append_nil] at this
  have h2 : Eqv (Free.inv u ++ (v ++ Free.inv v)) (Free.inv v) := by
    have a : Eqv (Free.inv u ++ v) [] := (h.symm.appendLeft (Free.inv u)).trans (eqv_inv_left u)
    have := a.appendRight (Free.inv v)
    rwa [List.nil_append, List.append_assoc] at this
  exact h1.symm.trans h2
theorem red_inv (u : List UInt8) (h : Red u) : Red (inv u) := by
  induction u with
  | nil => trivial
  | cons a u ih =>
    rw [inv_cons]
    refine (ih h.tail).append trivial (fun x y hx hy => ?_)
    cases u with
    | nil => cases hx
    | cons b u =>
      rw [inv_cons] at hx
      simp at hx hy
      subst hx hy
      exact fun e => ne_oth_comm h.1 (oth_inj e)
theorem red_length (u : List UInt8) : (red u).length ≤ u.length := by
  have key : ∀ (u st : List UInt8), (run st u).length ≤ st.length + u.length := by
    intro u
    induction u with
    | nil => intro st; simp [run]
    | cons c u ih =>
      intro st
      rw [run_cons]
      refine Nat.le_trans (ih _) ?_
      have : (push st c).length ≤ st.length + 1 := by
        cases st with
        | nil => simp [push]
        | cons x t => rw [push_cons]; split <;> simp <;> omega
      simp only [List.length_cons]
      omega
  unfold red
  rw [List.length_reverse]
  simpa using key u []
theorem run_subset (u st : List UInt8) : ∀ c ∈ run st u, c ∈ st ∨ c ∈ u := by
  induction u generalizing st with
  | nil => intro c hc; exact .inl hc
  | cons a u ih =>
    intro c hc
    rw [run_cons] at hc
    rcases ih _ c hc with h | h
    · cases st with
      | nil =>
        rw [push_nil] at h
        simp at h
        exact .inr (by simp [h])
      | cons x t =>
        rw [push_cons] at h
        split at h
        · exact .inl (by simp [h])
        · simp at h
          rcases h with rfl | rfl | h
          · exact .inr (by simp)
          · exact .inl (by simp)
          · exact .inl (by simp [h])
    · exact .inr (by simp [h])
theorem red_subset (u : List UInt8) : ∀ c ∈ red u, c ∈ u := by
  intro c hc
  unfold red at hc
  rw [List.mem_reverse] at hc
  rcases run_subset u [] c hc with h | h
  · cases h
  · exact h
end Go.Proofs.YthiehmogphknlaaGreatDoor.Free
