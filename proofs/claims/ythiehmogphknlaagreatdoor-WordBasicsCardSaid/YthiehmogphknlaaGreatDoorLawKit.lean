/- Shortlex is a total order; what the laws' plain proofs share. -/
import Derived.Test.YthiehmogphknlaaGreatDoorPure
import Derived.Test.YthiehmogphknlaaGreatDoorSane
namespace Go.Proofs.YthiehmogphknlaaGreatDoor.Laws
open Go.RowKit Go.Proofs.YthiehmogphknlaaGreatDoor.G Go.Proofs.YthiehmogphknlaaGreatDoor.PA Go.Proofs.YthiehmogphknlaaGreatDoorW.PrintWords Go.Proofs.YthiehmogphknlaaGreatDoor.Free Go.Proofs.YthiehmogphknlaaGreatDoor.Pure1

theorem idx_inj {a b : UInt8} (ha : isL a = true) (hb : isL b = true) (h : idx (a.toNat : Int) = idx (b.toNat : Int)) : a = b := by
  have h1 := letter_range a ha
  have h2 := letter_range b hb
  unfold idx at h
  apply UInt8.toNat_inj.1
  split at h <;> split at h <;> (try split at h) <;> (try split at h) <;> omega

theorem cmpL_nil (u : List UInt8) : cmpL u [] = 0 := by cases u <;> rfl
theorem cmpL_cons (a b : UInt8) (u v : List UInt8) : cmpL (a :: u) (b :: v) = if idx (a.toNat : Int) < idx (b.toNat : Int) then -1 else if idx (b.toNat : Int) < idx (a.toNat : Int) then 1 else cmpL u v := rfl
theorem cmpL_neg : ∀ u v : List UInt8, cmpL v u = -cmpL u v
  | [], [] => rfl
  | [], _ :: _ => rfl
  | _ :: _, [] => rfl
  | a :: u, b :: v => by
    have ih := cmpL_neg u v
    rw [cmpL_cons, cmpL_cons, ih]
    split
    · rw [if_neg (by omega)]
    · split <;> rfl
theorem cmpL_range : ∀ u v : List UInt8, -1 ≤ cmpL u v ∧ cmpL u v ≤ 1
  | [], v => by rw [show cmpL [] v = 0 from rfl]; exact ⟨by decide, by decide⟩
  | a :: u, [] => by rw [cmpL_nil]; exact ⟨by decide, by decide⟩
  | a :: u, b :: v => by
    have ih := cmpL_range u v
    rw [cmpL_cons]
    split
    · exact ⟨by decide, by decide⟩
    · split
      · exact ⟨by decide, by decide⟩
      · exact ih
theorem cmpL_self : ∀ u : List UInt8, cmpL u u = 0
  | [] => rfl
  | a :: u => by rw [cmpL_cons, if_neg (by omega), if_neg (by omega)]; exact cmpL_self u
theorem cmpL_zero : ∀ u v : List UInt8, u.length = v.length → (∀ c ∈ u, isL c = true) → (∀ c ∈ v, isL c = true) → cmpL u v = 0 → u = v
  | [], [], _, _, _, _ => rfl
  | [], _ :: _, h, _, _, _ => by simp at h
  | _ :: _, [], h, _, _, _ => by simp at h
  | a :: u, b :: v, h, hu, hv, hz => by
    rw [cmpL_cons] at hz
    split at hz
    · exact absurd hz (by decide)
    · split at hz
      · exact absurd hz (by decide)
      · have e : a = b := idx_inj (hu a List.mem_cons_self) (hv b List.mem_cons_self) (by omega)
        rw [e, cmpL_zero u v (by simpa using h) (fun c hc => hu c (List.mem_cons_of_mem _ hc)) (fun c hc => hv c (List.mem_cons_of_mem _ hc)) hz]
theorem cmpL_trans : ∀ u v w : List UInt8, u.length = v.length → v.length = w.length → cmpL u v ≤ 0 → cmpL v w ≤ 0 → cmpL u w ≤ 0
  | [], _, _, _, _, _, _ => by exact (by decide : (0 : Int) ≤ 0)
  | _ :: _, [], _, h, _, _, _ => by simp at h
  | _ :: _, _ :: _, [], _, h, _, _ => by simp at h
  | a :: u, b :: v, c :: w, h1, h2, h3, h4 => by
    have ih := cmpL_trans u v w (by simpa using h1) (by simpa using h2)
    rw [cmpL_cons] at h3 h4 ⊢
    split
    · decide
    · split
      · split at h3
        · split at h4
          · omega
          · split at h4
            · exact absurd h4 (by decide)
            · omega
        · split at h3
          · exact absurd h3 (by decide)
          · split at h4
            · omega
            · split at h4
              · exact absurd h4 (by decide)
              · omega
      · split at h3
        · split at h4
          · omega
          · split at h4
            · exact absurd h4 (by decide)
            · omega
        · split at h3
          · exact absurd h3 (by decide)
          · split at h4
            · omega
            · split at h4
              · exact absurd h4 (by decide)
              · exact ih h3 h4
theorem cmpL_left (u v : List UInt8) : ∀ x : List UInt8, cmpL (x ++ u) (x ++ v) = cmpL u v
  | [] => rfl
  | a :: x => by rw [List.cons_append, List.cons_append, cmpL_cons, if_neg (by omega), if_neg (by omega)]; exact cmpL_left u v x
theorem cmpL_right (y : List UInt8) : ∀ u v : List UInt8, u.length = v.length → cmpL (u ++ y) (v ++ y) = cmpL u v
  | [], [], _ => cmpL_self y
  | [], _ :: _, h => by simp at h
  | _ :: _, [], h => by simp at h
  | a :: u, b :: v, h => by rw [List.cons_append, List.cons_append, cmpL_cons, cmpL_cons, cmpL_right y u v (by simpa using h)]

theorem cmp_eq {u v : List UInt8} (h : u.length = v.length) : cmp u v = cmpL u v := if_pos h
theorem cmp_lt {u v : List UInt8} (h : u.length < v.length) : cmp u v = -1 := (if_neg (by omega)).trans (if_pos h)
theorem cmp_gt {u v : List UInt8} (h : v.length < u.length) : cmp u v = 1 := (if_neg (by omega)).trans (if_neg (by omega))
theorem three (m n : Nat) : m = n ∨ m < n ∨ n < m := by omega
theorem cmp_neg (u v : List UInt8) : cmp v u = -cmp u v := by
  rcases three u.length v.length with h | h | h
  · rw [cmp_eq h, cmp_eq h.symm]; exact cmpL_neg u v
  · rw [cmp_lt h, cmp_gt h]; rfl
  · rw [cmp_gt h, cmp_lt h]
theorem cmp_range (u v : List UInt8) : -1 ≤ cmp u v ∧ cmp u v ≤ 1 := by
  rcases three u.length v.length with h | h | h
  · rw [cmp_eq h]; exact cmpL_range u v
  · rw [cmp_lt h]; exact ⟨by decide, by decide⟩
  · rw [cmp_gt h]; exact ⟨by decide, by decide⟩
theorem cmp_zero (u v : List UInt8) (hu : ∀ c ∈ u, isL c = true) (hv : ∀ c ∈ v, isL c = true) : cmp u v = 0 ↔ u = v := by
  constructor
  · intro hz
    rcases three u.length v.length with h | h | h
    · rw [cmp_eq h] at hz; exact cmpL_zero u v h hu hv hz
    · rw [cmp_lt h] at hz; exact absurd hz (by decide)
    · rw [cmp_gt h] at hz; exact absurd hz (by decide)
  · rintro rfl
    rw [cmp_eq rfl]; exact cmpL_self u
theorem cmp_trans (u v w : List UInt8) (h1 : cmp u v ≤ 0) (h2 : cmp v w ≤ 0) : cmp u w ≤ 0 := by
  rcases three u.length w.length with h | h | h
  · rcases three u.length v.length with k | k | k
    · rw [cmp_eq k] at h1; rw [cmp_eq (k.symm.trans h)] at h2; rw [cmp_eq h]
      exact cmpL_trans u v w k (k.symm.trans h) h1 h2
    · rw [cmp_gt (u := v) (v := w) (by omega)] at h2; exact absurd h2 (by decide)
    · rw [cmp_gt k] at h1; exact absurd h1 (by decide)
  · rw [cmp_lt h]; decide
  · rcases three u.length v.length with k | k | k
    · rw [cmp_gt (u := v) (v := w) (by omega)] at h2; exact absurd h2 (by decide)
    · rw [cmp_gt (u := v) (v := w) (by omega)] at h2; exact absurd h2 (by decide)
    · rw [cmp_gt k] at h1; exact absurd h1 (by decide)
theorem cmp_mid (x y u v : List UInt8) : cmp (x ++ u ++ y) (x ++ v ++ y) = cmp u v := by
  rcases three u.length v.length with h | h | h
  · rw [cmp_eq h, cmp_eq (by simp [h]), cmpL_right y _ _ (by simp [h]), cmpL_left]
  · rw [cmp_lt h, cmp_lt (by simp; omega)]
  · rw [cmp_gt h, cmp_gt (by simp; omega)]

theorem push_le (st : List UInt8) (c : UInt8) : (push st c).length ≤ st.length + 1 := by
  cases st with
  | nil => rw [push_nil]; simp
  | cons x t => rw [push_cons]; split <;> simp only [List.length_cons] <;> omega
theorem run_le : ∀ (w st : List UInt8), (run st w).length ≤ st.length + w.length
  | [], st => by rw [run_nil]; simp
  | c :: w, st => by
    rw [run_cons]
    have h1 := run_le w (push st c)
    have h2 := push_le st c
    rw [List.length_cons]
    omega
theorem push_full {st : List UInt8} {c : UInt8} (h : (push st c).length = st.length + 1) : push st c = c :: st := by
  cases st with
  | nil => rfl
  | cons x t =>
    rw [push_cons] at h ⊢
    split at h
    · simp only [List.length_cons] at h; omega
    · rename_i hx; rw [if_neg hx]
theorem run_full : ∀ (w st : List UInt8), (run st w).length = st.length + w.length → run st w = w.reverse ++ st
  | [], st, _ => rfl
  | c :: w, st, h => by
    rw [run_cons] at h ⊢
    have h1 := run_le w (push st c)
    have h2 := push_le st c
    rw [List.length_cons] at h
    have h3 : (push st c).length = st.length + 1 := by omega
    have e := push_full h3
    rw [run_full w (push st c) (by rw [h3]; omega), e]
    simp
theorem red_full {u : List UInt8} (h : (red u).length = u.length) : red u = u := by
  unfold red at h ⊢
  rw [List.length_reverse] at h
  rw [run_full u [] (by simpa using h)]
  simp
theorem cmp_red (u : List UInt8) : cmp (red u) u ≤ 0 := by
  have h := red_length u
  by_cases e : (red u).length = u.length
  · rw [red_full e, cmp_eq rfl, cmpL_self]; decide
  · rw [cmp_lt (by omega)]; decide

theorem wd_append (a b c : ByteArray) (ha : Sw a) (hb : Sw b) (hc : Sw c) : Wd (a ++ b ++ c) ∧ L (a ++ b ++ c) = L a ++ L b ++ L c := by
  have e : L (a ++ b ++ c) = L a ++ L b ++ L c := by rw [append_L, append_L, L_B, L_B]
  refine ⟨⟨?_, ?_⟩, e⟩
  · have h1 := ha.1; have h2 := hb.1; have h3 := hc.1
    rw [size_L] at h1 h2 h3 ⊢
    rw [e, List.length_append, List.length_append]
    omega
  · rw [e]
    intro x hx
    rcases List.mem_append.1 hx with hx | hx
    · rcases List.mem_append.1 hx with hx | hx
      · exact ha.2 x hx
      · exact hb.2 x hx
    · exact hc.2 x hx

theorem cmp_ev {a b : ByteArray} (ha : Wd a) (hb : Wd b) : Ev (fun k => word_Compare.f k a b) (cmp (L a) (L b)) := by
  have := Compare_ev a b (by have := ha.1; omega) (by have := hb.1; omega)
  rwa [if_pos ⟨ha, hb⟩] at this
theorem red_ev {a : ByteArray} (ha : Wd a) : Ev (fun k => word_Reduce.f k a) (B (red (L a))) := by
  have := Reduce_ev a (by have := ha.1; omega)
  rwa [if_pos ha] at this

theorem inv_ev {a : ByteArray} (ha : Wd a) : Ev (fun k => word_Inverse.f k a) (B (inv (L a))) := by
  have := Inverse_ev a (by have := ha.1; omega)
  rwa [if_pos ha] at this
theorem wd_two (a b : ByteArray) (n m : Nat) (hn : a.size ≤ n) (hm : b.size ≤ m) (h : n + m ≤ 100000) (ha : ∀ c ∈ L a, isL c = true) (hb : ∀ c ∈ L b, isL c = true) :
    Wd (a ++ b) ∧ L (a ++ b) = L a ++ L b ∧ (a ++ b).size ≤ n + m ∧ ∀ c ∈ L (a ++ b), isL c = true := by
  have e : L (a ++ b) = L a ++ L b := by rw [append_L, L_B]
  have s : (a ++ b).size ≤ n + m := by
    rw [size_L] at hn hm ⊢
    rw [e, List.length_append]; omega
  have l : ∀ c ∈ L (a ++ b), isL c = true := by
    rw [e]
    intro c hc
    exact (List.mem_append.1 hc).elim (ha c) (hb c)
  exact ⟨⟨by omega, l⟩, e, s, l⟩
theorem red_isL {l : List UInt8} (h : ∀ c ∈ l, isL c = true) : ∀ c ∈ red l, isL c = true := fun c hc => h c (red_subset _ c hc)
theorem inv_isL {l : List UInt8} (h : ∀ c ∈ l, isL c = true) : ∀ c ∈ inv l, isL c = true := by
  intro c hc
  unfold inv at hc
  rw [List.mem_reverse, List.mem_map] at hc
  obtain ⟨a, ha, rfl⟩ := hc
  rw [isL_oth]; exact h a ha
theorem red_size {a : ByteArray} {n : Nat} (h : a.size ≤ n) : (B (red (L a))).size ≤ n := by
  have := red_length (L a)
  rw [size_B]; rw [size_L] at h; omega
theorem inv_size {a : ByteArray} {n : Nat} (h : a.size ≤ n) : (B (inv (L a))).size ≤ n := by
  rw [size_B, inv_length]; rw [size_L] at h; exact h

end Go.Proofs.YthiehmogphknlaaGreatDoor.Laws
