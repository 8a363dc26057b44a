/- Shortlex is a total order; what the laws' plain proofs share. -/
import Derived.Test.YthiehmogphknlaaGreatDoorPure
import Derived.Test.YthiehmogphknlaaGreatDoorSane
namespace Go.Proofs.YthiehmogphknlaaGreatDoor.Laws
open Go.RowKit Go.Proofs.YthiehmogphknlaaGreatDoor.G Go.Proofs.YthiehmogphknlaaGreatDoor.PA Go.Proofs.YthiehmogphknlaaGreatDoorW.PrintWords Go.Proofs.YthiehmogphknlaaGreatDoor.Free Go.Proofs.YthiehmogphknlaaGreatDoor.Pure1
theorem idx_inj {a b : UInt8} (ha : isL a = true) (hb : isL b = true) (h : idx (a.toNat : Int) = idx (b.toNat : Int)) : a = b := by
  have h1 := letter_range a ha
  have h2 := letter_range b hb
  unfold idx at h
  apply UInt8.toNat_inj.1
  split at h <;> split at h <;> (try split at h) <;> (try split at h) <;> omega
theorem cmpL_nil (u : List UInt8) : cmpL u [] = 0 := by cases u <;> rfl
theorem cmpL_cons (a b : UInt8) (u v : List UInt8) : cmpL (a :: u) (b :: v) = if idx (a.toNat : Int) < idx (b.toNat : Int) then -1 else if idx (b.toNat : Int) < idx (a.toNat : Int) then 1 else cmpL u v := rfl
theorem cmpL_neg : ∀ u v : List UInt8, cmpL v u = -cmpL u v
  | [], [] => rfl
  | [], _ :: _ => rfl
  | _ :: _, [] => rfl
  | a :: u, b :: v => by
    have ih := cmpL_neg u v
    rw [cmpL_cons, cmpL_cons, ih]
    split
    · rw [if_neg (by omega)]
    · split <;> rfl
theorem cmpL_range : ∀ u v : List UInt8, -1 ≤ cmpL u v ∧ cmpL u v ≤ 1
  | [], v => by rw [show cmpL [] v = 0 from rfl]; exact ⟨by decide, by decide⟩
  | a :: u, [] => by rw [cmpL_nil]; exact ⟨by decide, by decide⟩
  | a :: u, b :: v => by
    have ih := cmpL_range u v
    rw [cmpL_cons]
    split
    · exact ⟨by decide, by decide⟩
    · split
      · exact ⟨by decide, by decide⟩
      · exact ih
theorem cmpL_self : ∀ u : List UInt8, cmpL u u = 0
  | [] => rfl
  | a :: u => by rw [cmpL_cons, if_neg (by omega), if_neg (by omega)]; exact cmpL_self u
theorem cmpL_zero : ∀ u v : List UInt8, u.length = v.length → (∀ c ∈ u, isL c = true) → (∀ c ∈ v, isL c = true) → cmpL u v = 0 → u = v
  | [], [], _, _, _, _ => rfl
  | [], _ :: _, h, _, _, _ => by simp at h
  | _ :: _, [], h, _, _, _ => by simp at h
  | a :: u, b :: v, h, hu, hv, hz => by
    rw [cmpL_cons] at hz
    split at hz
    · exact absurd hz (by decide)
    · split at hz
      · exact absurd hz (by decide)
      · have e : a = b := idx_inj (hu a List.mem_cons_self) (hv b List.mem_cons_self) (by omega)
        rw [e, cmpL_zero u v (by simpa using h) (fun c hc => hu c (List.mem_cons_of_mem _ hc)) (fun c hc => hv c (List.mem_cons_of_mem _ hc)) hz]
theorem cmpL_trans : ∀ u v w : List UInt8, u.length = v.length → v.length = w.length → cmpL u v ≤ 0 → cmpL v w ≤ 0 → cmpL u w ≤ 0
  | [], _, _, _, _, _, _ => by exact (by decide : (0 : Int) ≤ 0)
  | _ :: _, [], _, h, _, _, _ => by simp at h
  | _ :: _, _ :: _, [], _, h, _, _ => by simp at h
  | a :: u, b :: v, c :: w, h1, h2, h3, h4 => by
    have ih := cmpL_trans u v w (by simpa using h1) (by simpa using h2)
    rw [cmpL_cons] at h3 h4 ⊢
    split
    · decide
    · split
      · split at h3
        · split at h4
          · omega
          · split at h4
            · exact absurd h4 (by decide)
            · omega
        · split at h3
          · exact absurd h3 (by decide)
          · split at h4
            · omega
            · split at h4
              · exact absurd h4 (by decide)
              · omega
      · split at h3
        · split at h4
          · omega
          · split at h4
            · exact absurd h4 (by decide)
            · omega
        · split at h3
          · exact absurd h3 (by decide)
          · split at h4
            · omega
            · split at h4
              · exact absurd h4 (by decide)
              · exact ih h3 h4
theorem cmp_eq {u v : List UInt8} (h : u.length = v.length) : cmp u v = cmpL u v := if_pos h
theorem cmp_lt {u v : List UInt8} (h : u.length < v.length) : cmp u v = -1 := (if_neg (by omega)).trans (if_pos h)
theorem cmp_gt {u v : List UInt8} (h : v.length < u.length) : cmp u v = 1 := (if_neg (by omega)).trans (if_neg (by omega))
theorem three (m n : Nat) : m = n ∨ m < n ∨ n < m := by omega
theorem cmp_neg (u v : List UInt8) : cmp v u = -cmp u v := by
  rcases three u.length v.length with h | h | h
  · rw [cmp_eq h, cmp_eq h.symm]; exact cmpL_neg u v
  · rw [cmp_lt h, cmp_gt h]; rfl
  · rw [cmp_gt h, cmp_lt h]
theorem cmp_zero (u v : List UInt8) (hu : ∀ c ∈ u, isL c = true) (hv : ∀ c ∈ v, isL c = true) : cmp u v = 0 ↔ u = v := by
  constructor
  · intro hz
    rcases three u.length v.length with h | h | h
    · rw [cmp_eq h] at hz; exact cmpL_zero u v h hu hv hz
    · rw [cmp_lt h] at hz; exact absurd hz (by decide)
    · rw [cmp_gt h] at hz; exact absurd hz (by decide)
  · rintro rfl
    rw [cmp_eq rfl]; exact cmpL_self u
theorem cmp_trans (u v w : List UInt8) (h1 : cmp u v ≤ 0) (h2 : cmp v w ≤ 0) : cmp u w ≤ 0 := by
  rcases three u.length w.length with h | h | h
  · rcases three u.length v.length with k | k | k
    · rw [cmp_eq k] at h1; rw [cmp_eq (k.symm.trans h)] at h2; rw [cmp_eq h]
      exact cmpL_trans u v w k (k.symm.trans h) h1 h2
    · rw [cmp_gt (u := v) (v := w) (by omega)] at h2; exact absurd h2 (by decide)
    · rw [cmp_gt k] at h1; exact absurd h1 (by decide)
  · rw [cmp_lt h]; decide
  · rcases three u.length v.length with k | k | k
    · rw [cmp_gt (u := v) (v := w) (by omega)] at h2; exact absurd h2 (by decide)
    · rw [cmp_gt (u := v) (v := w) (by omega)] at h2; exact absurd h2 (by decide)
    · rw [cmp_gt k] at h1; exact absurd h1 (by decide)
theorem red_isL {l : List UInt8} (h : ∀ c ∈ l, isL c = true) : ∀ c ∈ red l, isL c = true := fun c hc => h c (red_subset _ c hc)
theorem inv_isL {l : List UInt8} (h : ∀ c ∈ l, isL c = true) : ∀ c ∈ inv l, isL c = true := by
  intro c hc
  unfold inv at hc
  rw [List.mem_reverse, List.mem_map] at hc
  obtain ⟨a, ha, rfl⟩ := hc
  rw [isL_oth]; exact h a ha
end Go.Proofs.YthiehmogphknlaaGreatDoor.Laws
