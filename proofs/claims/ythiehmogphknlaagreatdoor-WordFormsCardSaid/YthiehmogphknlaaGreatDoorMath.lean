/- word.least finds the least rotation; the least rotation is the same for all rotations of a word. The least rotation of a word is that of its rotations. Conjugator and core of a word; the core of a conjugate is a rotation of the core. Powers: the word equation; the period; what commutes with a cyclically reduced word. What commutes with a cyclically reduced word is a power of its root. The root of a word; two words commute just if their roots are the same or inverse. -/
import Derived.Test.YthiehmogphknlaaGreatDoorConjA
import Derived.Lib.Repeat
namespace Go.Proofs.YthiehmogphknlaaGreatDoor.Min
open Go.RowKit Go.Proofs.YthiehmogphknlaaGreatDoor.G Go.Proofs.YthiehmogphknlaaGreatDoorW.PrintWords Go.Proofs.YthiehmogphknlaaGreatDoor.Free Go.Proofs.YthiehmogphknlaaGreatDoor.Pure1 Go.Proofs.YthiehmogphknlaaGreatDoor.Rot
section
variable (f : Nat → Int)
def Same (p q : Nat) : Prop := ∀ l, f (p + l) = f (q + l)
def Lt (p q : Nat) : Prop := ∃ k, (∀ l, l < k → f (p + l) = f (q + l)) ∧ f (p + k) < f (q + k)
def IsMin (m : Nat) : Prop := ∀ p, ¬ Lt f p m
variable {f}
theorem lt_irrefl (p : Nat) : ¬ Lt f p p := fun ⟨_, _, h⟩ => by omega
theorem lt_trans {p q r : Nat} (h1 : Lt f p q) (h2 : Lt f q r) : Lt f p r := by
  obtain ⟨k, a, b⟩ := h1
  obtain ⟨k', a', b'⟩ := h2
  by_cases h : k < k'
  · exact ⟨k, fun l hl => (a l hl).trans (a' l (by omega)), by rw [← a' k h]; exact b⟩
  · by_cases h' : k = k'
    · subst h'
      exact ⟨k, fun l hl => (a l hl).trans (a' l hl), by omega⟩
    · exact ⟨k', fun l hl => (a l (by omega)).trans (a' l hl), by rw [a k' (by omega)]; exact b'⟩
theorem Same.symm {p q : Nat} (h : Same f p q) : Same f q p := fun l => (h l).symm
theorem Same.lt {p q r : Nat} (h : Same f q r) (k : Lt f p q) : Lt f p r := by
  obtain ⟨k, a, b⟩ := k
  exact ⟨k, fun l hl => (a l hl).trans (h l), by rw [← h k]; exact b⟩
theorem Same.min {p q : Nat} (h : Same f p q) (k : IsMin f p) : IsMin f q := fun r hr => k r (h.symm.lt hr)
theorem exists_min_below : ∀ n, 0 < n → ∃ m, m < n ∧ ∀ p, p < n → ¬ Lt f p m
  | 0, h => absurd h (by omega)
  | 1, _ => ⟨0, by omega, fun p hp => by have : p = 0 := by omega
                                         subst this; exact lt_irrefl 0⟩
  | n + 2, _ => by
    obtain ⟨m, hm, h⟩ := exists_min_below (n + 1) (by omega)
    by_cases hl : Lt f (n + 1) m
    · refine ⟨n + 1, by omega, fun p hp hlt => ?_⟩
      by_cases e : p = n + 1
      · subst e; exact lt_irrefl _ hlt
      · exact h p (by omega) (lt_trans hlt hl)
    · refine ⟨m, by omega, fun p hp => ?_⟩
      by_cases e : p = n + 1
      · subst e; exact hl
      · exact h p (by omega)
variable {n : Nat}
theorem same_mod (hper : ∀ p, f (p + n) = f p) (p : Nat) : Same f (p % n) p := by
  have key : ∀ t q, f (q + n * t) = f q := by
    intro t
    induction t with
    | zero => intro q; simp
    | succ t ih => intro q; rw [show q + n * (t + 1) = (q + n * t) + n by rw [Nat.mul_add]; omega, hper, ih]
  intro l
  have := key (p / n) (p % n + l)
  rw [← this]
  congr 1
  have := Nat.mod_add_div p n
  omega
theorem exists_min (hn : 0 < n) (hper : ∀ p, f (p + n) = f p) : ∃ m, m < n ∧ IsMin f m := by
  obtain ⟨m, hm, h⟩ := exists_min_below (f := f) n hn
  refine ⟨m, hm, fun p hlt => ?_⟩
  refine h (p % n) (Nat.mod_lt _ hn) ?_
  obtain ⟨k, a, b⟩ := hlt
  have s := same_mod hper p
  exact ⟨k, fun l hl => (s l).trans (a l hl), by rw [s k]; exact b⟩
theorem least_min (hn : 0 < n) (hper : ∀ p, f (p + n) = f p) : ∃ m, m < n ∧ IsMin f m ∧ ∀ m', m' < m → ¬ IsMin f m' := by
  obtain ⟨m, hm, h⟩ := exists_min hn hper
  induction m using Nat.strongRecOn with
  | _ m ih =>
    by_cases hx : ∃ m', m' < m ∧ IsMin f m'
    · obtain ⟨m', h1, h2⟩ := hx
      exact ih m' h1 (by omega) h2
    · exact ⟨m, hm, h, fun m' h1 h2 => hx ⟨m', h1, h2⟩⟩
end
/-- The letter's rank at a place, round and round. -/
def rk (s : ByteArray) (p : Nat) : Int := ltr s (p % s.size)
theorem rk_per (s : ByteArray) (p : Nat) : rk s (p + s.size) = rk s p := by unfold rk; rw [Nat.add_mod_right]
theorem leastL_rk (g : Nat) (s : ByteArray) (i j k : Nat) : leastL (g + 1) s i j k =
    (if i < s.size ∧ j < s.size ∧ k < s.size then
      if rk s (i + k) = rk s (j + k) then leastL g s i j (k + 1)
      else if rk s (j + k) < rk s (i + k) then (if i + k + 1 = j then leastL g s (i + k + 1) (j + 1) 0 else leastL g s (i + k + 1) j 0)
      else (if i = j + k + 1 then leastL g s i (j + k + 1 + 1) 0 else leastL g s i (j + k + 1) 0)
    else some (if i < j then i else j)) := rfl
theorem nonmin {s : ByteArray} {i j k : Nat} (hk : ∀ l, l < k → rk s (i + l) = rk s (j + l)) (hlt : rk s (j + k) < rk s (i + k)) : ∀ p, i ≤ p → p ≤ i + k → ¬ IsMin (rk s) p := by
  intro p h1 h2 hm
  obtain ⟨d, rfl⟩ : ∃ d, p = i + d := ⟨p - i, by omega⟩
  refine hm (j + d) ⟨k - d, fun l hl => ?_, ?_⟩
  · have := hk (d + l) (by omega)
    rw [Nat.add_assoc, Nat.add_assoc]; exact this.symm
  · rw [Nat.add_assoc, Nat.add_assoc, show d + (k - d) = k by omega]; exact hlt
theorem leastL_min (s : ByteArray) (hn : 0 < s.size) : ∀ (g i j k : Nat) (r : Int), leastL g s i j k = some r → i ≠ j → (i < s.size ∨ j < s.size) → (∀ l, l < k → rk s (i + l) = rk s (j + l)) →
    (∀ p, p < max i j → p ≠ i → p ≠ j → ¬ IsMin (rk s) p) → IsMin (rk s) r.toNat := by
  intro g
  induction g with
  | zero => intro i j k r h; cases h
  | succ g ih =>
    intro i j k r h hne hlt hk hp
    rw [leastL_rk] at h
    by_cases hl : i < s.size ∧ j < s.size ∧ k < s.size
    · rw [if_pos hl] at h
      by_cases e : rk s (i + k) = rk s (j + k)
      · rw [if_pos e] at h
        refine ih i j (k + 1) r h hne hlt (fun l hl' => ?_) hp
        by_cases x : l = k
        · subst x; exact e
        · exact hk l (by omega)
      · rw [if_neg e] at h
        by_cases e2 : rk s (j + k) < rk s (i + k)
        · rw [if_pos e2] at h
          have hz := nonmin hk e2
          by_cases e3 : i + k + 1 = j
          · rw [if_pos e3] at h
            refine ih (i + k + 1) (j + 1) 0 r h (by omega) (by omega) (fun l hl' => absurd hl' (by omega)) (fun p h1 h2 h3 => ?_)
            by_cases x : i ≤ p ∧ p ≤ i + k
            · exact hz p x.1 x.2
            · exact hp p (by omega) (by omega) (by omega)
          · rw [if_neg e3] at h
            refine ih (i + k + 1) j 0 r h (by omega) (by omega) (fun l hl' => absurd hl' (by omega)) (fun p h1 h2 h3 => ?_)
            by_cases x : i ≤ p ∧ p ≤ i + k
            · exact hz p x.1 x.2
            · exact hp p (by omega) (by omega) (by omega)
        · rw [if_neg e2] at h
          have hz := nonmin (i := j) (j := i) (fun l hl' => (hk l hl').symm) (show rk s (i + k) < rk s (j + k) by omega)
          by_cases e3 : i = j + k + 1
          · rw [if_pos e3] at h
            refine ih i (j + k + 1 + 1) 0 r h (by omega) (by omega) (fun l hl' => absurd hl' (by omega)) (fun p h1 h2 h3 => ?_)
            by_cases x : j ≤ p ∧ p ≤ j + k
            · exact hz p x.1 x.2
            · exact hp p (by omega) (by omega) (by omega)
          · rw [if_neg e3] at h
            refine ih i (j + k + 1) 0 r h (by omega) (by omega) (fun l hl' => absurd hl' (by omega)) (fun p h1 h2 h3 => ?_)
            by_cases x : j ≤ p ∧ p ≤ j + k
            · exact hz p x.1 x.2
            · exact hp p (by omega) (by omega) (by omega)
    · rw [if_neg hl] at h
      have hr : r.toNat = min i j := by
        have := Option.some.inj h
        split at this <;> omega
      rw [hr]
      obtain ⟨m, hm1, hm2, hm3⟩ := least_min hn (rk_per s)
      by_cases hi : i < s.size
      · by_cases hj : j < s.size
        · have hsame : Same (rk s) i j := by
            intro l
            have h1 := same_mod (rk_per s) l
            have a1 : rk s (i + l) = rk s (i + l % s.size) := by
              have := h1 i
              rw [Nat.add_comm l i, Nat.add_comm (l % s.size) i] at this
              exact this.symm
            have a2 : rk s (j + l) = rk s (j + l % s.size) := by
              have := h1 j
              rw [Nat.add_comm l j, Nat.add_comm (l % s.size) j] at this
              exact this.symm
            rw [a1, a2]
            exact hk _ (by have := Nat.mod_lt l hn; omega)
          have both : IsMin (rk s) i → IsMin (rk s) (min i j) := fun h => by
            by_cases x : i ≤ j
            · rw [Nat.min_eq_left x]; exact h
            · rw [Nat.min_eq_right (by omega)]; exact hsame.min h
          by_cases x1 : m = i
          · exact both (x1 ▸ hm2)
          · by_cases x2 : m = j
            · exact both (hsame.symm.min (x2 ▸ hm2))
            · by_cases x3 : m < max i j
              · exact absurd hm2 (hp m x3 x1 x2)
              · exfalso
                by_cases x4 : i < j
                · refine hm3 (m - (j - i)) (by omega) (Same.min (p := m) (fun l => ?_) hm2)
                  have := hsame (m - j + l)
                  rw [show i + (m - j + l) = m - (j - i) + l by omega, show j + (m - j + l) = m + l by omega] at this
                  exact this.symm
                · refine hm3 (m - (i - j)) (by omega) (Same.min (p := m) (fun l => ?_) hm2)
                  have := hsame (m - i + l)
                  rw [show i + (m - i + l) = m + l by omega, show j + (m - i + l) = m - (i - j) + l by omega] at this
                  exact this
        · have : m = i := by
            by_cases x : m = i
            · exact x
            · exact absurd hm2 (hp m (by omega) x (by omega))
          rw [Nat.min_eq_left (by omega), ← this]; exact hm2
      · have : m = j := by
          by_cases x : m = j
          · exact x
          · exact absurd hm2 (hp m (by omega) (by omega) x)
        rw [Nat.min_eq_right (by omega), ← this]; exact hm2
theorem least_isMin (l : List UInt8) (h : l ≠ []) : IsMin (rk (B l)) (least l) := by
  have hl : 0 < l.length := List.length_pos_iff.2 h
  have ⟨h1, h2⟩ := least_lt l h
  have := leastL_min (B l) (by rw [size_B]; exact hl) _ 0 1 0 _ h1 (by omega) (Or.inl (by rw [size_B]; exact hl)) (fun l hl => absurd hl (by omega)) (fun p h1 h2 h3 => by omega)
  simpa using this
end Go.Proofs.YthiehmogphknlaaGreatDoor.Min
namespace Go.Proofs.YthiehmogphknlaaGreatDoor.Min
open Go.RowKit Go.Proofs.YthiehmogphknlaaGreatDoor.G Go.Proofs.YthiehmogphknlaaGreatDoorW.PrintWords Go.Proofs.YthiehmogphknlaaGreatDoor.Free Go.Proofs.YthiehmogphknlaaGreatDoor.Pure1 Go.Proofs.YthiehmogphknlaaGreatDoor.Rot
theorem getD_lt (l : List UInt8) (i : Nat) (h : i < l.length) : l.getD i 0 = l[i] := by simp [List.getD, h]
/-- A word read round and round. -/
def cy (l : List UInt8) (p : Nat) : UInt8 := l.getD (p % l.length) 0
theorem cy_lt (l : List UInt8) (p : Nat) (h : p < l.length) : cy l p = l[p] := by
  unfold cy
  rw [Nat.mod_eq_of_lt h]
  simp [h]
theorem cy_add (l : List UInt8) (p t : Nat) : cy l (p + l.length * t) = cy l p := by
  unfold cy
  rw [Nat.add_mul_mod_self_left]
theorem cy_mod (l : List UInt8) (p q : Nat) : cy l (p % l.length + q) = cy l (p + q) := by
  unfold cy
  rw [Nat.mod_add_mod]
theorem rk_cy (l : List UInt8) (h : l ≠ []) (p : Nat) : rk (B l) p = idx ((cy l p).toNat : Int) := by
  have hl : 0 < l.length := List.length_pos_iff.2 h
  have hp := Nat.mod_lt p hl
  unfold rk ltr cy
  rw [size_B, getD_lt l _ hp]
  rw [show bt (B l) ((p % l.length : Nat) : Int) = ((l[p % l.length]).toNat : Int) from bt_nat (B l) (p % l.length) hp]
/-- The rotation that begins at q. -/
def rot (l : List UInt8) (q : Nat) : List UInt8 := l.drop q ++ l.take q
theorem rot_length (l : List UInt8) (q : Nat) : (rot l q).length = l.length := by
  unfold rot; rw [List.length_append, List.length_drop, List.length_take]; omega
theorem rot_get (l : List UInt8) (q p : Nat) (hq : q ≤ l.length) (hp : p < (rot l q).length) : (rot l q)[p] = cy l (q + p) := by
  have hp' : p < l.length := by rwa [rot_length] at hp
  have key := List.getElem_append (show p < (l.drop q ++ l.take q).length from hp)
  refine key.trans ?_
  by_cases h : p < l.length - q
  · rw [dif_pos (by rw [List.length_drop]; exact h), List.getElem_drop, cy_lt l (q + p) (by omega)]
  · rw [dif_neg (by rw [List.length_drop]; exact h), List.getElem_take]
    have e : cy l (q + p) = cy l (q + p - l.length) := by
      have := cy_add l (q + p - l.length) 1
      rw [← this]
      congr 1
      omega
    rw [e, cy_lt l (q + p - l.length) (by omega)]
    congr 1
    rw [List.length_drop]; omega
theorem cy_rot (l : List UInt8) (q p : Nat) (hq : q ≤ l.length) (h : l ≠ []) : cy (rot l q) p = cy l (q + p) := by
  have hl : 0 < l.length := List.length_pos_iff.2 h
  have hp : p % l.length < (rot l q).length := by rw [rot_length]; exact Nat.mod_lt _ hl
  have e1 : cy (rot l q) p = (rot l q)[p % l.length] := by
    unfold cy
    rw [rot_length, getD_lt _ _ hp]
  rw [e1, rot_get l q _ hq hp, Nat.add_comm q (p % l.length), cy_mod, Nat.add_comm]
theorem ext_cy {l m : List UInt8} (h : l.length = m.length) (hc : ∀ p, cy l p = cy m p) : l = m := by
  apply List.ext_getElem h
  intro i h1 h2
  have := hc i
  rwa [cy_lt l i h1, cy_lt m i h2] at this
theorem formL_rot_eq (l : List UInt8) : formL l = rot l (least l) := rfl
theorem rot_rot (l : List UInt8) (a b : Nat) (ha : a ≤ l.length) (hb : b ≤ l.length) : ∃ c, c ≤ l.length ∧ rot (rot l a) b = rot l c := by
  by_cases h : l = []
  · subst h; exact ⟨0, by simp, by simp [rot]⟩
  have hn : 0 < l.length := List.length_pos_iff.2 h
  have h' : rot l a ≠ [] := by
    intro e
    have := rot_length l a
    rw [e] at this
    simp at this; omega
  refine ⟨(a + b) % l.length, Nat.le_of_lt (Nat.mod_lt _ hn), ext_cy (by rw [rot_length, rot_length, rot_length]) (fun p => ?_)⟩
  rw [cy_rot _ _ _ (by rw [rot_length]; exact hb) h', cy_rot _ _ _ ha h, cy_rot _ _ _ (Nat.le_of_lt (Nat.mod_lt _ hn)) h, cy_mod, Nat.add_assoc]
/-- Rotations of one another. -/
theorem rot_back (l : List UInt8) (a : Nat) (ha : a ≤ l.length) : ∃ c, c ≤ l.length ∧ rot (rot l a) c = l := by
  refine ⟨l.length - a, by omega, ?_⟩
  unfold rot
  rw [List.drop_left' (by rw [List.length_drop]), List.take_left' (by rw [List.length_drop]), List.take_append_drop]
end Go.Proofs.YthiehmogphknlaaGreatDoor.Min
namespace Go.Proofs.YthiehmogphknlaaGreatDoor.Cyc
open Go.Proofs.YthiehmogphknlaaGreatDoor.Free Go.Proofs.YthiehmogphknlaaGreatDoor.Pure1 Go.Proofs.YthiehmogphknlaaGreatDoor.Min
/-- The ends do not cancel. -/
def NC (m : List UInt8) : Prop := m.length < 2 ∨ m.head? ≠ (m.getLast?).map oth
theorem two_ends (l : List UInt8) (h : 2 ≤ l.length) : ∃ a m b, l = a :: (m ++ [b]) := by
  cases l with
  | nil => simp at h
  | cons a t =>
    have ht : t ≠ [] := by intro e; subst e; simp at h
    exact ⟨a, t.dropLast, t.getLast ht, by rw [List.dropLast_concat_getLast]⟩
theorem ends_head (a b : UInt8) (m : List UInt8) : (a :: (m ++ [b])).head? = some a := rfl
theorem ends_last (a b : UInt8) (m : List UInt8) : (a :: (m ++ [b])).getLast? = some b := by
  rw [← List.cons_append, List.getLast?_append]; rfl
theorem ends_mid (a b : UInt8) (m : List UInt8) : (a :: (m ++ [b])).tail.dropLast = m := by simp
theorem ends_len (a b : UInt8) (m : List UInt8) : 2 ≤ (a :: (m ++ [b])).length := by simp
theorem peel_ends (f : Nat) (a : UInt8) (m : List UInt8) : peel (f + 1) (a :: (m ++ [oth a])) = (a :: (peel f m).1, (peel f m).2) := by
  rw [peel, if_pos ⟨ends_len _ _ _, by rw [ends_head, ends_last, Option.map_some, oth_oth]⟩, ends_mid]
  rfl
theorem peel_split : ∀ (f : Nat) (l : List UInt8), l = (peel f l).1 ++ ((peel f l).2 ++ inv (peel f l).1)
  | 0, l => by simp [peel, inv]
  | f + 1, l => by
    by_cases h : 2 ≤ l.length ∧ l.head? = (l.getLast?).map oth
    · obtain ⟨a, m, b, rfl⟩ := two_ends l h.1
      have hb : a = oth b := by
        have := h.2
        rw [ends_head, ends_last] at this
        exact Option.some.inj this
      have hb' : b = oth a := by rw [hb, oth_oth]
      subst hb'
      rw [peel_ends]
      have ih := peel_split f m
      dsimp only
      rw [inv_cons]
      conv => lhs; rw [ih]
      simp [List.append_assoc]
    · have : peel (f + 1) l = ([], l) := by rw [peel, if_neg h]
      rw [this]; simp [inv]
theorem peel_core : ∀ (f : Nat) (l : List UInt8), l.length ≤ f → NC (peel f l).2
  | 0, l, h => Or.inl (by have : l = [] := List.length_eq_zero_iff.1 (by omega)
                          subst this; simp [peel])
  | f + 1, l, h => by
    by_cases hc : 2 ≤ l.length ∧ l.head? = (l.getLast?).map oth
    · obtain ⟨a, m, b, rfl⟩ := two_ends l hc.1
      have hb : a = oth b := by
        have := hc.2
        rw [ends_head, ends_last] at this
        exact Option.some.inj this
      have hb' : b = oth a := by rw [hb, oth_oth]
      subst hb'
      rw [peel_ends]
      exact peel_core f m (by simp at h; omega)
    · have : peel (f + 1) l = ([], l) := by rw [peel, if_neg hc]
      rw [this]
      by_cases h1 : l.length < 2
      · exact Or.inl h1
      · exact Or.inr (fun e => hc ⟨by omega, e⟩)
theorem cyc_split (l : List UInt8) : l = (cyc l).1 ++ ((cyc l).2 ++ inv (cyc l).1) := peel_split _ l
theorem cyc_nc (l : List UInt8) : NC (cyc l).2 := peel_core _ l (Nat.le_refl _)
/-- The core of a word. -/
def core (l : List UInt8) : List UInt8 := (cyc (red l)).2
theorem rot_zero (l : List UInt8) : rot l 0 = l := by simp [rot]
end Go.Proofs.YthiehmogphknlaaGreatDoor.Cyc
namespace Go.Proofs.YthiehmogphknlaaGreatDoor.Pow
open Go.Proofs.YthiehmogphknlaaGreatDoor.Free Go.Proofs.YthiehmogphknlaaGreatDoor.Pure1 Go.Proofs.YthiehmogphknlaaGreatDoor.Min Go.Proofs.YthiehmogphknlaaGreatDoor.Cyc Go.Lib
theorem rep_add (l : List UInt8) (a b : Nat) : repeatL l (a + b) = repeatL l a ++ repeatL l b := repeatL_add l a b
theorem rep_succ (l : List UInt8) (a : Nat) : repeatL l (a + 1) = l ++ repeatL l a := rfl
theorem rep_snoc (l : List UInt8) (a : Nat) : repeatL l (a + 1) = repeatL l a ++ l := by rw [rep_add, repeatL_one]
theorem rep_mul (l : List UInt8) (a : Nat) : ∀ b, repeatL (repeatL l a) b = repeatL l (a * b)
  | 0 => rfl
  | b + 1 => by rw [rep_succ, rep_mul l a b, Nat.mul_succ, Nat.add_comm, rep_add]
theorem rep_len (l : List UInt8) (a : Nat) : (repeatL l a).length = a * l.length := repeatL_length l a
/-- The length of the shortest word of which a word is a power. -/
def perF (l : List UInt8) : Nat → Nat → Nat
  | 0, _ => l.length
  | f + 1, p => if p ≤ l.length / 2 then (if l.length % p = 0 ∧ l.drop p = l.take (l.length - p) then p else perF l f (p + 1)) else l.length
def per (l : List UInt8) : Nat := perF l l.length 1
theorem pow_of_shift : ∀ (n : Nat) (l : List UInt8) (p : Nat), l.length ≤ n → 1 ≤ p → l.length % p = 0 → l.drop p = l.take (l.length - p) → l = repeatL (l.take p) (l.length / p) := by
  intro n
  induction n with
  | zero =>
    intro l p hn _ _ _
    have hl : l = [] := List.length_eq_zero_iff.1 (by omega)
    subst hl; simp [repeatL]
  | succ n ih =>
    intro l p hn hp hm hs
    by_cases hl : l = []
    · subst hl; simp [repeatL]
    have hl0 : 0 < l.length := List.length_pos_iff.2 hl
    have hle : p ≤ l.length := Nat.le_of_dvd hl0 (Nat.dvd_of_mod_eq_zero hm)
    have hd : l.length / p = (l.length - p) / p + 1 := by
      rw [Nat.div_eq_sub_div (by omega) hle]
    have hlen : (l.drop p).length = l.length - p := List.length_drop
    have hm' : (l.drop p).length % p = 0 := by rw [hlen, ← Nat.mod_eq_sub_mod hle]; exact hm
    have hs' : (l.drop p).drop p = (l.drop p).take ((l.drop p).length - p) := by
      rw [hlen]
      conv => lhs; rw [hs]
      rw [List.drop_take]
    have key := ih (l.drop p) p (by rw [hlen]; omega) hp hm' hs'
    rw [hd, rep_succ]
    have ht : (l.drop p).length ≠ 0 → (l.drop p).take p = l.take p := by
      intro h0
      have h1 : p ≤ l.length - p := by rw [← hlen]; exact Nat.le_of_dvd (by omega) (Nat.dvd_of_mod_eq_zero hm')
      rw [hs, List.take_take, Nat.min_eq_left h1]
    by_cases h0 : (l.drop p).length = 0
    · have e : l.drop p = [] := List.length_eq_zero_iff.1 h0
      have : l.length - p = 0 := by rw [← hlen]; exact h0
      rw [this, Nat.zero_div]
      have := List.take_append_drop p l
      rw [e] at this
      exact this.symm
    · rw [hlen, ht h0] at key
      rw [← key]
      exact (List.take_append_drop p l).symm
theorem shift_of_pow (z : List UInt8) (i : Nat) (hi : 1 ≤ i) : (repeatL z i).length % z.length = 0 ∧ (repeatL z i).drop z.length = (repeatL z i).take ((repeatL z i).length - z.length) := by
  obtain ⟨j, rfl⟩ : ∃ j, i = j + 1 := ⟨i - 1, by omega⟩
  refine ⟨by rw [rep_len]; exact Nat.mul_mod_left _ _, ?_⟩
  have h1 : (repeatL z (j + 1)).drop z.length = repeatL z j := by rw [rep_succ, List.drop_left' rfl]
  have h2 : (repeatL z (j + 1)).take ((repeatL z (j + 1)).length - z.length) = repeatL z j := by
    have : (repeatL z (j + 1)).length - z.length = (repeatL z j).length := by rw [rep_len, rep_len, Nat.succ_mul]; omega
    rw [this, rep_snoc, List.take_left' rfl]
  rw [h1, h2]
theorem perF_spec (l : List UInt8) (hl : l ≠ []) : ∀ (f p : Nat), 1 ≤ p → l.length ≤ p + f →
    (1 ≤ perF l f p ∧ l.length % perF l f p = 0 ∧ l.drop (perF l f p) = l.take (l.length - perF l f p)) ∧
    ∀ q, p ≤ q → l.length % q = 0 → l.drop q = l.take (l.length - q) → 1 ≤ q → perF l f p ≤ q := by
  have hl0 : 0 < l.length := List.length_pos_iff.2 hl
  have whole : 1 ≤ l.length ∧ l.length % l.length = 0 ∧ l.drop l.length = l.take (l.length - l.length) := ⟨hl0, Nat.mod_self _, by simp⟩
  have most : ∀ q, l.length / 2 < q → l.length % q = 0 → l.length ≤ q := by
    intro q h1 h2
    obtain ⟨c, hc⟩ := Nat.dvd_of_mod_eq_zero h2
    rcases c with _ | _ | c
    · rw [Nat.mul_zero] at hc; omega
    · omega
    · exfalso
      have : q * 2 ≤ q * (c + 1 + 1) := Nat.mul_le_mul_left _ (by omega)
      omega
  intro f
  induction f with
  | zero =>
    intro p hp hf
    refine ⟨whole, fun q h1 h2 _ _ => ?_⟩
    exact most q (by omega) h2
  | succ f ih =>
    intro p hp hf
    rw [perF]
    by_cases h1 : p ≤ l.length / 2
    · rw [if_pos h1]
      by_cases h2 : l.length % p = 0 ∧ l.drop p = l.take (l.length - p)
      · rw [if_pos h2]
        exact ⟨⟨hp, h2⟩, fun q hq _ _ _ => hq⟩
      · rw [if_neg h2]
        obtain ⟨a, b⟩ := ih (p + 1) (by omega) (by omega)
        refine ⟨a, fun q hq h3 h4 h5 => ?_⟩
        by_cases e : q = p
        · subst e; exact absurd ⟨h3, h4⟩ h2
        · exact b q (by omega) h3 h4 h5
    · rw [if_neg h1]
      exact ⟨whole, fun q hq h3 _ _ => most q (by omega) h3⟩
/-- The root of a word as a list. -/
def rootL (l : List UInt8) : List UInt8 := l.take (per l)
theorem per_pos (l : List UInt8) (hl : l ≠ []) : 1 ≤ per l := (perF_spec l hl _ 1 (by omega) (by omega)).1.1
theorem per_mod (l : List UInt8) (hl : l ≠ []) : l.length % per l = 0 := (perF_spec l hl _ 1 (by omega) (by omega)).1.2.1
theorem per_le (l : List UInt8) (hl : l ≠ []) : per l ≤ l.length := Nat.le_of_dvd (List.length_pos_iff.2 hl) (Nat.dvd_of_mod_eq_zero (per_mod l hl))
theorem per_pow (l : List UInt8) (hl : l ≠ []) : l = repeatL (rootL l) (l.length / per l) :=
  pow_of_shift _ l (per l) (Nat.le_refl _) (per_pos l hl) (per_mod l hl) (perF_spec l hl _ 1 (by omega) (by omega)).1.2.2
theorem root_len (l : List UInt8) (hl : l ≠ []) : (rootL l).length = per l := by
  unfold rootL; rw [List.length_take]; have := per_le l hl; omega
theorem root_ne (l : List UInt8) (hl : l ≠ []) : rootL l ≠ [] := by
  intro e
  have := root_len l hl
  rw [e] at this
  have := per_pos l hl
  simp at *; omega
theorem per_min (l z : List UInt8) (hl : l ≠ []) (i : Nat) (hz : l = repeatL z i) : per l ≤ z.length := by
  have hi : 1 ≤ i := by
    rcases i with _ | i
    · exact absurd hz hl
    · omega
  have hz0 : z ≠ [] := by rintro rfl; rw [repeatL_nil] at hz; exact hl hz
  have h := shift_of_pow z i hi
  rw [← hz] at h
  exact (perF_spec l hl _ 1 (by omega) (by omega)).2 z.length (List.length_pos_iff.2 hz0) h.1 h.2 (List.length_pos_iff.2 hz0)
theorem times_pos (l : List UInt8) (hl : l ≠ []) : 1 ≤ l.length / per l := Nat.div_pos (per_le l hl) (per_pos l hl)
end Go.Proofs.YthiehmogphknlaaGreatDoor.Pow
namespace Go.Proofs.YthiehmogphknlaaGreatDoor.Pow
open Go.Proofs.YthiehmogphknlaaGreatDoor.Free Go.Proofs.YthiehmogphknlaaGreatDoor.Pure1 Go.Proofs.YthiehmogphknlaaGreatDoor.Min Go.Proofs.YthiehmogphknlaaGreatDoor.Cyc Go.Lib
/-- The ends of a cyclically reduced word do not cancel. -/
theorem nc_ends {x : List UInt8} (h : NC x) {a b : UInt8} (ha : x.head? = some a) (hb : x.getLast? = some b) : a ≠ oth b := by
  rcases h with h | h
  · intro e
    cases x with
    | nil => cases ha
    | cons c t =>
      have ht : t = [] := List.length_eq_zero_iff.1 (by simp only [List.length_cons] at h; omega)
      subst ht
      obtain rfl := Option.some.inj ha
      obtain rfl := Option.some.inj hb
      exact oth_ne _ e.symm
  · intro e
    apply h
    rw [ha, hb, e]; rfl
theorem nc_of_ends {x : List UInt8} (h : ∀ a b, x.head? = some a → x.getLast? = some b → a ≠ oth b) : NC x := by
  cases x with
  | nil => exact Or.inl (by simp)
  | cons c t =>
    right
    intro e
    obtain ⟨b, hb⟩ : ∃ b, (c :: t).getLast? = some b := ⟨_, List.getLast?_eq_some_getLast (by simp)⟩
    rw [hb] at e
    exact h c b rfl hb (Option.some.inj e)
theorem last_split {x : List UInt8} {a : UInt8} (h : x.getLast? = some a) : ∃ x', x = x' ++ [a] := by
  have hx : x ≠ [] := by rintro rfl; cases h
  refine ⟨x.dropLast, ?_⟩
  have e := List.getLast?_eq_some_getLast hx
  rw [h] at e
  rw [Option.some.inj e]
  exact (List.dropLast_concat_getLast hx).symm
theorem head_split {x : List UInt8} {a : UInt8} (h : x.head? = some a) : ∃ x', x = a :: x' := by
  cases x with
  | nil => cases h
  | cons c t => obtain rfl := Option.some.inj h; exact ⟨t, rfl⟩
theorem has_head {x : List UInt8} (h : x ≠ []) : ∃ a, x.head? = some a := by
  cases x with
  | nil => exact absurd rfl h
  | cons c t => exact ⟨c, rfl⟩
theorem has_last {x : List UInt8} (h : x ≠ []) : ∃ a, x.getLast? = some a := ⟨_, List.getLast?_eq_some_getLast h⟩
theorem joined {x y : List UInt8} {a b : UInt8} (rx : Red x) (ry : Red y) (hx : x.getLast? = some a) (hy : y.head? = some b) (h : a ≠ oth b) : Red (x ++ y) :=
  rx.append ry (fun c d hc hd => by
    rw [hx] at hc; rw [hy] at hd
    obtain rfl := Option.some.inj hc
    obtain rfl := Option.some.inj hd
    exact h)
theorem rep_head {t : List UInt8} {a : UInt8} (h : t.head? = some a) (k : Nat) (hk : 1 ≤ k) : (repeatL t k).head? = some a := by
  obtain ⟨j, rfl⟩ : ∃ j, k = j + 1 := ⟨k - 1, by omega⟩
  rw [rep_succ]
  obtain ⟨t', rfl⟩ := head_split h
  rfl
theorem rep_last {t : List UInt8} {a : UInt8} (h : t.getLast? = some a) (k : Nat) (hk : 1 ≤ k) : (repeatL t k).getLast? = some a := by
  obtain ⟨j, rfl⟩ : ∃ j, k = j + 1 := ⟨k - 1, by omega⟩
  rw [rep_snoc, List.getLast?_append, h]; rfl
/-- Powers of the root of a cyclically reduced word are cyclically reduced. -/
theorem root_ends (x : List UInt8) (hx : x ≠ []) {a b : UInt8} (ha : x.head? = some a) (hb : x.getLast? = some b) : (rootL x).head? = some a ∧ (rootL x).getLast? = some b := by
  obtain ⟨c, hc⟩ := has_head (root_ne x hx)
  obtain ⟨d, hd⟩ := has_last (root_ne x hx)
  have h1 := rep_head hc _ (times_pos x hx)
  have h2 := rep_last hd _ (times_pos x hx)
  rw [← per_pow x hx] at h1 h2
  rw [ha] at h1
  rw [hb] at h2
  exact ⟨by rw [hc, ← h1], by rw [hd, ← h2]⟩
theorem root_red (x : List UInt8) (rx : Red x) : Red (rootL x) := by
  unfold rootL
  have := List.take_append_drop (per x) x
  rw [← this] at rx
  exact rx.left
theorem rep_red {t : List UInt8} (rt : Red t) (nt : NC t) (k : Nat) : Red (repeatL t k) := by
  by_cases ht : t = []
  · subst ht; rw [repeatL_nil]; trivial
  induction k with
  | zero => trivial
  | succ k ih =>
    rw [rep_succ]
    by_cases hk : k = 0
    · subst hk; rw [show t ++ repeatL t 0 = t from List.append_nil t]; exact rt
    · obtain ⟨a, ha⟩ := has_head ht
      obtain ⟨b, hb⟩ := has_last ht
      exact joined rt ih hb (rep_head ha k (by omega)) (ne_oth_comm (nc_ends nt ha hb))
theorem root_nc (x : List UInt8) (hx : x ≠ []) (nx : NC x) : NC (rootL x) := by
  obtain ⟨a, ha⟩ := has_head hx
  obtain ⟨b, hb⟩ := has_last hx
  obtain ⟨h1, h2⟩ := root_ends x hx ha hb
  refine nc_of_ends (fun c d hc hd => ?_)
  rw [h1] at hc; rw [h2] at hd
  obtain rfl := Option.some.inj hc
  obtain rfl := Option.some.inj hd
  exact nc_ends nx ha hb
end Go.Proofs.YthiehmogphknlaaGreatDoor.Pow
namespace Go.Proofs.YthiehmogphknlaaGreatDoor.Pow
open Go.Proofs.YthiehmogphknlaaGreatDoor.Free Go.Proofs.YthiehmogphknlaaGreatDoor.Pure1 Go.Proofs.YthiehmogphknlaaGreatDoor.Min Go.Proofs.YthiehmogphknlaaGreatDoor.Cyc Go.Lib
theorem not_cancel {x d : List UInt8} (h : Red (x ++ d)) {b e : UInt8} (hb : x.getLast? = some b) (he : d.head? = some e) : b ≠ oth e := by
  obtain ⟨x', rfl⟩ := last_split hb
  obtain ⟨d', rfl⟩ := head_split he
  rw [List.append_assoc] at h
  exact h.mid (l := x') (m := d')
theorem head_app {x d : List UInt8} {a : UInt8} (h : x.head? = some a) : (x ++ d).head? = some a := by
  obtain ⟨x', rfl⟩ := head_split h
  rfl
theorem swap_red {c x d y : List UInt8} {a b : UInt8} (h : Red (c ++ (x ++ d))) (ry : Red y) (xa : x.head? = some a) (xb : x.getLast? = some b) (ya : y.head? = some a) (yb : y.getLast? = some b) : Red (c ++ (y ++ d)) := by
  have h1 : Red (y ++ d) := ry.append h.right.right (fun p q hp hq => by
    rw [yb] at hp
    obtain rfl := Option.some.inj hp
    exact not_cancel h.right xb hq)
  refine h.left.append h1 (fun p q hp hq => ?_)
  rw [head_app ya] at hq
  obtain rfl := Option.some.inj hq
  exact not_cancel h hp (head_app xa)
theorem inv_rep (t : List UInt8) : ∀ k, inv (repeatL t k) = repeatL (inv t) k
  | 0 => rfl
  | k + 1 => by rw [rep_succ, inv_append, inv_rep t k, ← rep_snoc]
theorem inv_nil_iff (x : List UInt8) : inv x = [] ↔ x = [] := by
  constructor
  · intro e
    have := inv_length x
    rw [e] at this
    exact List.length_eq_zero_iff.1 this.symm
  · rintro rfl; rfl
/-- The conjugator. -/
def cj (l : List UInt8) : List UInt8 := (cyc (red l)).1
theorem red_parts (l : List UInt8) : red l = cj l ++ (core l ++ inv (cj l)) := cyc_split (red l)
theorem core_nc (l : List UInt8) : NC (core l) := cyc_nc (red l)
theorem core_red (l : List UInt8) : Red (core l) := by
  have := red_red l
  rw [red_parts] at this
  exact this.right.left
/-- The root of a word. -/
def rtL (l : List UInt8) : List UInt8 := if core l = [] then [] else red (cj l ++ (rootL (core l) ++ inv (cj l)))
/-- Its number. -/
def rtN (l : List UInt8) : Nat := if core l = [] then 0 else (core l).length / per (core l)
theorem core_nil (l : List UInt8) : core l = [] ↔ red l = [] := by
  constructor
  · intro e
    have h := red_parts l
    rw [e, List.nil_append] at h
    have h2 := red_red l
    rw [h] at h2
    have e2 := eqv_inv_right (cj l)
    have e3 : red (cj l ++ inv (cj l)) = [] := e2
    rw [red_of_red h2] at e3
    rw [h, e3]
  · intro e
    unfold core
    rw [e]; rfl
/-- Powers of the root, conjugated back, are reduced. -/
theorem rep_parts (l : List UInt8) (h : core l ≠ []) (k : Nat) (hk : 1 ≤ k) : Red (cj l ++ (repeatL (rootL (core l)) k ++ inv (cj l))) := by
  obtain ⟨a, ha⟩ := has_head h
  obtain ⟨b, hb⟩ := has_last h
  obtain ⟨h1, h2⟩ := root_ends (core l) h ha hb
  have hr := red_red l
  rw [red_parts] at hr
  exact swap_red hr (rep_red (root_red _ (core_red l)) (root_nc _ h (core_nc l)) k) ha hb (rep_head h1 k hk) (rep_last h2 k hk)
theorem conj_rep (c t : List UInt8) : ∀ n, Eqv (c ++ (repeatL t n ++ inv c)) (repeatL (c ++ (t ++ inv c)) n)
  | 0 => eqv_inv_right c
  | n + 1 => by
    have ih := conj_rep c t n
    rw [rep_succ, rep_succ]
    have h1 := (ih.appendLeft (c ++ (t ++ inv c))).symm
    refine Eqv.trans ?_ h1.symm
    have e1 : (c ++ (t ++ inv c)) ++ (c ++ (repeatL t n ++ inv c)) = (c ++ t) ++ ((inv c ++ c) ++ (repeatL t n ++ inv c)) := by simp [List.append_assoc]
    rw [e1]
    have h2 := ((eqv_inv_left c).appendRight (repeatL t n ++ inv c)).appendLeft (c ++ t)
    rw [List.nil_append] at h2
    refine Eqv.trans ?_ h2.symm
    have e2 : c ++ ((t ++ repeatL t n) ++ inv c) = (c ++ t) ++ (repeatL t n ++ inv c) := by simp [List.append_assoc]
    rw [e2]
    exact Eqv.refl _
end Go.Proofs.YthiehmogphknlaaGreatDoor.Pow
