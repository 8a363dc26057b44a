/- What is a word: the printed tests, as plain tests on lists. -/
import Derived.Test.YthiehmogphknlaaGreatDoorPure1
namespace Go.Proofs.YthiehmogphknlaaGreatDoor.Pure1
open Go.RowKit Go.Proofs.YthiehmogphknlaaGreatDoor.G Go.Proofs.YthiehmogphknlaaGreatDoor.PA Go.Proofs.YthiehmogphknlaaGreatDoorW.PrintWords Go.Proofs.YthiehmogphknlaaGreatDoor.Free

/-- No letter of k generators. -/
def noL (k : Int) (c : UInt8) : Bool := decide (idx (c.toNat : Int) < 0) || decide (2 * k ≤ idx (c.toNat : Int))
theorem idx_high (x : Int) (h : 128 ≤ x) : idx x = -1 := by
  unfold idx
  rw [if_neg (by omega), if_neg (by omega)]
theorem noL_byte (k : Int) (c : UInt8) (h : c.toNat < 128) : noLetter k c.toNat = noL k c := by
  unfold noLetter noL
  have : decide (127 < c.toNat) = false := decide_eq_false (by omega)
  rw [this, Bool.false_or]
theorem noL_high (k : Int) (c : UInt8) (h : 128 ≤ c.toNat) : noL k c = true := by
  unfold noL
  rw [idx_high _ (by omega)]
  rfl
theorem noLetter_high (k : Int) (x : Nat) (h : 128 ≤ x) : noLetter k x = true := by
  unfold noLetter
  have : decide (127 < x) = true := decide_eq_true (by omega)
  rw [this]; rfl
theorem get_L (s : ByteArray) (i : Nat) (h : i < s.size) : s[i]'h = (L s)[i]'(by rw [← size_L]; exact h) := rfl
theorem find_from (k : Int) (s : ByteArray) : ∀ (f pos : Nat), s.size ≤ pos + f →
    (0 ≤ Lib.idxFuncFrom (noLetter k) true s f pos ↔ ∃ c ∈ (L s).drop pos, noL k c = true) := by
  intro f
  induction f with
  | zero =>
    intro pos h
    rw [List.drop_of_length_le (by rw [← size_L]; omega)]
    simp [Lib.idxFuncFrom]
  | succ f ih =>
    intro pos h
    by_cases hp : pos < s.size
    · have hlt : pos < (L s).length := by rw [← size_L]; exact hp
      rw [List.drop_eq_getElem_cons hlt]
      simp only [Lib.idxFuncFrom, if_pos hp]
      by_cases ha : (s[pos]'hp).toNat < 128
      · rw [decode_ascii s pos hp ha]
        dsimp only
        rw [noL_byte k _ ha, get_L s pos hp]
        by_cases hb : noL k ((L s)[pos]) = true
        · rw [if_pos hb]
          constructor
          · intro _; exact ⟨_, List.mem_cons_self, hb⟩
          · intro _; omega
        · rw [if_neg hb, ih (pos + 1) (by omega)]
          constructor
          · rintro ⟨c, hc, hq⟩; exact ⟨c, List.mem_cons_of_mem _ hc, hq⟩
          · rintro ⟨c, hc, hq⟩
            rcases List.mem_cons.mp hc with rfl | hc
            · exact absurd hq hb
            · exact ⟨c, hc, hq⟩
      · have hd := decode_high s pos hp (by omega)
        rw [noLetter_high k _ hd.1, if_pos rfl]
        constructor
        · intro _
          exact ⟨_, List.mem_cons_self, by rw [← get_L s pos hp]; exact noL_high k _ (by omega)⟩
        · intro _; omega
    · rw [Lib.idxFuncFrom_end _ _ _ _ _ hp, List.drop_of_length_le (by rw [← size_L]; omega)]
      simp
theorem find_iff (k : Int) (s : ByteArray) : 0 ≤ Lib.idxFunc (noLetter k) true s ↔ ∃ c ∈ L s, noL k c = true := by
  have := find_from k s s.size 0 (by omega)
  rw [List.drop_zero] at this
  exact this

/-- The check, plainly. -/
def chkL (k : Int) (s : ByteArray) : Int := if k < 1 ∨ 8 < k then 1 else if 100000 < s.size then 2 else if (L s).any (noL k) = true then 4 else 0
theorem chk_eq (k : Int) (s : ByteArray) : chk k s = chkL k s := by
  unfold chk chkL
  have e : (decide (0 ≤ Lib.idxFunc (noLetter k) true s) = true) ↔ ((L s).any (noL k) = true) := by
    rw [decide_eq_true_iff, find_iff, List.any_eq_true]
  by_cases h1 : k < 1 ∨ 8 < k
  · rw [if_pos h1, if_pos h1]
  · rw [if_neg h1, if_neg h1]
    by_cases h2 : 100000 < s.size
    · rw [if_pos h2, if_pos h2]
    · rw [if_neg h2, if_neg h2]
      by_cases h3 : (L s).any (noL k) = true
      · rw [if_pos h3, if_pos (e.mpr h3)]
      · rw [if_neg h3, if_neg (fun h => h3 (e.mp h))]
theorem noL_isL (c : UInt8) : noL 8 c = !isL c := by
  unfold noL isL
  have := idx_le (c.toNat : Int)
  by_cases h : 0 ≤ idx (c.toNat : Int)
  · rw [decide_eq_true h, decide_eq_false (by omega), decide_eq_false (by omega)]; rfl
  · rw [decide_eq_false h, decide_eq_true (by omega)]; rfl
theorem chkL_8 (s : ByteArray) : chkL 8 s = 0 ↔ Wd s := by
  unfold chkL Wd
  rw [if_neg (by omega)]
  by_cases h2 : 100000 < s.size
  · rw [if_pos h2]; constructor
    · intro h; cases h
    · intro h; omega
  · rw [if_neg h2]
    by_cases h3 : (L s).any (noL 8) = true
    · rw [if_pos h3]
      constructor
      · intro h; cases h
      · intro h
        rw [List.any_eq_true] at h3
        obtain ⟨c, hc, hq⟩ := h3
        rw [noL_isL, h.2 c hc] at hq
        cases hq
    · rw [if_neg h3]
      refine ⟨fun _ => ⟨by omega, fun c hc => ?_⟩, fun _ => rfl⟩
      cases hq : isL c with
      | true => rfl
      | false =>
        exfalso
        exact h3 (List.any_eq_true.mpr ⟨c, hc, by rw [noL_isL, hq]; rfl⟩)
theorem check_f (k : Int) (s : ByteArray) (h : s.size ≤ 9223372036854775807) : word_Check.f k s = some (chkL k s) := by
  unfold word_Check.f
  rw [if_pos h, chk_eq]
theorem is_f (s : ByteArray) (h : s.size ≤ 9223372036854775807) : word_is.f s = some (decide (Wd s)) := by
  unfold word_is.f
  rw [check_f 8 s h]
  simp only [Option.bind_some]
  congr 1
  by_cases hw : Wd s
  · rw [decide_eq_true hw, (chkL_8 s).mpr hw]; rfl
  · rw [decide_eq_false hw, beq_eq_false_iff_ne]
    exact fun h => hw ((chkL_8 s).mp h)

theorem letter_range (c : UInt8) (h : isL c = true) : (97 ≤ c.toNat ∧ c.toNat < 105) ∨ (65 ≤ c.toNat ∧ c.toNat < 73) := by
  unfold isL at h
  have h := of_decide_eq_true h
  unfold idx at h
  split at h
  · left; omega
  · split at h
    · right; omega
    · omega
theorem isL_range (c : UInt8) (h : (97 ≤ c.toNat ∧ c.toNat < 105) ∨ (65 ≤ c.toNat ∧ c.toNat < 73)) : isL c = true := by
  unfold isL
  rw [decide_eq_true_iff]
  unfold idx
  rcases h with h | h
  · rw [if_pos (by omega)]; omega
  · rw [if_neg (by omega), if_pos (by omega)]; omega
theorem isL_oth (c : UInt8) : isL (oth c) = isL c := by
  have key : ∀ n : Fin 256, isL (oth (UInt8.ofFin n)) = isL (UInt8.ofFin n) := by decide +kernel
  have := key c.toFin
  simpa using this
theorem isL_ascii (c : UInt8) (h : isL c = true) : c.toNat < 128 := by
  have := letter_range c h
  omega

theorem wd_nil : Wd (B []) := ⟨by rw [size_B]; simp, fun c hc => by rw [L_B] at hc; cases hc⟩
theorem wd_red {s : ByteArray} (h : Wd s) : Wd (B (red (L s))) := by
  refine ⟨?_, fun c hc => h.2 c (red_subset _ c ?_)⟩
  · have := red_length (L s)
    rw [← size_L] at this
    rw [size_B]
    have := h.1
    omega
  · rw [L_B] at hc; exact hc
theorem wd_inv {s : ByteArray} (h : Wd s) : Wd (B (inv (L s))) := by
  refine ⟨?_, fun c hc => ?_⟩
  · rw [size_B, inv_length, ← size_L]; exact h.1
  · rw [L_B] at hc
    unfold inv at hc
    rw [List.mem_reverse, List.mem_map] at hc
    obtain ⟨a, ha, rfl⟩ := hc
    rw [isL_oth]; exact h.2 a ha

theorem cat_one (s : ByteArray) : cat [s] = L s := by unfold cat; simp
theorem Inverse_ev (s : ByteArray) (hs : s.size ≤ 140737488355328) : Ev (fun k => word_Inverse.f k s) (if Wd s then B (inv (L s)) else B []) := by
  unfold word_Inverse.f
  rw [is_f s (by omega)]
  by_cases h : Wd s
  · rw [if_pos h]
    refine Ev.congr (f := fun k => (word_inverse.f k s).bind fun t => some t) (fun k => ?_) (Ev.bind (inverse_ev s hs) (Ev.now _))
    simp [h]
  · rw [if_neg h]
    refine Ev.congr (f := fun _ => some (B [])) (fun k => ?_) (Ev.now _)
    simp [h, B]
theorem Reduce_ev (s : ByteArray) (hs : s.size ≤ 140737488355328) : Ev (fun k => word_Reduce.f k s) (if Wd s then B (red (L s)) else B []) := by
  unfold word_Reduce.f
  rw [is_f s (by omega)]
  by_cases h : Wd s
  · rw [if_pos h]
    have h1 := reduce_ev [s] (by rw [cat_one, ← size_L]; have := h.1; omega) (by simp)
    rw [cat_one] at h1
    refine Ev.congr (f := fun k => (word_reduce.f k [s]).bind fun t => some t) (fun k => ?_) (Ev.bind h1 (Ev.now _))
    simp [h]
  · rw [if_neg h]
    refine Ev.congr (f := fun _ => some (B [])) (fun k => ?_) (Ev.now _)
    simp [h, B]

end Go.Proofs.YthiehmogphknlaaGreatDoor.Pure1
