/- word.Check, by its own text: the length, then the letters one by one (strings.ContainsFunc over a closure that reads the table of letters). -/
import Derived.Test.YthiehmogphknlaaGreatDoorG
import Derived.Deep.QuietTactic
import Derived.BigQuiet
import Derived.Lib.Hide
import Derived.Shelf.GgClosure.StringsRunes
import Derived.Test.YthiehmogphknlaaGreatDoorShelf
namespace Go.Proofs.YthiehmogphknlaaGreatDoor.G
open Go.RowKit Go.Proofs.YthiehmogphknlaaGreatDoorW.PrintWords Go.Lib

/-- What the closure of word.Check says of a code point: it is no letter of k generators. -/
def noLetter (k : Int) (x : Nat) : Bool := decide (127 < x) || decide (idx x < 0) || decide (2 * k ≤ idx x)

theorem idx_le (c : Int) : -1 ≤ idx c ∧ idx c ≤ 15 := by
  unfold idx
  split
  · omega
  · split <;> omega

set_option maxHeartbeats 1000000 in
set_option maxRecDepth 100000 in
theorem check1_any (k : Int) (hk0 : 1 ≤ k) (hk1 : k ≤ 8) (x : Nat) (hx : x ≤ 1114111) (b : Nat) (W : World) (hc : W.cell? ⟨b, 0, none⟩ = some (.int .i64 k)) (hG : GL W) :
    Calls Tryz.prog 44 #[.int .i32 x, .pointer (some ⟨b, 0, none⟩)] W fun e w' => e = .returned (.bool (noLetter k x)) ∧ ∃ q, w' = W.drewN q := by
  by_cases h1 : 127 < x
  · have hp : noLetter k x = true := by simp [noLetter, h1]
    have HP := Aside0.mk hp
    clear hp
    have d1 : decide ((127 : Int) < (x : Int)) = true := decide_eq_true (by omega)
    go_enter Tryz.func44, Tryz.ntmps44
    go_wp2
    go_quiet (fail)
    go_wp2
    go_ret
    exact ⟨by rw [HP.out]; rfl, _, rfl⟩
  · have hxi : 0 ≤ (x : Int) ∧ (x : Int) ≤ 127 := by omega
    have d1 : decide ((127 : Int) < (x : Int)) = false := decide_eq_false (by omega)
    have hw : (x : Int) % 256 = x := by omega
    have hi := idx_le (x : Int)
    obtain ⟨i, hi'⟩ : ∃ i, idx (x : Int) = i := ⟨_, rfl⟩
    rw [hi'] at hi
    have HC : ∀ W' : World, GL W' → Calls Tryz.prog 15 #[.int .u8 (x : Int)] W' fun e w' => e = .returned (.int .i64 i) ∧ w' = W' := fun W' g => by
      have := index_any (x : Int) (by omega) (by omega) W' g
      rw [hi'] at this
      exact this
    have HH := Lib.hid HC
    clear HC
    have HI := Aside0.mk hi'
    clear hi'
    have HW := Aside0.mk hw
    clear hw
    by_cases h2 : i < 0
    · have hp : noLetter k x = true := by simp [noLetter, HI.out, h2]
      have HP := Aside0.mk hp
      clear hp
      have d2 : decide (i < 0) = true := decide_eq_true h2
      go_enter Tryz.func44, Tryz.ntmps44
      go_wp2
      go_quiet ((go_at_call 15; exact Calls.quiet_of_same (HH.out _ (hG.drawn ⟨⟨_, rfl⟩⟩))))
      go_wp2
      go_ret
      exact ⟨by rw [HP.out]; rfl, _, rfl⟩
    · have d2 : decide (i < 0) = false := decide_eq_false h2
      have hp : noLetter k x = decide (2 * k ≤ i) := by simp [noLetter, HI.out, h1, h2]
      have HP := Aside0.mk hp
      clear hp
      go_enter Tryz.func44, Tryz.ntmps44
      go_wp2
      go_quiet ((go_at_call 15; exact Calls.quiet_of_same (HH.out _ (hG.drawn ⟨⟨_, rfl⟩⟩))))
      go_wp2
      go_ret
      exact ⟨by rw [HP.out]; rfl, _, rfl⟩

theorem check_pred (k : Int) (hk0 : 1 ≤ k) (hk1 : k ≤ 8) (w : World) (hG : GL w) :
    PredAtRunes Tryz.prog 44 #[.pointer (some ⟨w.heap.size, 0, none⟩)] (noLetter k) (w.alloc (.cells #[.int .i64 k] 3)) := by
  intro W x hx hb
  have hc : W.cell? ⟨w.heap.size, 0, none⟩ = some (.int .i64 k) := by
    rw [hb.cell (p := ⟨w.heap.size, 0, none⟩) (by simp)]
    simp
  have hg : GL W := (hG.step (below_alloc (Below.refl _ _) _)).step hb
  exact check1_any k hk0 hk1 x hx w.heap.size W hc hg

/-- word.Check. -/
def chk (k : Int) (s : ByteArray) : Int := if k < 1 ∨ 8 < k then 1 else if 100000 < s.size then 2 else if decide (0 ≤ Lib.idxFunc (noLetter k) true s) = true then 4 else 0
def word_Check.f (a0 : Int) (a1 : ByteArray) : Option Int := if a1.size ≤ 9223372036854775807 then some (chk a0 a1) else none

set_option maxHeartbeats 1000000 in
set_option maxRecDepth 100000 in
theorem word_Check.calls (a0 : Int) (a1 : ByteArray) (r : Int) (w : World) (h : word_Check.f a0 a1 = some r) (hG : GL w) :
    Calls Tryz.prog 13 #[.int .i64 a0, .string a1] w fun e w' => e = .returned (.int .i64 r) ∧ Below w.heap.size w w' := by
  unfold word_Check.f at h
  split at h
  case isFalse => cases h
  rename_i hsz
  obtain rfl := Option.some.inj h
  clear h
  by_cases h1 : a0 < 1
  · have hp : chk a0 a1 = 1 := by unfold chk; rw [if_pos (Or.inl h1)]
    have HP := Aside0.mk hp
    clear hp
    go_enter Tryz.func13, Tryz.ntmps13
    go_wp2
    go_ret
    exact ⟨by rw [HP.out]; rfl, below_alloc (Below.refl _ _) _⟩
  · by_cases h2 : 8 < a0
    · have hp : chk a0 a1 = 1 := by unfold chk; rw [if_pos (Or.inr h2)]
      have HP := Aside0.mk hp
      clear hp
      have d1 : decide (a0 < 1) = false := decide_eq_false h1
      go_enter Tryz.func13, Tryz.ntmps13
      go_wp2
      go_ret
      exact ⟨by rw [HP.out]; rfl, below_alloc (Below.refl _ _) _⟩
    · have d1 : decide (a0 < 1) = false := decide_eq_false h1
      have d2 : decide (8 < a0) = false := decide_eq_false h2
      by_cases h3 : 100000 < a1.size
      · have hp : chk a0 a1 = 2 := by unfold chk; rw [if_neg (by omega), if_pos h3]
        have HP := Aside0.mk hp
        clear hp
        go_enter Tryz.func13, Tryz.ntmps13
        go_wp2
        go_ret
        exact ⟨by rw [HP.out]; rfl, below_alloc (Below.refl _ _) _⟩
      · have hp : chk a0 a1 = if decide (0 ≤ Lib.idxFunc (noLetter a0) true a1) = true then 4 else 0 := by unfold chk; rw [if_neg (by omega), if_neg h3]
        have HP := Aside0.mk hp
        clear hp
        have HPR := Lib.hid (fun W => Tryz.strings_ContainsFunc_runes 44 #[.pointer (some ⟨w.heap.size, 0, none⟩)] (enters_of Tryz.func44 (by kernel_rfl) rfl) (noLetter a0) a1 W)
        have HPP := Lib.hid (check_pred a0 (by omega) (by omega) w hG)
        cases hd : decide (0 ≤ Lib.idxFunc (noLetter a0) true a1) with
        | true =>
          simp only [hd] at HPR
          have e : (if decide (0 ≤ Lib.idxFunc (noLetter a0) true a1) = true then (4 : Int) else 0) = 4 := if_pos hd
          have E := Aside0.mk e
          clear e hd
          go_enter Tryz.func13, Tryz.ntmps13
          go_wp2_with (go_at_call 43; refine (HPR.out _ HPP.out).mono ?_; rintro e w1 ⟨rfl, hb⟩)
          go_ret
          exact ⟨by rw [HP.out, E.out]; rfl, below_then (below_alloc (Below.refl _ _) _) (by simp) hb⟩
        | false =>
          simp only [hd] at HPR
          have e : (if decide (0 ≤ Lib.idxFunc (noLetter a0) true a1) = true then (4 : Int) else 0) = 0 := if_neg (by rw [hd]; decide)
          have E := Aside0.mk e
          clear e hd
          go_enter Tryz.func13, Tryz.ntmps13
          go_wp2_with (go_at_call 43; refine (HPR.out _ HPP.out).mono ?_; rintro e w1 ⟨rfl, hb⟩)
          go_ret
          exact ⟨by rw [HP.out, E.out]; rfl, below_then (below_alloc (Below.refl _ _) _) (by simp) hb⟩

end Go.Proofs.YthiehmogphknlaaGreatDoor.G
