/- The reference's letters. -/
import Derived.Test.YthiehmogphknlaaGreatDoorLawKit
namespace Go.Proofs.YthiehmogphknlaaGreatDoor.Laws
open Go.RowKit Go.Proofs.YthiehmogphknlaaGreatDoor.G Go.Proofs.YthiehmogphknlaaGreatDoor.PA Go.Proofs.YthiehmogphknlaaGreatDoorW.PrintWords Go.Proofs.YthiehmogphknlaaGreatDoor.Free Go.Proofs.YthiehmogphknlaaGreatDoor.Pure1

theorem rLetter (k : Nat) (n : Int) : cayleyref01_Letter.f (k + 1) n = some (let_ n) := by
  unfold cayleyref01_Letter.f let_
  simp only [cayleyref01_Letter.j0]
  by_cases a : n < 0
  · simp [a]
  · rw [if_neg a]
    by_cases b : 16 ≤ n
    · simp [a, b]
    · have h0 : 0 ≤ n := by omega
      have e1 : Int.tmod n 2 = n % 2 := by rw [Int.tmod_eq_emod_of_nonneg h0]
      have e2 : Int.tdiv n 2 = n / 2 := by rw [Int.tdiv_eq_ediv_of_nonneg h0]
      have e3 : wrap64 (n / 2) = n / 2 := by unfold wrap64; omega
      rw [if_neg (by simp; omega), e1, e2, e3, if_neg (show ¬ (n < 0 ∨ 16 ≤ n) by omega)]
      by_cases c : n % 2 = 0
      · rw [if_pos c, if_pos c]; congr 1; omega
      · rw [if_neg c, if_neg c]; congr 1; omega

set_option maxRecDepth 100000 in
theorem let_oth_all : ∀ n : Fin 256, isL (UInt8.ofNat n) = true → let_ (Go.bits .xor .i64 (idx ((UInt8.ofNat n).toNat : Int)) 1) = ((oth (UInt8.ofNat n)).toNat : Int) := by decide +kernel
theorem let_oth (c : UInt8) (h : isL c = true) : let_ (Go.bits .xor .i64 (idx (c.toNat : Int)) 1) = ((oth c).toNat : Int) := by
  have e : UInt8.ofNat (⟨c.toNat, c.toNat_lt⟩ : Fin 256) = c := by simp
  have := let_oth_all ⟨c.toNat, c.toNat_lt⟩
  rw [e] at this
  exact this h
theorem rOther (k : Nat) (c : UInt8) (h : isL c = true) : cayleyref01_Other.f (k + 1) (c.toNat : Int) = some ((oth c).toNat : Int) := by
  unfold cayleyref01_Other.f
  have h0 := c.toNat_lt
  rw [rIndex k _ (by omega) (by omega)]
  simp only [Option.bind_some]
  rw [rLetter]
  simp only [Option.bind_some]
  rw [let_oth c h]

theorem let_all : ∀ i : Fin 16, (Utf8.encode (let_ i) = B [UInt8.ofNat (let_ i).toNat] ∧ Utf8.encode (let_ (Go.bits .xor .i64 i 1)) = B [oth (UInt8.ofNat (let_ i).toNat)]) ∧ isL (UInt8.ofNat (let_ i).toNat) = true := by
  intro i
  obtain ⟨i, hi⟩ := i
  have : i = 0 ∨ i = 1 ∨ i = 2 ∨ i = 3 ∨ i = 4 ∨ i = 5 ∨ i = 6 ∨ i = 7 ∨ i = 8 ∨ i = 9 ∨ i = 10 ∨ i = 11 ∨ i = 12 ∨ i = 13 ∨ i = 14 ∨ i = 15 := by omega
  rcases this with rfl | rfl | rfl | rfl | rfl | rfl | rfl | rfl | rfl | rfl | rfl | rfl | rfl | rfl | rfl | rfl <;> exact ⟨⟨by kernel_rfl, by kernel_rfl⟩, by kernel_rfl⟩
theorem let_enc (n : Int) (h : let_ n ≠ 0) : ∃ c : UInt8, isL c = true ∧ Utf8.encode (let_ n) = B [c] ∧ Utf8.encode (let_ (Go.bits .xor .i64 n 1)) = B [oth c] := by
  have h2 : 0 ≤ n ∧ n < 16 := by
    unfold let_ at h
    split at h
    · exact absurd rfl h
    · omega
  have := let_all ⟨n.toNat, by omega⟩
  have e : (((⟨n.toNat, by omega⟩ : Fin 16) : Nat) : Int) = n := by simp; omega
  rw [e] at this
  exact ⟨_, this.2, this.1.1, this.1.2⟩


end Go.Proofs.YthiehmogphknlaaGreatDoor.Laws
