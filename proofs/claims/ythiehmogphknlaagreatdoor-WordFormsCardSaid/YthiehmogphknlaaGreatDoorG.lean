/- The package-level tables that the words' functions read, as one fact on a world; and the contracts of word.Index and word.Letter under it. -/
import Derived.Test.YthiehmogphknlaaGreatDoorProg
import Derived.Below
import Derived.WalkKit
import Derived.Laws.Rows
import Derived.Lib.LaidTab
import Derived.Lib.ItoaNum
import Derived.KernelRfl
import Derived.LoopTactic
import Derived.Test.YthiehmogphknlaaGreatDoorWWords
namespace Go.Proofs.YthiehmogphknlaaGreatDoor.G
open Go.RowKit Go.Proofs.YthiehmogphknlaaGreatDoorW.PrintWords
def lets : List Int := [97, 65, 98, 66, 99, 67, 100, 68, 101, 69, 102, 70, 103, 71, 104, 72]
def letArr : Array Value := (lets.map fun z => Value.int .u8 z).toArray
/-- The tables lie as they were laid. -/
structure GL (w : World) : Prop where
  letters : ∃ t fr, w.heap[0]? = some (.cells letArr t fr)
  pow10 : Lib.TabIs Tryz.prog w "internal/strconv.uint64pow10" .u64 Lib.pow10Tab
theorem GL.below {B : Nat} {w W : World} (h : GL w) (hB : w.heap.size ≤ B) (hb : Below B w W) : GL W := by
  obtain ⟨⟨t, fr, ht⟩, hp⟩ := h
  have hlt : ∀ (k : Nat) (o : Obj), w.heap[k]? = some o → W.heap[k]? = some o := fun k o e =>
    (hb.block k (Nat.lt_of_lt_of_le (Array.getElem?_eq_some_iff.1 e).1 hB)).trans e
  refine ⟨⟨t, fr, hlt _ _ ht⟩, ?_⟩
  unfold Lib.TabIs World.var? at hp ⊢
  cases hg : Tryz.prog.globalNamed "internal/strconv.uint64pow10" with
  | none => rw [hg] at hp; simp at hp
  | some g =>
    rw [hg] at hp
    simp only [Option.bind_some] at hp ⊢
    cases hh : w.heap[g]? with
    | none => rw [hh] at hp; simp at hp
    | some o => rw [hh] at hp; rw [hlt _ _ hh]; exact hp
theorem GL.step {w W : World} (h : GL w) (hb : Below w.heap.size w W) : GL W := h.below (Nat.le_refl _) hb
theorem GL.drawn {w W : World} (h : GL w) (hb : Drawn0 w W) : GL W := h.step hb.below
/-- Where a letter stands in the table. -/
def idx (c : Int) : Int := if 97 ≤ c ∧ c < 105 then 2 * (c - 97) else if 65 ≤ c ∧ c < 73 then 2 * (c - 65) + 1 else -1
def let_ (i : Int) : Int := if i < 0 ∨ 16 ≤ i then 0 else if i % 2 = 0 then 97 + i / 2 else 65 + i / 2
theorem run_index_lets (i : Nat) (hi : i < 16) (w : World) : (Instr.index 54 (.agg letArr) (.int .i64 i)).run Tryz.prog w = .ok (.int .u8 (lets.getD i 0)) w := by
  have : i = 0 ∨ i = 1 ∨ i = 2 ∨ i = 3 ∨ i = 4 ∨ i = 5 ∨ i = 6 ∨ i = 7 ∨ i = 8 ∨ i = 9 ∨ i = 10 ∨ i = 11 ∨ i = 12 ∨ i = 13 ∨ i = 14 ∨ i = 15 := by omega
  rcases this with rfl | rfl | rfl | rfl | rfl | rfl | rfl | rfl | rfl | rfl | rfl | rfl | rfl | rfl | rfl | rfl <;> (show _ = _; kernel_rfl)
theorem idx_at (k : Nat) (hk : k < 16) (c : Int) (h : lets.getD k 0 = c) : idx c = k := by
  have : k = 0 ∨ k = 1 ∨ k = 2 ∨ k = 3 ∨ k = 4 ∨ k = 5 ∨ k = 6 ∨ k = 7 ∨ k = 8 ∨ k = 9 ∨ k = 10 ∨ k = 11 ∨ k = 12 ∨ k = 13 ∨ k = 14 ∨ k = 15 := by omega
  subst h
  rcases this with rfl | rfl | rfl | rfl | rfl | rfl | rfl | rfl | rfl | rfl | rfl | rfl | rfl | rfl | rfl | rfl <;> decide
theorem lets_let (k : Nat) (hk : k < 16) : lets.getD k 0 = let_ k := by
  have : k = 0 ∨ k = 1 ∨ k = 2 ∨ k = 3 ∨ k = 4 ∨ k = 5 ∨ k = 6 ∨ k = 7 ∨ k = 8 ∨ k = 9 ∨ k = 10 ∨ k = 11 ∨ k = 12 ∨ k = 13 ∨ k = 14 ∨ k = 15 := by omega
  rcases this with rfl | rfl | rfl | rfl | rfl | rfl | rfl | rfl | rfl | rfl | rfl | rfl | rfl | rfl | rfl | rfl <;> decide
theorem idx_none (c : Int) (h0 : 0 ≤ c) (h1 : c ≤ 255) (h : ∀ j, j < 16 → lets.getD j 0 ≠ c) : idx c = -1 := by
  unfold idx
  split
  · rename_i hc
    exfalso
    refine h (2 * (c - 97)).toNat (by omega) ?_
    rw [lets_let _ (by omega)]
    unfold let_
    rw [if_neg (by omega), if_pos (by omega)]
    omega
  · split
    · rename_i hc
      exfalso
      refine h (2 * (c - 65) + 1).toNat (by omega) ?_
      rw [lets_let _ (by omega)]
      unfold let_
      rw [if_neg (by omega), if_neg (by omega)]
      omega
    · rfl
theorem Tryz.infoLets : (Tryz.prog.info? 54).map (·.size) = some letArr.size := by kernel_rfl
attribute [local irreducible] letArr lets
set_option maxHeartbeats 1000000 in
set_option maxRecDepth 100000 in
theorem index_any (c : Int) (h0 : 0 ≤ c) (h1 : c ≤ 255) (w : World) (hG : GL w) :
    Calls Tryz.prog 15 #[.int .u8 c] w fun e w' => e = .returned (.int .i64 (idx c)) ∧ w' = w := by
  obtain ⟨⟨t, fr, ht⟩, _⟩ := hG
  have hi := Tryz.infoLets
  go_enter Tryz.func15, Tryz.ntmps15
  go_wp2_with (refine wpList_load_row rfl _ _ rfl 0 rfl t letArr fr _ ht Tryz.underlying54 rfl hi ?_)
  clear ht hi
  go_loop [6] (fun i => ∃ k : Nat, k ≤ 16 ∧ i = .int .i64 k ∧ Aside0 (∀ j, j < k → lets.getD j 0 ≠ c)) (fun i => 16 - (intOf i).toNat)
  case atStart => exact ⟨0, by omega, rfl, ⟨fun j hj => by omega⟩⟩
  case round =>
    obtain ⟨k, hk, rfl, HK⟩ := hrel
    by_cases hlt : k < 16
    · obtain ⟨x, hx⟩ : ∃ x, lets.getD k 0 = x := ⟨_, rfl⟩
      have hr := run_index_lets k hlt
      rw [hx] at hr
      have HX := Aside0.mk hx
      clear hx
      by_cases hc : x = c
      · have hb : (x == c) = true := beq_iff_eq.mpr hc
        have HC := Aside0.mk hc
        clear hc
        go_wp2
        go_ret
        exact ⟨by rw [idx_at k hlt c (HX.out.trans HC.out)]; rfl, rfl⟩
      · have hb : (x == c) = false := beq_eq_false_iff_ne.mpr hc
        have HC := Aside0.mk hc
        clear hc
        go_wp2
        go_round
        case rel => exact ⟨k + 1, by omega, by go_num, ⟨fun j hj => by
          by_cases e : j = k
          · subst e; rw [HX.out]; exact HC.out
          · exact HK.out j (by omega)⟩⟩
        case measure => simp [intOf]; omega
    · have e : k = 16 := by omega
      have HE := Aside0.mk e
      clear e
      go_wp2
      go_ret
      exact ⟨by rw [idx_none c h0 h1 (fun j hj => HK.out j (by have := HE.out; omega))]; rfl, rfl⟩
theorem cell_lets {w : World} {t : TypeId} {fr : Nat × Nat} (h : w.heap[0]? = some (.cells letArr t fr)) (k : Nat) (hk : k < 16) : w.cell? ⟨0, k, none⟩ = some (.int .u8 (let_ k)) := by
  rw [cell_of_row w _ k letArr t fr h, ← lets_let k hk]
  have : k = 0 ∨ k = 1 ∨ k = 2 ∨ k = 3 ∨ k = 4 ∨ k = 5 ∨ k = 6 ∨ k = 7 ∨ k = 8 ∨ k = 9 ∨ k = 10 ∨ k = 11 ∨ k = 12 ∨ k = 13 ∨ k = 14 ∨ k = 15 := by omega
  rcases this with rfl | rfl | rfl | rfl | rfl | rfl | rfl | rfl | rfl | rfl | rfl | rfl | rfl | rfl | rfl | rfl <;> (show _ = _; with_unfolding_all rfl)
set_option maxHeartbeats 1000000 in
set_option maxRecDepth 100000 in
theorem letter_any (n : Int) (h0 : -9223372036854775808 ≤ n) (h1 : n ≤ 9223372036854775807) (w : World) (hG : GL w) :
    Calls Tryz.prog 17 #[.int .i64 n] w fun e w' => e = .returned (.int .u8 (let_ n)) ∧ w' = w := by
  obtain ⟨⟨t, fr, ht⟩, _⟩ := hG
  by_cases hn : n < 0
  · have e : let_ n = 0 := by unfold let_; rw [if_pos (Or.inl hn)]
    have E := Aside0.mk e
    clear e
    go_enter Tryz.func17, Tryz.ntmps17
    go_wp2
    go_ret
    exact ⟨by rw [E.out]; rfl, rfl⟩
  · by_cases hm : 16 ≤ n
    · have e : let_ n = 0 := by unfold let_; rw [if_pos (Or.inr hm)]
      have E := Aside0.mk e
      clear e
      go_enter Tryz.func17, Tryz.ntmps17
      go_wp2
      go_ret
      exact ⟨by rw [E.out]; rfl, rfl⟩
    · obtain ⟨k, rfl⟩ := Int.eq_ofNat_of_zero_le (a := n) (by omega)
      have hk : k < 16 := by omega
      have hc := cell_lets ht k hk
      clear ht
      go_enter Tryz.func17, Tryz.ntmps17
      go_wp2
      go_outline
      go_ret
      exact ⟨rfl, rfl⟩
def word_Index.f (a0 : Int) : Option Int := if 0 ≤ a0 ∧ a0 ≤ 255 then some (idx a0) else none
theorem word_Index.calls (a0 : Int) (r : Int) (w : World) (h : word_Index.f a0 = some r) (hG : GL w) :
    Calls Tryz.prog 15 #[.int .u8 a0] w fun e w' => e = .returned (.int .i64 r) ∧ Drawn0 w w' := by
  unfold word_Index.f at h
  split at h
  case isFalse => cases h
  rename_i hb
  obtain rfl := Option.some.inj h
  exact (index_any a0 hb.1 hb.2 w hG).mono fun e w' ⟨he, hw⟩ => ⟨he, hw ▸ Drawn0.refl _⟩
def word_Letter.f (a0 : Int) : Option Int := if -9223372036854775808 ≤ a0 ∧ a0 ≤ 9223372036854775807 then some (let_ a0) else none
theorem word_Letter.calls (a0 : Int) (r : Int) (w : World) (h : word_Letter.f a0 = some r) (hG : GL w) :
    Calls Tryz.prog 17 #[.int .i64 a0] w fun e w' => e = .returned (.int .u8 r) ∧ Drawn0 w w' := by
  unfold word_Letter.f at h
  split at h
  case isFalse => cases h
  rename_i hb
  obtain rfl := Option.some.inj h
  exact (letter_any a0 hb.1 hb.2 w hG).mono fun e w' ⟨he, hw⟩ => ⟨he, hw ▸ Drawn0.refl _⟩
end Go.Proofs.YthiehmogphknlaaGreatDoor.G
