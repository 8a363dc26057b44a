/- word.rotations: the iterator's contract. -/
import Derived.Test.YthiehmogphknlaaGreatDoorParse8
import Derived.RangeFuncBox
import Derived.RangeFuncLeaves
import Derived.Shelf.Abstract
import Derived.WalkKit
import Derived.OwnWalkIn
import Derived.TacticsInMore
import Derived.LoopNIn
import Derived.LoopIn
import Derived.Shelf.RegionOpen
namespace Go.Proofs.YthiehmogphknlaaGreatDoor.Rot
open Go.RowKit Go.Shelf Go.Proofs.YthiehmogphknlaaGreatDoor.G Go.Proofs.YthiehmogphknlaaGreatDoor.PA Go.Proofs.YthiehmogphknlaaGreatDoorW.PrintWords Go.Proofs.YthiehmogphknlaaGreatDoor.Free Go.Proofs.YthiehmogphknlaaGreatDoor.Pure1

attribute [local go_sem] Oper.semAt_some

def rotB (b : ByteArray) (i : Nat) : ByteArray := b.extract i b.size ++ b.extract 0 i
abbrev Ix (n : Nat) := { i : Nat // i < n }
abbrev encs (b : ByteArray) (x : Ix b.size) : Array Value := #[.int .i64 (x.1 : Int), .string (b.extract x.1 b.size ++ b.extract 0 x.1)]
/-- What has come when j rounds are over. -/
def upto (n j : Nat) : List (Ix n) := (List.range j).filterMap fun i => if h : i < n then some ⟨i, h⟩ else none
theorem upto_zero (n : Nat) : upto n 0 = [] := rfl
theorem upto_succ (n j : Nat) (h : j < n) : upto n (j + 1) = upto n j ++ [⟨j, h⟩] := by
  simp [upto, List.range_succ, h]
theorem upto_length (n j : Nat) (h : j ≤ n) : (upto n j).length = j := by
  induction j with
  | zero => rfl
  | succ j ih => rw [upto_succ n j (by omega), List.length_append, ih (by omega)]; rfl

theorem two_ways {e : Ending} {A B : Prop} (h : (e = .returned (.bool true) ∧ A) ∨ (e = .returned (.bool false) ∧ B)) : ∃ t : Bool, e = .returned (.bool t) ∧ ((t = true ∧ A) ∨ (t = false ∧ B)) := by
  rcases h with ⟨rfl, h⟩ | ⟨rfl, h⟩
  · exact ⟨true, rfl, .inl ⟨rfl, h⟩⟩
  · exact ⟨false, rfl, .inr ⟨rfl, h⟩⟩

set_option maxRecDepth 100000 in
set_option maxHeartbeats 2000000 in
theorem rot1_in (n : Nat) (hn : 1 ≤ n) (l Bs n₀ : Nat) (b : ByteArray) (hb : b.size ≤ 140737488355328) (hBs : Bs < n₀) (J Jx : List (Ix b.size) → World → Prop) (hJd : ∀ s A, J s A → J s A.drew)
    (hY : ∀ pre x W, J pre W → pre.length < b.size → YieldAt Fence.wide (n - 1) Tryz.prog l #[.int .i64 (x.1 : Int), .string (b.extract x.1 b.size ++ b.extract 0 x.1)] W fun e W' =>
      (e = .returned (.bool true) ∧ J (pre ++ [x]) W' ∧ Below n₀ W W') ∨ (e = .returned (.bool false) ∧ Jx (pre ++ [x]) W'))
    (W : World) (hc : W.cell? ⟨Bs, 0, none⟩ = some (.string b)) (h0 : J [] W) :
    CallsIn Fence.wide n Tryz.prog 71 #[.func (.yield l) #[] #[], .pointer (some ⟨Bs, 0, none⟩)] W fun e W' => (∃ v, e = .returned v) ∧
      ((∃ ys, ys = upto b.size b.size ∧ J ys W') ∨ (∃ pre, (∃ j, j ≤ b.size ∧ pre = upto b.size j) ∧ Jx pre W')) := by
  refine callsIn_of_wp Tryz.func71 rfl trivial ?_ rfl
  simp only [Tryz.ntmps71, List.size_toArray, List.length_cons, List.length_nil, Nat.reduceAdd, Nat.reduceSub, Array.replicate_succ, Array.replicate_zero, List.push_toArray, List.append_toArray, List.nil_append, List.cons_append]
  gi_wp2
  gi_loopw [6] (fun i wr => ∃ k : Nat, k ≤ b.size ∧ i = .int .i64 k ∧ J (upto b.size k) wr ∧ Below n₀ W wr)
    (fun i _ => b.size - (intOf i).toNat)
  case atStart => exact ⟨0, Nat.zero_le _, rfl, h0, Below.refl _ _⟩
  case round =>
    obtain ⟨k, hk, rfl, hJs, hnx⟩ := hrel
    have hcx : wr.cell? ⟨Bs, 0, none⟩ = some (.string b) := (hnx.cell (p := ⟨Bs, 0, none⟩) hBs).trans hc
    by_cases hlt : k < b.size
    · obtain ⟨fn, tmps, assign, body, hy, hR⟩ := hY _ ⟨k, hlt⟩ wr.drew (hJd _ _ hJs) (by rw [upto_length _ _ hk]; exact hlt)
      have s1 : 0 ≤ (k : Int) := by omega
      have s2 : (k : Int) ≤ (b.size : Int) := by omega
      have s3 : (b.extract k b.size).size + (b.extract 0 k).size ≤ 9223372036854775807 := by simp; omega
      have hmx : Tryz.prog.follows .mixedOrders = true := by kernel_rfl
      gi_wp2
      have s4 : (9223372036854775807 < b.size) = False := eq_false (by omega)
      clear hY h0 s3 hc hJd hJs
      have HR := Aside0.mk hR
      clear hR
      gi_region_with (with_reducible refine HR.out.mono ?_; intro e W3 hE; obtain ⟨t, rfl, hT⟩ := two_ways hE; clear hE)
      all_goals rcases hT with ⟨rfl, hJ3, hk3⟩ | ⟨rfl, hJx3⟩
      all_goals gi_wp2
      all_goals first
        | (go_roundw
           case rel => exact ⟨k + 1, by omega, by simp, by rw [upto_succ _ _ hlt]; exact hJ3, hnx.trans ((Below.refl _ wr).drew.trans hk3)⟩
           case measure => simp [intOf]; omega)
        | (refine bodyPost_ret (results_none rfl _ _ _) rfl ?_
           exact ⟨⟨_, rfl⟩, .inr ⟨_, ⟨k + 1, by omega, (upto_succ _ _ hlt).symm⟩, hJx3⟩⟩)
    · obtain rfl : k = b.size := by omega
      gi_wp2
      go_end0
      exact ⟨⟨_, rfl⟩, .inl ⟨_, rfl, hJs⟩⟩

theorem rot_stops (n : Nat) (hn : 1 ≤ n) (Bs n₀ : Nat) (b : ByteArray) (hb : b.size ≤ 140737488355328) (w : World) (hBs : Bs < n₀) (hn₀ : n₀ ≤ w.heap.size)
    (hc : w.cell? ⟨Bs, 0, none⟩ = some (.string b)) :
    SeqStopsK Fence.wide n Tryz.prog 71 #[.pointer (some ⟨Bs, 0, none⟩)] (encs b) (Below n₀) (fun ys => ys = upto b.size b.size)
      (fun pre => ∃ j, j ≤ b.size ∧ pre = upto b.size j) b.size w := fun l J Jx W hW hJ _ hY h0 =>
  rot1_in n hn l Bs n₀ b hb hBs J Jx (fun s A hs => hJ s A _ none hs ⟨rfl, rfl, rfl, Nat.le_refl _, fun _ _ _ => rfl⟩ (fun r e => by cases e)) hY W ((hW.cell (p := ⟨Bs, 0, none⟩) (Nat.lt_of_lt_of_le hBs hn₀)).trans hc) h0

set_option maxHeartbeats 1000000 in
/-- The maker: the word is boxed; the function value captures the box. -/
theorem rotations_in (n : Nat) (b : ByteArray) (w : World) :
    CallsIn Fence.wide n Tryz.prog 57 #[.string b] w fun e w' => e = .returned (.func (.func 71) #[] #[.pointer (some ⟨w.heap.size, 0, none⟩)]) ∧ w' = w.alloc (.cells #[.string b] 9) := by
  refine callsIn_of_wp Tryz.func57 rfl trivial ?_ rfl
  simp only [Tryz.ntmps57, List.size_toArray, List.length_cons, List.length_nil, Nat.reduceAdd, Nat.reduceSub, Array.replicate_succ, Array.replicate_zero, List.push_toArray, List.append_toArray, List.nil_append, List.cons_append]
  gi_wp2
  go_ret
  exact ⟨rfl, rfl⟩

end Go.Proofs.YthiehmogphknlaaGreatDoor.Rot
