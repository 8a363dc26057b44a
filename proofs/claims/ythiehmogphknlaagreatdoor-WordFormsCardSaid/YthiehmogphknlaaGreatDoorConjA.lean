/- word.rotations: the iterator's contract. word.least comes to an end; what word.form answers. word.Conjugate: the walk. -/
import Derived.Test.YthiehmogphknlaaGreatDoorParseB
import Derived.RangeFuncBox
import Derived.RangeFuncLeaves
import Derived.Shelf.Abstract
import Derived.WalkKit
import Derived.OwnWalkIn
import Derived.TacticsInMore
import Derived.LoopNIn
import Derived.LoopIn
import Derived.Shelf.RegionOpen
import Derived.Test.YthiehmogphknlaaGreatDoorParseA
namespace Go.Proofs.YthiehmogphknlaaGreatDoor.Rot
open Go.RowKit Go.Shelf Go.Proofs.YthiehmogphknlaaGreatDoor.G Go.Proofs.YthiehmogphknlaaGreatDoor.PA Go.Proofs.YthiehmogphknlaaGreatDoorW.PrintWords Go.Proofs.YthiehmogphknlaaGreatDoor.Free Go.Proofs.YthiehmogphknlaaGreatDoor.Pure1
attribute [local go_sem] Oper.semAt_some
def rotB (b : ByteArray) (i : Nat) : ByteArray := b.extract i b.size ++ b.extract 0 i
abbrev Ix (n : Nat) := { i : Nat // i < n }
abbrev encs (b : ByteArray) (x : Ix b.size) : Array Value := #[.int .i64 (x.1 : Int), .string (b.extract x.1 b.size ++ b.extract 0 x.1)]
/-- What has come when j rounds are over. -/
def upto (n j : Nat) : List (Ix n) := (List.range j).filterMap fun i => if h : i < n then some ⟨i, h⟩ else none
theorem upto_zero (n : Nat) : upto n 0 = [] := rfl
theorem upto_succ (n j : Nat) (h : j < n) : upto n (j + 1) = upto n j ++ [⟨j, h⟩] := by
  simp [upto, List.range_succ, h]
theorem upto_length (n j : Nat) (h : j ≤ n) : (upto n j).length = j := by
  induction j with
  | zero => rfl
  | succ j ih => rw [upto_succ n j (by omega), List.length_append, ih (by omega)]; rfl
theorem two_ways {e : Ending} {A B : Prop} (h : (e = .returned (.bool true) ∧ A) ∨ (e = .returned (.bool false) ∧ B)) : ∃ t : Bool, e = .returned (.bool t) ∧ ((t = true ∧ A) ∨ (t = false ∧ B)) := by
  rcases h with ⟨rfl, h⟩ | ⟨rfl, h⟩
  · exact ⟨true, rfl, .inl ⟨rfl, h⟩⟩
  · exact ⟨false, rfl, .inr ⟨rfl, h⟩⟩
set_option maxRecDepth 100000 in
set_option maxHeartbeats 2000000 in
theorem rot1_in (n : Nat) (hn : 1 ≤ n) (l Bs n₀ : Nat) (b : ByteArray) (hb : b.size ≤ 140737488355328) (hBs : Bs < n₀) (J Jx : List (Ix b.size) → World → Prop) (hJd : ∀ s A, J s A → J s A.drew)
    (hY : ∀ pre x W, J pre W → pre.length < b.size → YieldAt Fence.wide (n - 1) Tryz.prog l #[.int .i64 (x.1 : Int), .string (b.extract x.1 b.size ++ b.extract 0 x.1)] W fun e W' =>
      (e = .returned (.bool true) ∧ J (pre ++ [x]) W' ∧ Below n₀ W W') ∨ (e = .returned (.bool false) ∧ Jx (pre ++ [x]) W'))
    (W : World) (hc : W.cell? ⟨Bs, 0, none⟩ = some (.string b)) (h0 : J [] W) :
    CallsIn Fence.wide n Tryz.prog 71 #[.func (.yield l) #[] #[], .pointer (some ⟨Bs, 0, none⟩)] W fun e W' => (∃ v, e = .returned v) ∧
      ((∃ ys, ys = upto b.size b.size ∧ J ys W') ∨ (∃ pre, (∃ j, j ≤ b.size ∧ pre = upto b.size j) ∧ Jx pre W')) := by
  refine callsIn_of_wp Tryz.func71 rfl trivial ?_ rfl
  simp only [Tryz.ntmps71, List.size_toArray, List.length_cons, List.length_nil, Nat.reduceAdd, Nat.reduceSub, Array.replicate_succ, Array.replicate_zero, List.push_toArray, List.append_toArray, List.nil_append, List.cons_append]
  gi_wp2
  gi_loopw [6] (fun i wr => ∃ k : Nat, k ≤ b.size ∧ i = .int .i64 k ∧ J (upto b.size k) wr ∧ Below n₀ W wr)
    (fun i _ => b.size - (intOf i).toNat)
  case atStart => exact ⟨0, Nat.zero_le _, rfl, h0, Below.refl _ _⟩
  case round =>
    obtain ⟨k, hk, rfl, hJs, hnx⟩ := hrel
    have hcx : wr.cell? ⟨Bs, 0, none⟩ = some (.string b) := (hnx.cell (p := ⟨Bs, 0, none⟩) hBs).trans hc
    by_cases hlt : k < b.size
    · obtain ⟨fn, tmps, assign, body, hy, hR⟩ := hY _ ⟨k, hlt⟩ wr.drew (hJd _ _ hJs) (by rw [upto_length _ _ hk]; exact hlt)
      have s1 : 0 ≤ (k : Int) := by omega
      have s2 : (k : Int) ≤ (b.size : Int) := by omega
      have s3 : (b.extract k b.size).size + (b.extract 0 k).size ≤ 9223372036854775807 := by simp; omega
      have hmx : Tryz.prog.follows .mixedOrders = true := by kernel_rfl
      gi_wp2
      have s4 : (9223372036854775807 < b.size) = False := eq_false (by omega)
      clear hY h0 s3 hc hJd hJs
      have HR := Aside0.mk hR
      clear hR
      gi_region_with (with_reducible refine HR.out.mono ?_; intro e W3 hE; obtain ⟨t, rfl, hT⟩ := two_ways hE; clear hE)
      all_goals rcases hT with ⟨rfl, hJ3, hk3⟩ | ⟨rfl, hJx3⟩
      all_goals gi_wp2
      all_goals first
        | (go_roundw
           case rel => exact ⟨k + 1, by omega, by simp, by rw [upto_succ _ _ hlt]; exact hJ3, hnx.trans ((Below.refl _ wr).drew.trans hk3)⟩
           case measure => simp [intOf]; omega)
        | (refine bodyPost_ret (results_none rfl _ _ _) rfl ?_
           exact ⟨⟨_, rfl⟩, .inr ⟨_, ⟨k + 1, by omega, (upto_succ _ _ hlt).symm⟩, hJx3⟩⟩)
    · obtain rfl : k = b.size := by omega
      gi_wp2
      go_end0
      exact ⟨⟨_, rfl⟩, .inl ⟨_, rfl, hJs⟩⟩
theorem rot_stops (n : Nat) (hn : 1 ≤ n) (Bs n₀ : Nat) (b : ByteArray) (hb : b.size ≤ 140737488355328) (w : World) (hBs : Bs < n₀) (hn₀ : n₀ ≤ w.heap.size)
    (hc : w.cell? ⟨Bs, 0, none⟩ = some (.string b)) :
    SeqStopsK Fence.wide n Tryz.prog 71 #[.pointer (some ⟨Bs, 0, none⟩)] (encs b) (Below n₀) (fun ys => ys = upto b.size b.size)
      (fun pre => ∃ j, j ≤ b.size ∧ pre = upto b.size j) b.size w := fun l J Jx W hW hJ _ hY h0 =>
  rot1_in n hn l Bs n₀ b hb hBs J Jx (fun s A hs => hJ s A _ none hs ⟨rfl, rfl, rfl, Nat.le_refl _, fun _ _ _ => rfl⟩ (fun r e => by cases e)) hY W ((hW.cell (p := ⟨Bs, 0, none⟩) (Nat.lt_of_lt_of_le hBs hn₀)).trans hc) h0
set_option maxHeartbeats 1000000 in
/-- The maker: the word is boxed; the function value captures the box. -/
theorem rotations_in (n : Nat) (b : ByteArray) (w : World) :
    CallsIn Fence.wide n Tryz.prog 57 #[.string b] w fun e w' => e = .returned (.func (.func 71) #[] #[.pointer (some ⟨w.heap.size, 0, none⟩)]) ∧ w' = w.alloc (.cells #[.string b] 9) := by
  refine callsIn_of_wp Tryz.func57 rfl trivial ?_ rfl
  simp only [Tryz.ntmps57, List.size_toArray, List.length_cons, List.length_nil, Nat.reduceAdd, Nat.reduceSub, Array.replicate_succ, Array.replicate_zero, List.push_toArray, List.append_toArray, List.nil_append, List.cons_append]
  gi_wp2
  go_ret
  exact ⟨rfl, rfl⟩
end Go.Proofs.YthiehmogphknlaaGreatDoor.Rot
namespace Go.Proofs.YthiehmogphknlaaGreatDoor.Rot
open Go.RowKit Go.Proofs.YthiehmogphknlaaGreatDoor.G Go.Proofs.YthiehmogphknlaaGreatDoor.PA Go.Proofs.YthiehmogphknlaaGreatDoorW.PrintWords Go.Proofs.YthiehmogphknlaaGreatDoor.Free Go.Proofs.YthiehmogphknlaaGreatDoor.Pure1
theorem leastL_total (s : ByteArray) : ∀ (g i j k : Nat), 3 * s.size ≤ i + j + k + g → (i < s.size ∨ j < s.size) → i ≠ j → ∃ r : Nat, leastL (g + 1) s i j k = some (r : Int) ∧ r < s.size := by
  intro g
  induction g with
  | zero =>
    intro i j k h1 h2 h3
    rw [leastL, if_neg (by omega)]
    by_cases h : i < j
    · exact ⟨i, by rw [if_pos h], by omega⟩
    · exact ⟨j, by rw [if_neg h], by omega⟩
  | succ g ih =>
    intro i j k h1 h2 h3
    rw [leastL]
    by_cases hl : i < s.size ∧ j < s.size ∧ k < s.size
    · rw [if_pos hl]
      split
      · exact ih i j (k + 1) (by omega) (by omega) h3
      · split
        · split
          · exact ih (i + k + 1) (j + 1) 0 (by omega) (by omega) (by omega)
          · exact ih (i + k + 1) j 0 (by omega) (by omega) (by omega)
        · split
          · exact ih i (j + k + 1 + 1) 0 (by omega) (by omega) (by omega)
          · exact ih i (j + k + 1) 0 (by omega) (by omega) (by omega)
    · rw [if_neg hl]
      by_cases h : i < j
      · exact ⟨i, by rw [if_pos h], by omega⟩
      · exact ⟨j, by rw [if_neg h], by omega⟩
/-- Where the least rotation begins. -/
def least (l : List UInt8) : Nat := ((leastL (3 * l.length + 1) (B l) 0 1 0).getD 0).toNat
theorem least_lt (l : List UInt8) (h : l ≠ []) : leastL (3 * l.length + 1) (B l) 0 1 0 = some (least l : Int) ∧ least l < l.length := by
  have hl : 0 < l.length := List.length_pos_iff.2 h
  obtain ⟨r, h1, h2⟩ := leastL_total (B l) (3 * l.length) 0 1 0 (by rw [size_B]; omega) (by rw [size_B]; omega) (by omega)
  have e : least l = r := by unfold least; rw [h1]; rfl
  rw [e]
  exact ⟨h1, by rwa [size_B] at h2⟩
/-- The least rotation. -/
def formL (l : List UInt8) : List UInt8 := l.drop (least l) ++ l.take (least l)
theorem formL_length (l : List UInt8) : (formL l).length = l.length := by
  unfold formL; rw [List.length_append, List.length_drop, List.length_take]; omega
theorem form_f (s : ByteArray) (hs : s.size ≤ 140737488355328) : word_form.f (3 * s.size + 1) s = some (B (formL (L s))) := by
  unfold word_form.f
  rw [toList_L]
  by_cases h : L s = []
  · rw [if_pos h, h]; rfl
  · rw [if_neg h]
    have ⟨h1, h2⟩ := least_lt (L s) h
    have e : word_least.f (3 * s.size + 1) s = some (least (L s) : Int) := by
      unfold word_least.f
      rw [if_pos hs, size_L]; exact h1
    rw [e]
    simp only [Option.bind_some]
    rw [if_pos (by omega), if_pos (by rw [size_L]; omega)]
    have e2 : s.extract ((least (L s) : Int)).toNat s.size ++ s.extract 0 ((least (L s) : Int)).toNat = B (formL (L s)) := by
      rw [extract_L, extract_L, B_append, Int.toNat_natCast]
      unfold formL
      rw [List.drop_zero, Nat.sub_zero, List.take_of_length_le (by rw [List.length_drop, ← size_L]; exact Nat.le_refl _)]
    rw [e2, if_pos ?_]
    rw [extract_L, extract_L, size_B, size_B, List.length_take, List.length_take, List.length_drop]
    rw [size_L] at hs ⊢
    omega
theorem form_any (s : ByteArray) (hs : s.size ≤ 140737488355328) (w : World) (hG : GL w) :
    Calls Tryz.prog 55 #[.string s] w fun e w' => e = .returned (.string (B (formL (L s)))) ∧ Drawn0 w w' :=
  word_form.calls _ s _ w (form_f s hs) hG
theorem is_any (s : ByteArray) (hs : s.size ≤ 9223372036854775807) (w : World) (hG : GL w) :
    Calls Tryz.prog 45 #[.string s] w fun e w' => e = .returned (.bool (decide (Wd s))) ∧ Below w.heap.size w w' :=
  word_is.calls s _ w (is_f s hs) hG
theorem cyclic_any (s : ByteArray) (hs : s.size < 140737488355328) (w : World) :
    Calls Tryz.prog 53 #[.string s] w fun e w' => e = .returned (.tuple #[.string (B (cyc (red (L s))).2), .string (B (cyc (red (L s))).1)]) ∧ Below w.heap.size w w' := by
  obtain ⟨k, hk⟩ := (cyclic_ev s hs).rounds
  exact word_cyclic.calls k s _ _ w hk
/-- A conjugator of words, and whether there is one. -/
def conjP (u v : List UInt8) : List UInt8 × Bool :=
  let a := (cyc (red u)).2
  let b := (cyc (red v)).2
  if a.length ≠ b.length ∨ formL a ≠ formL b then ([], false)
  else if a = [] then ([], true)
  else match (List.range b.length).find? (fun i => decide (b.drop i ++ b.take i = a)) with
    | none => ([], false)
    | some i => (red ((cyc (red u)).1 ++ (inv (b.take i) ++ inv (cyc (red v)).1)), true)
def _root_.Go.Proofs.YthiehmogphknlaaGreatDoor.G.word_Conjugate.f (u v : ByteArray) : Option (ByteArray × Bool) :=
  if u.size ≤ 9223372036854775807 ∧ v.size ≤ 9223372036854775807 then
    some (if Wd u ∧ Wd v then (B (conjP (L u) (L v)).1, (conjP (L u) (L v)).2) else (B [], false))
  else none
end Go.Proofs.YthiehmogphknlaaGreatDoor.Rot
namespace Go.Proofs.YthiehmogphknlaaGreatDoor.Rot
open Go.RowKit Go.Shelf Go.Proofs.YthiehmogphknlaaGreatDoor.G Go.Proofs.YthiehmogphknlaaGreatDoor.PA Go.Proofs.YthiehmogphknlaaGreatDoorW.PrintWords Go.Proofs.YthiehmogphknlaaGreatDoor.Free Go.Proofs.YthiehmogphknlaaGreatDoor.Pure1
/-- The two results' cells. -/
structure Two (w W : World) (x : ByteArray) (y : Bool) : Prop where
  h0 : W.heap[w.heap.size]? = some (.cells #[.string x] 9 (0, 0))
  h1 : W.heap[w.heap.size + 1]? = some (.cells #[.bool y] 4 (0, 0))
  size : w.heap.size + 2 ≤ W.heap.size
  below : Below w.heap.size w W
theorem Two.start (w : World) : Two w ((w.alloc (.cells #[.string ⟨#[]⟩] 9)).alloc (.cells #[.bool false] 4)) ⟨#[]⟩ false := by
  have e : w.heap.size + 1 = (w.alloc (.cells #[.string ⟨#[]⟩] 9)).heap.size := by simp
  refine ⟨(Below.heap_alloc _ _ _ (by simp)).trans (Go.Deep.blk_alloc_new _ _), ?_, by simp, ((Below.refl _ _).alloc (Nat.le_refl _) _).alloc (by simp) _⟩
  rw [e]
  exact Go.Deep.blk_alloc_new _ _
theorem Two.later {w W W1 : World} {x : ByteArray} {y : Bool} (h : Two w W x y) (hb : Below W.heap.size W W1) : Two w W1 x y :=
  ⟨(hb.block _ (by have := h.size; omega)).trans h.h0, (hb.block _ (by have := h.size; omega)).trans h.h1, Nat.le_trans h.size hb.size, h.below.trans (hb.mono (by have := h.size; omega))⟩
theorem Two.set0 {w W : World} {x : ByteArray} {y : Bool} (h : Two w W x y) (x' : ByteArray) : Two w (W.setCell ⟨w.heap.size, 0, none⟩ (.string x')) x' y :=
  ⟨blk_set h.h0 0 _, (Below.heap_setCell _ _ _ _ (by simp)).trans h.h1, by have := h.size; simpa [World.setCell] using this, h.below.setCell (p := ⟨w.heap.size, 0, none⟩) (Nat.le_refl _) _⟩
theorem Two.set1 {w W : World} {x : ByteArray} {y : Bool} (h : Two w W x y) (y' : Bool) : Two w (W.setCell ⟨w.heap.size + 1, 0, none⟩ (.bool y')) x y' :=
  ⟨(Below.heap_setCell _ _ _ _ (by simp)).trans h.h0, blk_set h.h1 0 _, by have := h.size; simpa [World.setCell] using this, h.below.setCell (p := ⟨w.heap.size + 1, 0, none⟩) (Nat.le_succ _) _⟩
theorem Two.c0 {w W : World} {x : ByteArray} {y : Bool} (h : Two w W x y) : W.cell? ⟨w.heap.size, 0, none⟩ = some (.string x) := (blk_cell h.h0 0).trans rfl
theorem Two.c1 {w W : World} {x : ByteArray} {y : Bool} (h : Two w W x y) : W.cell? ⟨w.heap.size + 1, 0, none⟩ = some (.bool y) := (blk_cell h.h1 0).trans rfl
theorem Two.f0 {w W : World} {x : ByteArray} {y : Bool} (h : Two w W x y) : W.frozen? ⟨w.heap.size, 0, none⟩ = false := blk_frozen h.h0 0
theorem Two.f1 {w W : World} {x : ByteArray} {y : Bool} (h : Two w W x y) : W.frozen? ⟨w.heap.size + 1, 0, none⟩ = false := blk_frozen h.h1 0
/-- What is() answers, beside the results' cells. -/
theorem is_two (s : ByteArray) (hs : s.size ≤ 9223372036854775807) (w : World) (hG : GL w) (W : World) (x : ByteArray) (y : Bool) (h : Two w W x y) :
    Calls Tryz.prog 45 #[.string s] W fun e w' => e = .returned (.bool (decide (Wd s))) ∧ Two w w' x y :=
  (is_any s hs _ (hG.step h.below)).mono fun _ _ ⟨a, b⟩ => ⟨a, h.later b⟩
set_option maxHeartbeats 4000000 in
set_option maxRecDepth 100000 in
theorem conj_no1 (u v : ByteArray) (hu : u.size ≤ 9223372036854775807) (h : ¬ Wd u) (w : World) (hG : GL w) :
    Calls Tryz.prog 35 #[.string u, .string v] w fun e w' => e = .returned (.tuple #[.string ⟨#[]⟩, .bool false]) ∧ Below w.heap.size w w' := by
  have C := is_two u hu w hG _ _ _ (Two.start w)
  rw [decide_eq_false h] at C
  have C' := Aside0.mk C
  clear C h
  go_enter Tryz.func35, Tryz.ntmps35
  go_wp2_with (go_at_call 45; refine C'.out.mono ?_; rintro e w1 ⟨rfl, hT⟩
               have b4 := hT.c0
               have b5 := hT.f0
               have b6 := hT.c1
               have b7 := hT.f1
               have hF := Aside0.mk ((hT.set0 ⟨#[]⟩).set1 false))
  have k1 := hF.out.c0
  have k2 := hF.out.c1
  have k3 := hF.out.below
  clear hF b4 b5 b6 b7 hT
  simp [bodyPost, results, Tryz.results35, go_sem, k1, k2]
  exact k3
set_option maxHeartbeats 4000000 in
set_option maxRecDepth 100000 in
theorem conj_no2 (u v : ByteArray) (hu : u.size ≤ 9223372036854775807) (hv : v.size ≤ 9223372036854775807) (h : Wd u) (h' : ¬ Wd v) (w : World) (hG : GL w) :
    Calls Tryz.prog 35 #[.string u, .string v] w fun e w' => e = .returned (.tuple #[.string ⟨#[]⟩, .bool false]) ∧ Below w.heap.size w w' := by
  have C := is_two u hu w hG _ _ _ (Two.start w)
  have D : ∀ W, Two w W ⟨#[]⟩ false → _ := fun W => is_two v hv w hG W ⟨#[]⟩ false
  rw [decide_eq_true h] at C
  rw [decide_eq_false h'] at D
  have C' := Aside0.mk C
  have D' := Aside0.mk D
  clear C D h h'
  go_enter Tryz.func35, Tryz.ntmps35
  go_wp2_with (first
    | (go_at_call 45; with_reducible refine C'.out.mono ?_; rintro e w1 ⟨rfl, hT⟩; clear C')
    | (go_at_call 45; with_reducible refine (D'.out _ hT).mono ?_; rintro e w2 ⟨rfl, hT2⟩
       clear D' hT
       have b4 := hT2.c0
       have b5 := hT2.f0
       have b6 := hT2.c1
       have b7 := hT2.f1
       have hF := Aside0.mk ((hT2.set0 ⟨#[]⟩).set1 false)))
  have k1 := hF.out.c0
  have k2 := hF.out.c1
  have k3 := hF.out.below
  clear hF b4 b5 b6 b7 hT2
  simp [bodyPost, results, Tryz.results35, go_sem, k1, k2]
  exact k3
/-- The words' parts' cells. -/
structure Six (w : World) (q r : Nat) (W : World) (a c b d : ByteArray) : Prop where
  two : Two w W ⟨#[]⟩ false
  h6 : W.heap[q]? = some (.cells #[.string a] 9 (0, 0))
  h7 : W.heap[q + 1]? = some (.cells #[.string c] 9 (0, 0))
  h8 : W.heap[r]? = some (.cells #[.string b] 9 (0, 0))
  h9 : W.heap[r + 1]? = some (.cells #[.string d] 9 (0, 0))
  q0 : w.heap.size + 2 ≤ q
  r0 : q + 2 ≤ r
theorem Six.start {w w2 w3 w4 : World} {a c b d : ByteArray} (h2 : Two w w2 ⟨#[]⟩ false) (h3 : Below w2.heap.size w2 w3)
    (h4 : Below ((w3.alloc (.cells #[.string a] 9)).alloc (.cells #[.string c] 9)).heap.size ((w3.alloc (.cells #[.string a] 9)).alloc (.cells #[.string c] 9)) w4) :
    Six w w3.heap.size w4.heap.size ((w4.alloc (.cells #[.string b] 9)).alloc (.cells #[.string d] 9)) a c b d := by
  have s3 : w3.heap.size + 2 ≤ w4.heap.size := by have := h4.size; simpa using this
  have h3' : Below w3.heap.size w3 w4 := (((Below.refl _ w3).alloc (Nat.le_refl _) _).alloc (by simp) _).trans (h4.mono (by simp; omega))
  have h4' : Below w4.heap.size w4 ((w4.alloc (.cells #[.string b] 9)).alloc (.cells #[.string d] 9)) := ((Below.refl _ _).alloc (Nat.le_refl _) _).alloc (by simp) _
  have e3 : w3.heap.size + 1 = (w3.alloc (.cells #[.string a] 9)).heap.size := by simp
  have e4 : w4.heap.size + 1 = (w4.alloc (.cells #[.string b] 9)).heap.size := by simp
  refine ⟨((h2.later h3).later h3').later h4', ?_, ?_, ?_, ?_, ?_, s3⟩
  · refine (h4'.block _ (by omega)).trans ((h4.block _ (by simp; omega)).trans ?_)
    exact (Below.heap_alloc _ _ _ (by simp)).trans (Go.Deep.blk_alloc_new _ _)
  · refine (h4'.block _ (by omega)).trans ((h4.block _ (by simp)).trans ?_)
    rw [e3]
    exact Go.Deep.blk_alloc_new _ _
  · exact (Below.heap_alloc _ _ _ (by simp)).trans (Go.Deep.blk_alloc_new _ _)
  · rw [e4]
    exact Go.Deep.blk_alloc_new _ _
  · exact Nat.le_trans h2.size h3.size
theorem Six.c6 {w W : World} {q r : Nat} {a c b d : ByteArray} (h : Six w q r W a c b d) : W.cell? ⟨q, 0, none⟩ = some (.string a) := (blk_cell h.h6 0).trans rfl
theorem Six.c7 {w W : World} {q r : Nat} {a c b d : ByteArray} (h : Six w q r W a c b d) : W.cell? ⟨q + 1, 0, none⟩ = some (.string c) := (blk_cell h.h7 0).trans rfl
theorem Six.c8 {w W : World} {q r : Nat} {a c b d : ByteArray} (h : Six w q r W a c b d) : W.cell? ⟨r, 0, none⟩ = some (.string b) := (blk_cell h.h8 0).trans rfl
theorem Six.c9 {w W : World} {q r : Nat} {a c b d : ByteArray} (h : Six w q r W a c b d) : W.cell? ⟨r + 1, 0, none⟩ = some (.string d) := (blk_cell h.h9 0).trans rfl
theorem Six.drewN {w W : World} {q r : Nat} {a c b d : ByteArray} (h : Six w q r W a c b d) (n : Nat) : Six w q r (W.drewN n) a c b d :=
  ⟨⟨h.two.h0, h.two.h1, h.two.size, ⟨h.two.below.os, h.two.below.tape, h.two.below.output, h.two.below.size, h.two.below.block⟩⟩, h.h6, h.h7, h.h8, h.h9, h.q0, h.r0⟩
set_option maxHeartbeats 4000000 in
set_option maxRecDepth 100000 in
theorem conj_len (u v : ByteArray) (hu : u.size ≤ 9223372036854775807) (hv : v.size ≤ 9223372036854775807) (h : Wd u) (h' : Wd v) (a c b d : ByteArray) (w : World) (hG : GL w)
    (A : ∀ W, Calls Tryz.prog 53 #[.string u] W fun e w' => e = .returned (.tuple #[.string a, .string c]) ∧ Below W.heap.size W w')
    (A' : ∀ W, Calls Tryz.prog 53 #[.string v] W fun e w' => e = .returned (.tuple #[.string b, .string d]) ∧ Below W.heap.size W w')
    (hab : ((a.size : Int) != (b.size : Int)) = true) :
    Calls Tryz.prog 35 #[.string u, .string v] w fun e w' => e = .returned (.tuple #[.string ⟨#[]⟩, .bool false]) ∧ Below w.heap.size w w' := by
  have C := is_two u hu w hG _ _ _ (Two.start w)
  have D : ∀ W, Two w W ⟨#[]⟩ false → _ := fun W => is_two v hv w hG W ⟨#[]⟩ false
  rw [decide_eq_true h] at C
  rw [decide_eq_true h'] at D
  have C' := Aside0.mk C
  have D' := Aside0.mk D
  have AA := Aside0.mk A
  have AA' := Aside0.mk A'
  clear C D h h' A A'
  go_enter Tryz.func35, Tryz.ntmps35
  go_wp2_with (first
    | (go_at_call 45; with_reducible refine C'.out.mono ?_; rintro e w1 ⟨rfl, hT⟩; clear C')
    | (go_at_call 45; with_reducible refine (D'.out _ hT).mono ?_; rintro e w2 ⟨rfl, hT2⟩; clear D' hT)
    | (go_at_call 53; with_reducible refine (AA.out _).mono ?_; rintro e w3 ⟨rfl, hT3⟩; clear AA)
    | (go_at_call 53; with_reducible refine (AA'.out _).mono ?_; rintro e w4 ⟨rfl, hT4⟩; clear AA'))
  have hS := Six.start (b := b) (d := d) hT2 hT3 hT4
  clear hT2 hT3 hT4
  revert hS
  generalize ((w4.alloc (Obj.cells #[Value.string b] 9)).alloc (Obj.cells #[Value.string d] 9)) = W
  generalize w3.heap.size = q
  generalize w4.heap.size = r
  clear w4 w3 w2
  intro hS
  have c6 := hS.c6
  have c8 := hS.c8
  have b4 := hS.two.c0
  have b5 := hS.two.f0
  have b6 := hS.two.c1
  have b7 := hS.two.f1
  have KK := Aside0.mk (fun n => ((hS.drewN n).two.set0 ⟨#[]⟩).set1 false)
  go_quiet (fail)
  try go_wp2
  have k1 := fun n => (KK.out n).c0
  have k2 := fun n => (KK.out n).c1
  have k3 := fun n => (KK.out n).below
  clear KK b4 b5 b6 b7 c6 c8 hS
  simp [bodyPost, results, Tryz.results35, go_sem, k1, k2]
  exact k3 _
set_option maxHeartbeats 4000000 in
set_option maxRecDepth 100000 in
theorem conj_form (u v : ByteArray) (hu : u.size ≤ 9223372036854775807) (hv : v.size ≤ 9223372036854775807) (h : Wd u) (h' : Wd v) (a c b d : ByteArray) (w : World) (hG : GL w)
    (A : ∀ W, Calls Tryz.prog 53 #[.string u] W fun e w' => e = .returned (.tuple #[.string a, .string c]) ∧ Below W.heap.size W w')
    (A' : ∀ W, Calls Tryz.prog 53 #[.string v] W fun e w' => e = .returned (.tuple #[.string b, .string d]) ∧ Below W.heap.size W w')
    (hab : ((a.size : Int) != (b.size : Int)) = false) (x y : ByteArray)
    (Fa : ∀ W, GL W → Calls Tryz.prog 55 #[.string a] W fun e w' => e = .returned (.string x) ∧ Drawn0 W w')
    (Fb : ∀ W, GL W → Calls Tryz.prog 55 #[.string b] W fun e w' => e = .returned (.string y) ∧ Drawn0 W w')
    (hxy : (!x.toList == y.toList) = true) :
    Calls Tryz.prog 35 #[.string u, .string v] w fun e w' => e = .returned (.tuple #[.string ⟨#[]⟩, .bool false]) ∧ Below w.heap.size w w' := by
  have C := is_two u hu w hG _ _ _ (Two.start w)
  have D : ∀ W, Two w W ⟨#[]⟩ false → _ := fun W => is_two v hv w hG W ⟨#[]⟩ false
  rw [decide_eq_true h] at C
  rw [decide_eq_true h'] at D
  have C' := Aside0.mk C
  have D' := Aside0.mk D
  have AA := Aside0.mk A
  have AA' := Aside0.mk A'
  clear C D h h' A A'
  have FA := Aside0.mk Fa
  have FB := Aside0.mk Fb
  clear Fa Fb
  go_enter Tryz.func35, Tryz.ntmps35
  go_wp2_with (first
    | (go_at_call 45; with_reducible refine C'.out.mono ?_; rintro e w1 ⟨rfl, hT⟩; clear C')
    | (go_at_call 45; with_reducible refine (D'.out _ hT).mono ?_; rintro e w2 ⟨rfl, hT2⟩; clear D' hT)
    | (go_at_call 53; with_reducible refine (AA.out _).mono ?_; rintro e w3 ⟨rfl, hT3⟩; clear AA)
    | (go_at_call 53; with_reducible refine (AA'.out _).mono ?_; rintro e w4 ⟨rfl, hT4⟩; clear AA'))
  have hS := Six.start (b := b) (d := d) hT2 hT3 hT4
  clear hT2 hT3 hT4
  revert hS
  generalize ((w4.alloc (Obj.cells #[Value.string b] 9)).alloc (Obj.cells #[Value.string d] 9)) = W
  generalize w3.heap.size = q
  generalize w4.heap.size = r
  clear w4 w3 w2
  intro hS
  have c6 := hS.c6
  have c8 := hS.c8
  have b4 := hS.two.c0
  have b5 := hS.two.f0
  have b6 := hS.two.c1
  have b7 := hS.two.f1
  have KK := Aside0.mk (fun n => ((hS.drewN n).two.set0 ⟨#[]⟩).set1 false)
  have hGW := Aside0.mk (hG.step hS.two.below)
  go_quiet (first
    | (go_at_call 55; with_reducible refine (FA.out _ (by first | exact hGW.out | exact GL.drawn hGW.out (by repeat (first | exact Drawn0.refl _ | apply Drawn0.step)))).mono ?_; rintro e w' ⟨rfl, ⟨nd, rfl⟩⟩; (try first | exact ⟨rfl, _, World.drewN_drewN _ _ _⟩ | exact ⟨rfl, _, Eq.trans (World.drewN_drewN _ _ _) (congrArg (World.drewN _) (Nat.add_assoc _ _ _))⟩))
    | (go_at_call 55; with_reducible refine (FB.out _ (by first | exact hGW.out | exact GL.drawn hGW.out (by repeat (first | exact Drawn0.refl _ | apply Drawn0.step)))).mono ?_; rintro e w' ⟨rfl, ⟨nd, rfl⟩⟩; (try first | exact ⟨rfl, _, World.drewN_drewN _ _ _⟩ | exact ⟨rfl, _, Eq.trans (World.drewN_drewN _ _ _) (congrArg (World.drewN _) (Nat.add_assoc _ _ _))⟩)))
  try go_wp2
  have k1 := fun n => (KK.out n).c0
  have k2 := fun n => (KK.out n).c1
  have k3 := fun n => (KK.out n).below
  clear KK b4 b5 b6 b7 c6 c8 hS
  simp [bodyPost, results, Tryz.results35, go_sem, k1, k2]
  exact k3 _
set_option maxHeartbeats 4000000 in
set_option maxRecDepth 100000 in
theorem conj_nil (u v : ByteArray) (hu : u.size ≤ 9223372036854775807) (hv : v.size ≤ 9223372036854775807) (h : Wd u) (h' : Wd v) (a c b d : ByteArray) (w : World) (hG : GL w)
    (A : ∀ W, Calls Tryz.prog 53 #[.string u] W fun e w' => e = .returned (.tuple #[.string a, .string c]) ∧ Below W.heap.size W w')
    (A' : ∀ W, Calls Tryz.prog 53 #[.string v] W fun e w' => e = .returned (.tuple #[.string b, .string d]) ∧ Below W.heap.size W w')
    (hab : ((a.size : Int) != (b.size : Int)) = false) (x y : ByteArray)
    (Fa : ∀ W, GL W → Calls Tryz.prog 55 #[.string a] W fun e w' => e = .returned (.string x) ∧ Drawn0 W w')
    (Fb : ∀ W, GL W → Calls Tryz.prog 55 #[.string b] W fun e w' => e = .returned (.string y) ∧ Drawn0 W w')
    (hxy : (!x.toList == y.toList) = false) (ha : a.toList.isEmpty = true) :
    Calls Tryz.prog 35 #[.string u, .string v] w fun e w' => e = .returned (.tuple #[.string ⟨#[]⟩, .bool true]) ∧ Below w.heap.size w w' := by
  have C := is_two u hu w hG _ _ _ (Two.start w)
  have D : ∀ W, Two w W ⟨#[]⟩ false → _ := fun W => is_two v hv w hG W ⟨#[]⟩ false
  rw [decide_eq_true h] at C
  rw [decide_eq_true h'] at D
  have C' := Aside0.mk C
  have D' := Aside0.mk D
  have AA := Aside0.mk A
  have AA' := Aside0.mk A'
  clear C D h h' A A'
  have FA := Aside0.mk Fa
  have FB := Aside0.mk Fb
  clear Fa Fb
  go_enter Tryz.func35, Tryz.ntmps35
  go_wp2_with (first
    | (go_at_call 45; with_reducible refine C'.out.mono ?_; rintro e w1 ⟨rfl, hT⟩; clear C')
    | (go_at_call 45; with_reducible refine (D'.out _ hT).mono ?_; rintro e w2 ⟨rfl, hT2⟩; clear D' hT)
    | (go_at_call 53; with_reducible refine (AA.out _).mono ?_; rintro e w3 ⟨rfl, hT3⟩; clear AA)
    | (go_at_call 53; with_reducible refine (AA'.out _).mono ?_; rintro e w4 ⟨rfl, hT4⟩; clear AA'))
  have hS := Six.start (b := b) (d := d) hT2 hT3 hT4
  clear hT2 hT3 hT4
  revert hS
  generalize ((w4.alloc (Obj.cells #[Value.string b] 9)).alloc (Obj.cells #[Value.string d] 9)) = W
  generalize w3.heap.size = q
  generalize w4.heap.size = r
  clear w4 w3 w2
  intro hS
  have c6 := hS.c6
  have c8 := hS.c8
  have b4 := hS.two.c0
  have b5 := hS.two.f0
  have b6 := hS.two.c1
  have b7 := hS.two.f1
  have KK := Aside0.mk (fun n => ((hS.drewN n).two.set0 ⟨#[]⟩).set1 true)
  have hGW := Aside0.mk (hG.step hS.two.below)
  go_quiet (first
    | (go_at_call 55; with_reducible refine (FA.out _ (by first | exact hGW.out | exact GL.drawn hGW.out (by repeat (first | exact Drawn0.refl _ | apply Drawn0.step)))).mono ?_; rintro e w' ⟨rfl, ⟨nd, rfl⟩⟩; (try first | exact ⟨rfl, _, World.drewN_drewN _ _ _⟩ | exact ⟨rfl, _, Eq.trans (World.drewN_drewN _ _ _) (congrArg (World.drewN _) (Nat.add_assoc _ _ _))⟩))
    | (go_at_call 55; with_reducible refine (FB.out _ (by first | exact hGW.out | exact GL.drawn hGW.out (by repeat (first | exact Drawn0.refl _ | apply Drawn0.step)))).mono ?_; rintro e w' ⟨rfl, ⟨nd, rfl⟩⟩; (try first | exact ⟨rfl, _, World.drewN_drewN _ _ _⟩ | exact ⟨rfl, _, Eq.trans (World.drewN_drewN _ _ _) (congrArg (World.drewN _) (Nat.add_assoc _ _ _))⟩)))
  try go_wp2
  have k1 := fun n => (KK.out n).c0
  have k2 := fun n => (KK.out n).c1
  have k3 := fun n => (KK.out n).below
  clear KK b4 b5 b6 b7 c6 c8 hS
  simp [bodyPost, results, Tryz.results35, go_sem, k1, k2]
  exact k3 _
end Go.Proofs.YthiehmogphknlaaGreatDoor.Rot
