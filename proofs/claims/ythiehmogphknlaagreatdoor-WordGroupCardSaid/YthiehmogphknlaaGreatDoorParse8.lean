/- word.Parse itself: the box, the deferred catch, the readings that are no word. -/
import Derived.Test.YthiehmogphknlaaGreatDoorParse7
import Derived.Defers
import Derived.Recover
import Derived.Deep.Heap
namespace Go.Proofs.YthiehmogphknlaaGreatDoor.Parse
open Go.RowKit Go.Proofs.YthiehmogphknlaaGreatDoor.G Go.Proofs.YthiehmogphknlaaGreatDoor.PA Go.Proofs.YthiehmogphknlaaGreatDoorW.PrintWords Go.Proofs.YthiehmogphknlaaGreatDoor.Free Go.Proofs.YthiehmogphknlaaGreatDoor.Pure1

set_option maxHeartbeats 2000000 in
set_option maxRecDepth 100000 in
theorem parse_out (k : Int) (hk : k < 1 ∨ 8 < k) (s : ByteArray) (w : World) :
    Calls Tryz.prog 39 #[.int .i64 k, .string s] w fun e w' => e = .returned (.tuple #[.string ⟨#[]⟩, .int .i64 1]) ∧ Below w.heap.size w w' := by
  go_enter_defers Tryz.func39, Tryz.ntmps39
  have hb : Below w.heap.size w ((w.alloc (.cells #[.string ⟨#[]⟩] 9)).alloc (.cells #[.int .i64 0] 24)) := ((Below.refl _ _).alloc (Nat.le_refl _) _).alloc (by simp) _
  have d1 : (!decide (k < 1) && !decide (k > 8)) = false := by simp; omega
  have d2 : (decide (k < 1) || decide (k > 8)) = true := by simp; omega
  go_wp2
  all_goals
    simp [bodyPostD, Leaves, results, Tryz.results39, go_sem]
    exact ((Below.refl _ _).alloc (Nat.le_refl _) _).alloc (by simp) _

/-- The world at the reading's first step. -/
def W3 (w : World) (k : Int) (l : List UInt8) (o : Bool) : World :=
  ((w.alloc (.cells #[.string ⟨#[]⟩] 9)).alloc (.cells #[.int .i64 0] 24)).alloc (.cells #[.string (B l), .int .i64 k, .bool o] 76)

theorem W3_size (w : World) (k : Int) (l : List UInt8) (o : Bool) : (W3 w k l o).heap.size = w.heap.size + 3 := by simp [W3]
theorem W3_below (w : World) (k : Int) (l : List UInt8) (o : Bool) : Below w.heap.size w (W3 w k l o) :=
  (((Below.refl _ _).alloc (Nat.le_refl _) _).alloc (by simp) _).alloc (by simp; omega) _
theorem W3_PS (w : World) (k : Int) (l : List UInt8) (o : Bool) : PS (w.heap.size + 2) k (W3 w k l o) l o := by
  have e : w.heap.size + 2 = ((w.alloc (.cells #[.string ⟨#[]⟩] 9)).alloc (.cells #[.int .i64 0] 24)).heap.size := by simp
  unfold PS W3
  rw [e]
  exact Go.Deep.blk_alloc_new _ _
theorem W3_h0 (w : World) (k : Int) (l : List UInt8) (o : Bool) : (W3 w k l o).heap[w.heap.size]? = some (.cells #[.string ⟨#[]⟩] 9 (0, 0)) := by
  unfold W3
  exact (Below.heap_alloc _ _ _ (by simp; omega)).trans ((Below.heap_alloc _ _ _ (by simp)).trans (Go.Deep.blk_alloc_new _ _))
theorem W3_h1 (w : World) (k : Int) (l : List UInt8) (o : Bool) : (W3 w k l o).heap[w.heap.size + 1]? = some (.cells #[.int .i64 0] 24 (0, 0)) := by
  have e : w.heap.size + 1 = (w.alloc (.cells #[.string ⟨#[]⟩] 9)).heap.size := by simp
  unfold W3
  rw [e]
  exact (Below.heap_alloc _ _ _ (by simp)).trans (Go.Deep.blk_alloc_new _ _)

/-- The two results' cells, beside the parser's variable. -/
structure At (w W : World) (x : ByteArray) (y : Int) : Prop where
  h0 : W.heap[w.heap.size]? = some (.cells #[.string x] 9 (0, 0))
  h1 : W.heap[w.heap.size + 1]? = some (.cells #[.int .i64 y] 24 (0, 0))
  size : w.heap.size + 3 ≤ W.heap.size
  below : Below w.heap.size w W
theorem At.start (w : World) (k : Int) (l : List UInt8) (o : Bool) : At w (W3 w k l o) ⟨#[]⟩ 0 :=
  ⟨W3_h0 w k l o, W3_h1 w k l o, by rw [W3_size]; omega, W3_below w k l o⟩
theorem At.kp {w W W1 : World} {x : ByteArray} {y : Int} (h : At w W x y) (hk : Kp (w.heap.size + 2) W W1) : At w W1 x y :=
  ⟨(hk.block _ (by have := h.size; omega) (by omega)).trans h.h0, (hk.block _ (by have := h.size; omega) (by omega)).trans h.h1, by have := h.size; have := hk.size; omega,
   h.below.trans (hk.below (by omega) (by have := h.size; omega))⟩
theorem At.set0 {w W : World} {x : ByteArray} {y : Int} (h : At w W x y) (x' : ByteArray) : At w (W.setCell ⟨w.heap.size, 0, none⟩ (.string x')) x' y :=
  ⟨blk_set h.h0 0 _, (Below.heap_setCell _ _ _ _ (by simp)).trans h.h1, by have := h.size; simpa [World.setCell] using this, h.below.setCell (p := ⟨w.heap.size, 0, none⟩) (Nat.le_refl _) _⟩
theorem At.set1 {w W : World} {x : ByteArray} {y : Int} (h : At w W x y) (y' : Int) : At w (W.setCell ⟨w.heap.size + 1, 0, none⟩ (.int .i64 y')) x y' :=
  ⟨(Below.heap_setCell _ _ _ _ (by simp)).trans h.h0, blk_set h.h1 0 _, by have := h.size; simpa [World.setCell] using this, h.below.setCell (p := ⟨w.heap.size + 1, 0, none⟩) (Nat.le_succ _) _⟩
theorem At.c0 {w W : World} {x : ByteArray} {y : Int} (h : At w W x y) : W.cell? ⟨w.heap.size, 0, none⟩ = some (.string x) := (blk_cell h.h0 0).trans rfl
theorem At.c1 {w W : World} {x : ByteArray} {y : Int} (h : At w W x y) : W.cell? ⟨w.heap.size + 1, 0, none⟩ = some (.int .i64 y) := (blk_cell h.h1 0).trans rfl
theorem At.f0 {w W : World} {x : ByteArray} {y : Int} (h : At w W x y) : W.frozen? ⟨w.heap.size, 0, none⟩ = false := blk_frozen h.h0 0
theorem At.f1 {w W : World} {x : ByteArray} {y : Int} (h : At w W x y) : W.frozen? ⟨w.heap.size + 1, 0, none⟩ = false := blk_frozen h.h1 0

set_option maxHeartbeats 2000000 in
set_option maxRecDepth 100000 in
theorem parse_none (k : Int) (h1 : 1 ≤ k) (h8 : k ≤ 8) (l : List UInt8) (w : World)
    (T : Calls Tryz.prog 61 #[.pointer (some ⟨w.heap.size + 2, 0, none⟩), .int .i64 0] (W3 w k l (decide (100000 < l.length))) (POut (w.heap.size + 2) k (W3 w k l (decide (100000 < l.length))) none)) :
    Calls Tryz.prog 39 #[.int .i64 k, .string (B l)] w fun e w' => e = .returned (.tuple #[.string ⟨#[]⟩, .int .i64 4]) ∧ Below w.heap.size w w' := by
  have hmf : ∀ (fn : Fn) (first cap : Array Value) (w : World), (Instr.makeFunc fn first cap).run Tryz.prog w = .ok (.func fn first cap) w := fun _ _ _ _ => rfl
  have sz : ((B l).size : Int) = (l.length : Int) := by rw [size_B]
  have dl : decide ((l.length : Int) > 100000) = decide (100000 < l.length) := decide_eq_decide.2 (by omega)
  go_enter_defers Tryz.func39, Tryz.ntmps39
  have d1 : decide (k < 1) = false := by simp; omega
  have d2 : decide (k > 8) = false := by simp; omega
  have d3 : decide (8 < k) = false := by simp; omega
  have T' := Lib.hid T
  clear T
  go_wp2_with (go_at_call 61; refine T'.out.mono ?_; rintro e w' ⟨rfl, hk⟩)
  have hA := (At.start w k l (decide (100000 < l.length))).kp hk
  refine leaves_cons (f := 60) (args := #[.pointer (some ⟨w.heap.size, 0, none⟩), .pointer (some ⟨w.heap.size + 1, 0, none⟩)]) (by simp) (by simp [go_sem]) ?_
  refine (catch_bad w.heap.size (w.heap.size + 1) w.heap.size ⟨#[]⟩ 0 _ (Nat.le_refl _) (Nat.le_succ _) (by omega) (by have := hA.size; omega) hA.c0 hA.f0 hA.c1 hA.f1).mono ?_
  rintro e u' w'' ⟨rfl, rfl, k1, k2, kb⟩
  simp [Leaves, settle, results, Tryz.results39, go_sem, k1, k2]
  exact hA.below.trans kb

theorem nz_some (c : Int) (h : c ≠ 0) : (c != 0) = true := by simpa using h

set_option maxHeartbeats 4000000 in
set_option maxRecDepth 100000 in
theorem parse_some (k : Int) (h1 : 1 ≤ k) (h8 : k ≤ 8) (l : List UInt8) (w : World) (v l' : List UInt8) (o' : Bool)
    (T : Calls Tryz.prog 61 #[.pointer (some ⟨w.heap.size + 2, 0, none⟩), .int .i64 0] (W3 w k l (decide (100000 < l.length))) (POut (w.heap.size + 2) k (W3 w k l (decide (100000 < l.length))) (some (v, l', o')))) :
    Calls Tryz.prog 39 #[.int .i64 k, .string (B l)] w fun e w' =>
      e = .returned (if trimL l' ≠ [] then .tuple #[.string ⟨#[]⟩, .int .i64 4] else if o' = true then .tuple #[.string ⟨#[]⟩, .int .i64 2] else .tuple #[.string (B v), .int .i64 0]) ∧ Below w.heap.size w w' := by
  have hmf : ∀ (fn : Fn) (first cap : Array Value) (w : World), (Instr.makeFunc fn first cap).run Tryz.prog w = .ok (.func fn first cap) w := fun _ _ _ _ => rfl
  have sz : ((B l).size : Int) = (l.length : Int) := by rw [size_B]
  have dl : decide ((l.length : Int) > 100000) = decide (100000 < l.length) := decide_eq_decide.2 (by omega)
  have d1 : decide (k < 1) = false := by simp; omega
  have d2 : decide (k > 8) = false := by simp; omega
  have d3 : decide (8 < k) = false := by simp; omega
  have T' := Lib.hid T
  clear T
  have T2 : ∀ (W : World), PS (w.heap.size + 2) k W l' o' → At w W (B v) 0 → Calls Tryz.prog 62 #[.pointer (some ⟨w.heap.size + 2, 0, none⟩)] W fun e w' =>
      e = .returned (.int .u8 (hdC (trimL l'))) ∧ PS (w.heap.size + 2) k w' (trimL l') o' ∧ At w w' (B v) 0 := fun W hp hA =>
    (next_any (w.heap.size + 2) k W l' o' hp).mono fun e w' ⟨a, b, c⟩ => ⟨a, b, hA.kp c⟩
  cases ht : trimL l' with
  | nil =>
    rw [ht] at T2
    have hh : hdC ([] : List UInt8) = 0 := rfl
    rw [hh] at T2
    have T2' := Lib.hid T2
    clear T2 hh
    have em := empty_nil
    cases o' with
    | true =>
      simp only [ne_eq, not_true_eq_false, if_false, if_true]
      go_enter_defers Tryz.func39, Tryz.ntmps39
      go_wp2_with (first
        | (go_at_call 61; refine T'.out.mono ?_; rintro e w' ⟨rfl, hp, hk⟩
           have hA := (At.start w k l (decide (100000 < l.length))).kp hk
           have a0 := hA.c0
           have a1 := hA.f0
           have hp' := Aside0.mk (show PS (w.heap.size + 2) k (w'.setCell ⟨w.heap.size, 0, none⟩ (.string (B v))) l' true from (Below.heap_setCell _ _ _ _ (by simp)).trans hp)
           have hA' := Aside0.mk (hA.set0 (B v)))
        | (go_at_call 62; refine (T2'.out _ hp'.out hA'.out).mono ?_; rintro e w2 ⟨rfl, hp2, hA2⟩
           have b0 : w2.cell? ⟨w.heap.size + 1 + 1, 0, none⟩ = some (.string (B ([]))) := hp2.cell0
           have b2 : w2.cell? ⟨w.heap.size + 1 + 1, 2, none⟩ = some (.bool true) := hp2.cell2
           have b4 := hA2.c0
           have b5 := hA2.f0
           have b6 := hA2.c1
           have b7 := hA2.f1
           have hF := Aside0.mk ((hA2.set0 ⟨#[]⟩).set1 2)
           clear hA2 hp2))
      refine leaves_cons (f := 60) (args := #[.pointer (some ⟨w.heap.size, 0, none⟩), .pointer (some ⟨w.heap.size + 1, 0, none⟩)]) (by simp) (by simp [go_sem]) ?_
      refine (catch_idle _ _ _).mono ?_
      rintro e u' w'' ⟨rfl, rfl, rfl⟩
      have k1 := hF.out.c0
      have k2 := hF.out.c1
      have k3 := hF.out.below
      clear hF b4 b5 b6 b7 b0 b2
      simp [Leaves, settle, results, Tryz.results39, go_sem, k1, k2]
      exact k3
    | false =>
      simp only [ne_eq, not_true_eq_false, if_false, Bool.false_eq_true]
      go_enter_defers Tryz.func39, Tryz.ntmps39
      go_wp2_with (first
        | (go_at_call 61; refine T'.out.mono ?_; rintro e w' ⟨rfl, hp, hk⟩
           have hA := (At.start w k l (decide (100000 < l.length))).kp hk
           have a0 := hA.c0
           have a1 := hA.f0
           have hp' := Aside0.mk (show PS (w.heap.size + 2) k (w'.setCell ⟨w.heap.size, 0, none⟩ (.string (B v))) l' false from (Below.heap_setCell _ _ _ _ (by simp)).trans hp)
           have hA' := Aside0.mk (hA.set0 (B v)))
        | (go_at_call 62; refine (T2'.out _ hp'.out hA'.out).mono ?_; rintro e w2 ⟨rfl, hp2, hA2⟩
           have b0 : w2.cell? ⟨w.heap.size + 1 + 1, 0, none⟩ = some (.string (B ([]))) := hp2.cell0
           have b2 : w2.cell? ⟨w.heap.size + 1 + 1, 2, none⟩ = some (.bool false) := hp2.cell2
           have b4 := hA2.c0
           have b5 := hA2.f0
           have b6 := hA2.c1
           have b7 := hA2.f1
           have hF := Aside0.mk ((hA2.set0 (B v)).set1 0)
           clear hA2 hp2))
      refine leaves_cons (f := 60) (args := #[.pointer (some ⟨w.heap.size, 0, none⟩), .pointer (some ⟨w.heap.size + 1, 0, none⟩)]) (by simp) (by simp [go_sem]) ?_
      refine (catch_idle _ _ _).mono ?_
      rintro e u' w'' ⟨rfl, rfl, rfl⟩
      have k1 := hF.out.c0
      have k2 := hF.out.c1
      have k3 := hF.out.below
      clear hF b4 b5 b6 b7 b0 b2
      simp [Leaves, settle, results, Tryz.results39, go_sem, k1, k2]
      exact k3
  | cons c t =>
    rw [ht] at T2
    have hh : hdC (c :: t) = (c.toNat : Int) := rfl
    rw [hh] at T2
    have em := empty_cons c t
    have ne : ((c :: t) ≠ []) = True := by simp
    simp only [ne, if_true]
    clear ht ne hh
    by_cases hc : c.toNat = 0
    · have dc : ((c.toNat : Int) != 0) = false := by rw [hc]; rfl
      clear hc
      have T2' := Lib.hid T2
      clear T2
      go_enter_defers Tryz.func39, Tryz.ntmps39
      go_wp2_with (first
        | (go_at_call 61; refine T'.out.mono ?_; rintro e w' ⟨rfl, hp, hk⟩
           have hA := (At.start w k l (decide (100000 < l.length))).kp hk
           have a0 := hA.c0
           have a1 := hA.f0
           have hp' := Aside0.mk (show PS (w.heap.size + 2) k (w'.setCell ⟨w.heap.size, 0, none⟩ (.string (B v))) l' o' from (Below.heap_setCell _ _ _ _ (by simp)).trans hp)
           have hA' := Aside0.mk (hA.set0 (B v)))
        | (go_at_call 62; refine (T2'.out _ hp'.out hA'.out).mono ?_; rintro e w2 ⟨rfl, hp2, hA2⟩
           have b0 : w2.cell? ⟨w.heap.size + 1 + 1, 0, none⟩ = some (.string (B (c :: t))) := hp2.cell0
           have b2 : w2.cell? ⟨w.heap.size + 1 + 1, 2, none⟩ = some (.bool o') := hp2.cell2
           have b4 := hA2.c0
           have b5 := hA2.f0
           have b6 := hA2.c1
           have b7 := hA2.f1
           have hF := Aside0.mk ((hA2.set0 ⟨#[]⟩).set1 4)
           clear hA2 hp2))
      refine leaves_cons (f := 60) (args := #[.pointer (some ⟨w.heap.size, 0, none⟩), .pointer (some ⟨w.heap.size + 1, 0, none⟩)]) (by simp) (by simp [go_sem]) ?_
      refine (catch_idle _ _ _).mono ?_
      rintro e u' w'' ⟨rfl, rfl, rfl⟩
      have k1 := hF.out.c0
      have k2 := hF.out.c1
      have k3 := hF.out.below
      clear hF b4 b5 b6 b7 b0 b2
      simp [Leaves, settle, results, Tryz.results39, go_sem, k1, k2]
      exact k3
    · have dc : ((c.toNat : Int) != 0) = true := by simpa using hc
      clear hc
      have T2' := Lib.hid T2
      clear T2
      go_enter_defers Tryz.func39, Tryz.ntmps39
      go_wp2_with (first
        | (go_at_call 61; refine T'.out.mono ?_; rintro e w' ⟨rfl, hp, hk⟩
           have hA := (At.start w k l (decide (100000 < l.length))).kp hk
           have a0 := hA.c0
           have a1 := hA.f0
           have hp' := Aside0.mk (show PS (w.heap.size + 2) k (w'.setCell ⟨w.heap.size, 0, none⟩ (.string (B v))) l' o' from (Below.heap_setCell _ _ _ _ (by simp)).trans hp)
           have hA' := Aside0.mk (hA.set0 (B v)))
        | (go_at_call 62; refine (T2'.out _ hp'.out hA'.out).mono ?_; rintro e w2 ⟨rfl, hp2, hA2⟩
           have b0 : w2.cell? ⟨w.heap.size + 1 + 1, 0, none⟩ = some (.string (B (c :: t))) := hp2.cell0
           have b2 : w2.cell? ⟨w.heap.size + 1 + 1, 2, none⟩ = some (.bool o') := hp2.cell2
           have b4 := hA2.c0
           have b5 := hA2.f0
           have b6 := hA2.c1
           have b7 := hA2.f1
           have hF := Aside0.mk ((hA2.set0 ⟨#[]⟩).set1 4)
           clear hA2 hp2))
      refine leaves_cons (f := 60) (args := #[.pointer (some ⟨w.heap.size, 0, none⟩), .pointer (some ⟨w.heap.size + 1, 0, none⟩)]) (by simp) (by simp [go_sem]) ?_
      refine (catch_idle _ _ _).mono ?_
      rintro e u' w'' ⟨rfl, rfl, rfl⟩
      have k1 := hF.out.c0
      have k2 := hF.out.c1
      have k3 := hF.out.below
      clear hF b4 b5 b6 b7 b0 b2
      simp [Leaves, settle, results, Tryz.results39, go_sem, k1, k2]
      exact k3

end Go.Proofs.YthiehmogphknlaaGreatDoor.Parse
namespace Go.Proofs.YthiehmogphknlaaGreatDoor.G
open Go.RowKit Go.Proofs.YthiehmogphknlaaGreatDoor.Parse Go.Proofs.YthiehmogphknlaaGreatDoor.Pure1 Go.Proofs.YthiehmogphknlaaGreatDoorW.PrintWords

/-- word.Parse: rounds enough for the text's length. -/
def word_Parse.f (a0 : Int) (a1 : ByteArray) : Option (ByteArray × Int) :=
  if a1.size ≤ 140737488355328 then (parseN (a1.size + 2) a0 (L a1)).map (fun p => (Pure1.B p.1, p.2)) else none

theorem word_Parse.calls (a0 : Int) (a1 r1 : ByteArray) (r2 : Int) (w : World) (h : word_Parse.f a0 a1 = some (r1, r2)) (hG : GL w) :
    Calls Tryz.prog 39 #[.int .i64 a0, .string a1] w fun e w' => e = .returned (.tuple #[.string r1, .int .i64 r2]) ∧ Below w.heap.size w w' := by
  unfold word_Parse.f at h
  split at h
  case isFalse => exact absurd h (by simp)
  rename_i hs
  unfold parseN at h
  split at h
  · rename_i hk
    simp only [Option.map_some, Option.some.injEq, Prod.mk.injEq] at h
    obtain ⟨rfl, rfl⟩ := h
    exact parse_out a0 hk a1 w
  rename_i hk
  have hl : (L a1).length ≤ 140737488355328 := by rw [← size_L]; exact hs
  have S := sum_all a0 (by omega) (by omega) (a1.size + 2) (by omega)
  have T : ∀ r, sumN a0 (a1.size + 2) 0 (L a1) (decide (100000 < (L a1).length)) = some r → _ := fun r hr => S (w.heap.size + 2) (W3 w a0 (L a1) (decide (100000 < (L a1).length))) (L a1) (decide (100000 < (L a1).length)) 0 r (by omega) (by omega) hl (fun ho => by simpa using ho) (W3_PS w a0 (L a1) _) ⟨w, hG, W3_below w a0 (L a1) _, by omega⟩ hr
  show Calls Tryz.prog 39 #[.int .i64 a0, .string (Pure1.B (L a1))] w _
  cases hr : sumN a0 (a1.size + 2) 0 (L a1) (decide (100000 < (L a1).length)) with
  | none => rw [hr] at h; exact absurd h (by simp)
  | some r =>
    have T' := T r hr
    rw [hr] at h
    cases r with
    | none =>
      simp only [Option.map_some, Option.some.injEq, Prod.mk.injEq] at h
      obtain ⟨rfl, rfl⟩ := h
      exact parse_none a0 (by omega) (by omega) (L a1) w T'
    | some r =>
      obtain ⟨v, l', o'⟩ := r
      refine (parse_some a0 (by omega) (by omega) (L a1) w v l' o' T').mono ?_
      rintro e w' ⟨rfl, hb⟩
      refine ⟨?_, hb⟩
      dsimp only at h
      split at h
      · rename_i h1
        rw [if_pos h1]
        simp only [Option.map_some, Option.some.injEq, Prod.mk.injEq] at h
        obtain ⟨rfl, rfl⟩ := h
        rfl
      · rename_i h1
        rw [if_neg h1]
        split at h
        · rename_i h2
          rw [if_pos h2]
          simp only [Option.map_some, Option.some.injEq, Prod.mk.injEq] at h
          obtain ⟨rfl, rfl⟩ := h
          rfl
        · rename_i h2
          rw [if_neg h2]
          simp only [Option.map_some, Option.some.injEq, Prod.mk.injEq] at h
          obtain ⟨rfl, rfl⟩ := h
          rfl

end Go.Proofs.YthiehmogphknlaaGreatDoor.G
