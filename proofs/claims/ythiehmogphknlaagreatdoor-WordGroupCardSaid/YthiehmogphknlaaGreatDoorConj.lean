/- word.Conjugate: the walk. -/
import Derived.Test.YthiehmogphknlaaGreatDoorRot
import Derived.Test.YthiehmogphknlaaGreatDoorForm
namespace Go.Proofs.YthiehmogphknlaaGreatDoor.Rot
open Go.RowKit Go.Shelf Go.Proofs.YthiehmogphknlaaGreatDoor.G Go.Proofs.YthiehmogphknlaaGreatDoor.PA Go.Proofs.YthiehmogphknlaaGreatDoorW.PrintWords Go.Proofs.YthiehmogphknlaaGreatDoor.Free Go.Proofs.YthiehmogphknlaaGreatDoor.Pure1

/-- The two results' cells. -/
structure Two (w W : World) (x : ByteArray) (y : Bool) : Prop where
  h0 : W.heap[w.heap.size]? = some (.cells #[.string x] 9 (0, 0))
  h1 : W.heap[w.heap.size + 1]? = some (.cells #[.bool y] 4 (0, 0))
  size : w.heap.size + 2 ≤ W.heap.size
  below : Below w.heap.size w W
theorem Two.start (w : World) : Two w ((w.alloc (.cells #[.string ⟨#[]⟩] 9)).alloc (.cells #[.bool false] 4)) ⟨#[]⟩ false := by
  have e : w.heap.size + 1 = (w.alloc (.cells #[.string ⟨#[]⟩] 9)).heap.size := by simp
  refine ⟨(Below.heap_alloc _ _ _ (by simp)).trans (Go.Deep.blk_alloc_new _ _), ?_, by simp, ((Below.refl _ _).alloc (Nat.le_refl _) _).alloc (by simp) _⟩
  rw [e]
  exact Go.Deep.blk_alloc_new _ _
theorem Two.later {w W W1 : World} {x : ByteArray} {y : Bool} (h : Two w W x y) (hb : Below W.heap.size W W1) : Two w W1 x y :=
  ⟨(hb.block _ (by have := h.size; omega)).trans h.h0, (hb.block _ (by have := h.size; omega)).trans h.h1, Nat.le_trans h.size hb.size, h.below.trans (hb.mono (by have := h.size; omega))⟩
theorem Two.set0 {w W : World} {x : ByteArray} {y : Bool} (h : Two w W x y) (x' : ByteArray) : Two w (W.setCell ⟨w.heap.size, 0, none⟩ (.string x')) x' y :=
  ⟨blk_set h.h0 0 _, (Below.heap_setCell _ _ _ _ (by simp)).trans h.h1, by have := h.size; simpa [World.setCell] using this, h.below.setCell (p := ⟨w.heap.size, 0, none⟩) (Nat.le_refl _) _⟩
theorem Two.set1 {w W : World} {x : ByteArray} {y : Bool} (h : Two w W x y) (y' : Bool) : Two w (W.setCell ⟨w.heap.size + 1, 0, none⟩ (.bool y')) x y' :=
  ⟨(Below.heap_setCell _ _ _ _ (by simp)).trans h.h0, blk_set h.h1 0 _, by have := h.size; simpa [World.setCell] using this, h.below.setCell (p := ⟨w.heap.size + 1, 0, none⟩) (Nat.le_succ _) _⟩
theorem Two.c0 {w W : World} {x : ByteArray} {y : Bool} (h : Two w W x y) : W.cell? ⟨w.heap.size, 0, none⟩ = some (.string x) := (blk_cell h.h0 0).trans rfl
theorem Two.c1 {w W : World} {x : ByteArray} {y : Bool} (h : Two w W x y) : W.cell? ⟨w.heap.size + 1, 0, none⟩ = some (.bool y) := (blk_cell h.h1 0).trans rfl
theorem Two.f0 {w W : World} {x : ByteArray} {y : Bool} (h : Two w W x y) : W.frozen? ⟨w.heap.size, 0, none⟩ = false := blk_frozen h.h0 0
theorem Two.f1 {w W : World} {x : ByteArray} {y : Bool} (h : Two w W x y) : W.frozen? ⟨w.heap.size + 1, 0, none⟩ = false := blk_frozen h.h1 0

/-- What is() answers, beside the results' cells. -/
theorem is_two (s : ByteArray) (hs : s.size ≤ 9223372036854775807) (w : World) (hG : GL w) (W : World) (x : ByteArray) (y : Bool) (h : Two w W x y) :
    Calls Tryz.prog 45 #[.string s] W fun e w' => e = .returned (.bool (decide (Wd s))) ∧ Two w w' x y :=
  (is_any s hs _ (hG.step h.below)).mono fun _ _ ⟨a, b⟩ => ⟨a, h.later b⟩

set_option maxHeartbeats 4000000 in
set_option maxRecDepth 100000 in
theorem conj_no1 (u v : ByteArray) (hu : u.size ≤ 9223372036854775807) (h : ¬ Wd u) (w : World) (hG : GL w) :
    Calls Tryz.prog 35 #[.string u, .string v] w fun e w' => e = .returned (.tuple #[.string ⟨#[]⟩, .bool false]) ∧ Below w.heap.size w w' := by
  have C := is_two u hu w hG _ _ _ (Two.start w)
  rw [decide_eq_false h] at C
  have C' := Aside0.mk C
  clear C h
  go_enter Tryz.func35, Tryz.ntmps35
  go_wp2_with (go_at_call 45; refine C'.out.mono ?_; rintro e w1 ⟨rfl, hT⟩
               have b4 := hT.c0
               have b5 := hT.f0
               have b6 := hT.c1
               have b7 := hT.f1
               have hF := Aside0.mk ((hT.set0 ⟨#[]⟩).set1 false))
  have k1 := hF.out.c0
  have k2 := hF.out.c1
  have k3 := hF.out.below
  clear hF b4 b5 b6 b7 hT
  simp [bodyPost, results, Tryz.results35, go_sem, k1, k2]
  exact k3

set_option maxHeartbeats 4000000 in
set_option maxRecDepth 100000 in
theorem conj_no2 (u v : ByteArray) (hu : u.size ≤ 9223372036854775807) (hv : v.size ≤ 9223372036854775807) (h : Wd u) (h' : ¬ Wd v) (w : World) (hG : GL w) :
    Calls Tryz.prog 35 #[.string u, .string v] w fun e w' => e = .returned (.tuple #[.string ⟨#[]⟩, .bool false]) ∧ Below w.heap.size w w' := by
  have C := is_two u hu w hG _ _ _ (Two.start w)
  have D : ∀ W, Two w W ⟨#[]⟩ false → _ := fun W => is_two v hv w hG W ⟨#[]⟩ false
  rw [decide_eq_true h] at C
  rw [decide_eq_false h'] at D
  have C' := Aside0.mk C
  have D' := Aside0.mk D
  clear C D h h'
  go_enter Tryz.func35, Tryz.ntmps35
  go_wp2_with (first
    | (go_at_call 45; with_reducible refine C'.out.mono ?_; rintro e w1 ⟨rfl, hT⟩; clear C')
    | (go_at_call 45; with_reducible refine (D'.out _ hT).mono ?_; rintro e w2 ⟨rfl, hT2⟩
       clear D' hT
       have b4 := hT2.c0
       have b5 := hT2.f0
       have b6 := hT2.c1
       have b7 := hT2.f1
       have hF := Aside0.mk ((hT2.set0 ⟨#[]⟩).set1 false)))
  have k1 := hF.out.c0
  have k2 := hF.out.c1
  have k3 := hF.out.below
  clear hF b4 b5 b6 b7 hT2
  simp [bodyPost, results, Tryz.results35, go_sem, k1, k2]
  exact k3

/-- The words' parts' cells. -/
structure Six (w : World) (q r : Nat) (W : World) (a c b d : ByteArray) : Prop where
  two : Two w W ⟨#[]⟩ false
  h6 : W.heap[q]? = some (.cells #[.string a] 9 (0, 0))
  h7 : W.heap[q + 1]? = some (.cells #[.string c] 9 (0, 0))
  h8 : W.heap[r]? = some (.cells #[.string b] 9 (0, 0))
  h9 : W.heap[r + 1]? = some (.cells #[.string d] 9 (0, 0))
  q0 : w.heap.size + 2 ≤ q
  r0 : q + 2 ≤ r

theorem Six.start {w w2 w3 w4 : World} {a c b d : ByteArray} (h2 : Two w w2 ⟨#[]⟩ false) (h3 : Below w2.heap.size w2 w3)
    (h4 : Below ((w3.alloc (.cells #[.string a] 9)).alloc (.cells #[.string c] 9)).heap.size ((w3.alloc (.cells #[.string a] 9)).alloc (.cells #[.string c] 9)) w4) :
    Six w w3.heap.size w4.heap.size ((w4.alloc (.cells #[.string b] 9)).alloc (.cells #[.string d] 9)) a c b d := by
  have s3 : w3.heap.size + 2 ≤ w4.heap.size := by have := h4.size; simpa using this
  have h3' : Below w3.heap.size w3 w4 := (((Below.refl _ w3).alloc (Nat.le_refl _) _).alloc (by simp) _).trans (h4.mono (by simp; omega))
  have h4' : Below w4.heap.size w4 ((w4.alloc (.cells #[.string b] 9)).alloc (.cells #[.string d] 9)) := ((Below.refl _ _).alloc (Nat.le_refl _) _).alloc (by simp) _
  have e3 : w3.heap.size + 1 = (w3.alloc (.cells #[.string a] 9)).heap.size := by simp
  have e4 : w4.heap.size + 1 = (w4.alloc (.cells #[.string b] 9)).heap.size := by simp
  refine ⟨((h2.later h3).later h3').later h4', ?_, ?_, ?_, ?_, ?_, s3⟩
  · refine (h4'.block _ (by omega)).trans ((h4.block _ (by simp; omega)).trans ?_)
    exact (Below.heap_alloc _ _ _ (by simp)).trans (Go.Deep.blk_alloc_new _ _)
  · refine (h4'.block _ (by omega)).trans ((h4.block _ (by simp)).trans ?_)
    rw [e3]
    exact Go.Deep.blk_alloc_new _ _
  · exact (Below.heap_alloc _ _ _ (by simp)).trans (Go.Deep.blk_alloc_new _ _)
  · rw [e4]
    exact Go.Deep.blk_alloc_new _ _
  · exact Nat.le_trans h2.size h3.size
theorem Six.c6 {w W : World} {q r : Nat} {a c b d : ByteArray} (h : Six w q r W a c b d) : W.cell? ⟨q, 0, none⟩ = some (.string a) := (blk_cell h.h6 0).trans rfl
theorem Six.c7 {w W : World} {q r : Nat} {a c b d : ByteArray} (h : Six w q r W a c b d) : W.cell? ⟨q + 1, 0, none⟩ = some (.string c) := (blk_cell h.h7 0).trans rfl
theorem Six.c8 {w W : World} {q r : Nat} {a c b d : ByteArray} (h : Six w q r W a c b d) : W.cell? ⟨r, 0, none⟩ = some (.string b) := (blk_cell h.h8 0).trans rfl
theorem Six.c9 {w W : World} {q r : Nat} {a c b d : ByteArray} (h : Six w q r W a c b d) : W.cell? ⟨r + 1, 0, none⟩ = some (.string d) := (blk_cell h.h9 0).trans rfl
theorem Six.drewN {w W : World} {q r : Nat} {a c b d : ByteArray} (h : Six w q r W a c b d) (n : Nat) : Six w q r (W.drewN n) a c b d :=
  ⟨⟨h.two.h0, h.two.h1, h.two.size, ⟨h.two.below.os, h.two.below.tape, h.two.below.output, h.two.below.size, h.two.below.block⟩⟩, h.h6, h.h7, h.h8, h.h9, h.q0, h.r0⟩

set_option maxHeartbeats 4000000 in
set_option maxRecDepth 100000 in
theorem conj_len (u v : ByteArray) (hu : u.size ≤ 9223372036854775807) (hv : v.size ≤ 9223372036854775807) (h : Wd u) (h' : Wd v) (a c b d : ByteArray) (w : World) (hG : GL w)
    (A : ∀ W, Calls Tryz.prog 53 #[.string u] W fun e w' => e = .returned (.tuple #[.string a, .string c]) ∧ Below W.heap.size W w')
    (A' : ∀ W, Calls Tryz.prog 53 #[.string v] W fun e w' => e = .returned (.tuple #[.string b, .string d]) ∧ Below W.heap.size W w')
    (hab : ((a.size : Int) != (b.size : Int)) = true) :
    Calls Tryz.prog 35 #[.string u, .string v] w fun e w' => e = .returned (.tuple #[.string ⟨#[]⟩, .bool false]) ∧ Below w.heap.size w w' := by
  have C := is_two u hu w hG _ _ _ (Two.start w)
  have D : ∀ W, Two w W ⟨#[]⟩ false → _ := fun W => is_two v hv w hG W ⟨#[]⟩ false
  rw [decide_eq_true h] at C
  rw [decide_eq_true h'] at D
  have C' := Aside0.mk C
  have D' := Aside0.mk D
  have AA := Aside0.mk A
  have AA' := Aside0.mk A'
  clear C D h h' A A'
  go_enter Tryz.func35, Tryz.ntmps35
  go_wp2_with (first
    | (go_at_call 45; with_reducible refine C'.out.mono ?_; rintro e w1 ⟨rfl, hT⟩; clear C')
    | (go_at_call 45; with_reducible refine (D'.out _ hT).mono ?_; rintro e w2 ⟨rfl, hT2⟩; clear D' hT)
    | (go_at_call 53; with_reducible refine (AA.out _).mono ?_; rintro e w3 ⟨rfl, hT3⟩; clear AA)
    | (go_at_call 53; with_reducible refine (AA'.out _).mono ?_; rintro e w4 ⟨rfl, hT4⟩; clear AA'))
  have hS := Six.start (b := b) (d := d) hT2 hT3 hT4
  clear hT2 hT3 hT4
  revert hS
  generalize ((w4.alloc (Obj.cells #[Value.string b] 9)).alloc (Obj.cells #[Value.string d] 9)) = W
  generalize w3.heap.size = q
  generalize w4.heap.size = r
  clear w4 w3 w2
  intro hS
  have c6 := hS.c6
  have c8 := hS.c8
  have b4 := hS.two.c0
  have b5 := hS.two.f0
  have b6 := hS.two.c1
  have b7 := hS.two.f1
  have KK := Aside0.mk (fun n => ((hS.drewN n).two.set0 ⟨#[]⟩).set1 false)
  go_quiet (fail)
  try go_wp2
  have k1 := fun n => (KK.out n).c0
  have k2 := fun n => (KK.out n).c1
  have k3 := fun n => (KK.out n).below
  clear KK b4 b5 b6 b7 c6 c8 hS
  simp [bodyPost, results, Tryz.results35, go_sem, k1, k2]
  exact k3 _

set_option maxHeartbeats 4000000 in
set_option maxRecDepth 100000 in
theorem conj_form (u v : ByteArray) (hu : u.size ≤ 9223372036854775807) (hv : v.size ≤ 9223372036854775807) (h : Wd u) (h' : Wd v) (a c b d : ByteArray) (w : World) (hG : GL w)
    (A : ∀ W, Calls Tryz.prog 53 #[.string u] W fun e w' => e = .returned (.tuple #[.string a, .string c]) ∧ Below W.heap.size W w')
    (A' : ∀ W, Calls Tryz.prog 53 #[.string v] W fun e w' => e = .returned (.tuple #[.string b, .string d]) ∧ Below W.heap.size W w')
    (hab : ((a.size : Int) != (b.size : Int)) = false) (x y : ByteArray)
    (Fa : ∀ W, GL W → Calls Tryz.prog 55 #[.string a] W fun e w' => e = .returned (.string x) ∧ Drawn0 W w')
    (Fb : ∀ W, GL W → Calls Tryz.prog 55 #[.string b] W fun e w' => e = .returned (.string y) ∧ Drawn0 W w')
    (hxy : (!x.toList == y.toList) = true) :
    Calls Tryz.prog 35 #[.string u, .string v] w fun e w' => e = .returned (.tuple #[.string ⟨#[]⟩, .bool false]) ∧ Below w.heap.size w w' := by
  have C := is_two u hu w hG _ _ _ (Two.start w)
  have D : ∀ W, Two w W ⟨#[]⟩ false → _ := fun W => is_two v hv w hG W ⟨#[]⟩ false
  rw [decide_eq_true h] at C
  rw [decide_eq_true h'] at D
  have C' := Aside0.mk C
  have D' := Aside0.mk D
  have AA := Aside0.mk A
  have AA' := Aside0.mk A'
  clear C D h h' A A'
  have FA := Aside0.mk Fa
  have FB := Aside0.mk Fb
  clear Fa Fb
  go_enter Tryz.func35, Tryz.ntmps35
  go_wp2_with (first
    | (go_at_call 45; with_reducible refine C'.out.mono ?_; rintro e w1 ⟨rfl, hT⟩; clear C')
    | (go_at_call 45; with_reducible refine (D'.out _ hT).mono ?_; rintro e w2 ⟨rfl, hT2⟩; clear D' hT)
    | (go_at_call 53; with_reducible refine (AA.out _).mono ?_; rintro e w3 ⟨rfl, hT3⟩; clear AA)
    | (go_at_call 53; with_reducible refine (AA'.out _).mono ?_; rintro e w4 ⟨rfl, hT4⟩; clear AA'))
  have hS := Six.start (b := b) (d := d) hT2 hT3 hT4
  clear hT2 hT3 hT4
  revert hS
  generalize ((w4.alloc (Obj.cells #[Value.string b] 9)).alloc (Obj.cells #[Value.string d] 9)) = W
  generalize w3.heap.size = q
  generalize w4.heap.size = r
  clear w4 w3 w2
  intro hS
  have c6 := hS.c6
  have c8 := hS.c8
  have b4 := hS.two.c0
  have b5 := hS.two.f0
  have b6 := hS.two.c1
  have b7 := hS.two.f1
  have KK := Aside0.mk (fun n => ((hS.drewN n).two.set0 ⟨#[]⟩).set1 false)
  have hGW := Aside0.mk (hG.step hS.two.below)
  go_quiet (first
    | (go_at_call 55; with_reducible refine (FA.out _ (by first | exact hGW.out | exact GL.drawn hGW.out (by repeat (first | exact Drawn0.refl _ | apply Drawn0.step)))).mono ?_; rintro e w' ⟨rfl, ⟨nd, rfl⟩⟩; (try first | exact ⟨rfl, _, World.drewN_drewN _ _ _⟩ | exact ⟨rfl, _, Eq.trans (World.drewN_drewN _ _ _) (congrArg (World.drewN _) (Nat.add_assoc _ _ _))⟩))
    | (go_at_call 55; with_reducible refine (FB.out _ (by first | exact hGW.out | exact GL.drawn hGW.out (by repeat (first | exact Drawn0.refl _ | apply Drawn0.step)))).mono ?_; rintro e w' ⟨rfl, ⟨nd, rfl⟩⟩; (try first | exact ⟨rfl, _, World.drewN_drewN _ _ _⟩ | exact ⟨rfl, _, Eq.trans (World.drewN_drewN _ _ _) (congrArg (World.drewN _) (Nat.add_assoc _ _ _))⟩)))
  try go_wp2
  have k1 := fun n => (KK.out n).c0
  have k2 := fun n => (KK.out n).c1
  have k3 := fun n => (KK.out n).below
  clear KK b4 b5 b6 b7 c6 c8 hS
  simp [bodyPost, results, Tryz.results35, go_sem, k1, k2]
  exact k3 _

set_option maxHeartbeats 4000000 in
set_option maxRecDepth 100000 in
theorem conj_nil (u v : ByteArray) (hu : u.size ≤ 9223372036854775807) (hv : v.size ≤ 9223372036854775807) (h : Wd u) (h' : Wd v) (a c b d : ByteArray) (w : World) (hG : GL w)
    (A : ∀ W, Calls Tryz.prog 53 #[.string u] W fun e w' => e = .returned (.tuple #[.string a, .string c]) ∧ Below W.heap.size W w')
    (A' : ∀ W, Calls Tryz.prog 53 #[.string v] W fun e w' => e = .returned (.tuple #[.string b, .string d]) ∧ Below W.heap.size W w')
    (hab : ((a.size : Int) != (b.size : Int)) = false) (x y : ByteArray)
    (Fa : ∀ W, GL W → Calls Tryz.prog 55 #[.string a] W fun e w' => e = .returned (.string x) ∧ Drawn0 W w')
    (Fb : ∀ W, GL W → Calls Tryz.prog 55 #[.string b] W fun e w' => e = .returned (.string y) ∧ Drawn0 W w')
    (hxy : (!x.toList == y.toList) = false) (ha : a.toList.isEmpty = true) :
    Calls Tryz.prog 35 #[.string u, .string v] w fun e w' => e = .returned (.tuple #[.string ⟨#[]⟩, .bool true]) ∧ Below w.heap.size w w' := by
  have C := is_two u hu w hG _ _ _ (Two.start w)
  have D : ∀ W, Two w W ⟨#[]⟩ false → _ := fun W => is_two v hv w hG W ⟨#[]⟩ false
  rw [decide_eq_true h] at C
  rw [decide_eq_true h'] at D
  have C' := Aside0.mk C
  have D' := Aside0.mk D
  have AA := Aside0.mk A
  have AA' := Aside0.mk A'
  clear C D h h' A A'
  have FA := Aside0.mk Fa
  have FB := Aside0.mk Fb
  clear Fa Fb
  go_enter Tryz.func35, Tryz.ntmps35
  go_wp2_with (first
    | (go_at_call 45; with_reducible refine C'.out.mono ?_; rintro e w1 ⟨rfl, hT⟩; clear C')
    | (go_at_call 45; with_reducible refine (D'.out _ hT).mono ?_; rintro e w2 ⟨rfl, hT2⟩; clear D' hT)
    | (go_at_call 53; with_reducible refine (AA.out _).mono ?_; rintro e w3 ⟨rfl, hT3⟩; clear AA)
    | (go_at_call 53; with_reducible refine (AA'.out _).mono ?_; rintro e w4 ⟨rfl, hT4⟩; clear AA'))
  have hS := Six.start (b := b) (d := d) hT2 hT3 hT4
  clear hT2 hT3 hT4
  revert hS
  generalize ((w4.alloc (Obj.cells #[Value.string b] 9)).alloc (Obj.cells #[Value.string d] 9)) = W
  generalize w3.heap.size = q
  generalize w4.heap.size = r
  clear w4 w3 w2
  intro hS
  have c6 := hS.c6
  have c8 := hS.c8
  have b4 := hS.two.c0
  have b5 := hS.two.f0
  have b6 := hS.two.c1
  have b7 := hS.two.f1
  have KK := Aside0.mk (fun n => ((hS.drewN n).two.set0 ⟨#[]⟩).set1 true)
  have hGW := Aside0.mk (hG.step hS.two.below)
  go_quiet (first
    | (go_at_call 55; with_reducible refine (FA.out _ (by first | exact hGW.out | exact GL.drawn hGW.out (by repeat (first | exact Drawn0.refl _ | apply Drawn0.step)))).mono ?_; rintro e w' ⟨rfl, ⟨nd, rfl⟩⟩; (try first | exact ⟨rfl, _, World.drewN_drewN _ _ _⟩ | exact ⟨rfl, _, Eq.trans (World.drewN_drewN _ _ _) (congrArg (World.drewN _) (Nat.add_assoc _ _ _))⟩))
    | (go_at_call 55; with_reducible refine (FB.out _ (by first | exact hGW.out | exact GL.drawn hGW.out (by repeat (first | exact Drawn0.refl _ | apply Drawn0.step)))).mono ?_; rintro e w' ⟨rfl, ⟨nd, rfl⟩⟩; (try first | exact ⟨rfl, _, World.drewN_drewN _ _ _⟩ | exact ⟨rfl, _, Eq.trans (World.drewN_drewN _ _ _) (congrArg (World.drewN _) (Nat.add_assoc _ _ _))⟩)))
  try go_wp2
  have k1 := fun n => (KK.out n).c0
  have k2 := fun n => (KK.out n).c1
  have k3 := fun n => (KK.out n).below
  clear KK b4 b5 b6 b7 c6 c8 hS
  simp [bodyPost, results, Tryz.results35, go_sem, k1, k2]
  exact k3 _

end Go.Proofs.YthiehmogphknlaaGreatDoor.Rot
