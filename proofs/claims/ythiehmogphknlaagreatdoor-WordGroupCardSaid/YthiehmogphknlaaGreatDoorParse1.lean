/- The parser's small methods: next, accept, expect, fits, deeper. -/
import Derived.Test.YthiehmogphknlaaGreatDoorParseDef
import Derived.Lib.Hide
import Derived.WideLaws
import Derived.WalkLawsBesides
namespace Go.Proofs.YthiehmogphknlaaGreatDoor.Parse
open Go.RowKit Go.Proofs.YthiehmogphknlaaGreatDoor.G Go.Proofs.YthiehmogphknlaaGreatDoor.PA Go.Proofs.YthiehmogphknlaaGreatDoorW.PrintWords Go.Proofs.YthiehmogphknlaaGreatDoor.Free Go.Proofs.YthiehmogphknlaaGreatDoor.Pure1

/-- The parser's variable: the text that is left, the generators, is some limit exceeded. -/
def PS (g : Nat) (k : Int) (w : World) (l : List UInt8) (o : Bool) : Prop := w.heap[g]? = some (.cells #[.string (B l), .int .i64 k, .bool o] 76 (0, 0))
/-- All blocks but g are as they were. -/
structure Kp (g : Nat) (w w' : World) : Prop where
  os : w'.os = w.os
  tape : w'.tape = w.tape
  output : w'.output = w.output
  size : w.heap.size ≤ w'.heap.size
  block : ∀ i, i < w.heap.size → i ≠ g → w'.heap[i]? = w.heap[i]?
theorem Kp.refl (g : Nat) (w : World) : Kp g w w := ⟨rfl, rfl, rfl, Nat.le_refl _, fun _ _ _ => rfl⟩
theorem Kp.trans {g : Nat} {a b c : World} (h : Kp g a b) (k : Kp g b c) : Kp g a c :=
  ⟨k.os.trans h.os, k.tape.trans h.tape, k.output.trans h.output, Nat.le_trans h.size k.size, fun i hi hg => (k.block i (Nat.lt_of_lt_of_le hi h.size) hg).trans (h.block i hi hg)⟩
theorem Kp.of_below {g : Nat} {a b : World} (h : Below a.heap.size a b) : Kp g a b := ⟨h.os, h.tape, h.output, h.size, fun i hi _ => h.block i hi⟩
theorem Kp.below {g B : Nat} {a b : World} (h : Kp g a b) (hg : B ≤ g) (hB : B ≤ a.heap.size) : Below B a b := ⟨h.os, h.tape, h.output, h.size, fun i hi => h.block i (by omega) (by omega)⟩
theorem Kp.store {g : Nat} {a b : World} (h : Kp g a b) (i : Nat) (v : Value) : Kp g a (b.setCell ⟨g, i, none⟩ v) :=
  h.trans ⟨rfl, rfl, rfl, by simp [World.setCell], fun k _ hk => Below.heap_setCell b _ _ k hk⟩
theorem Kp.alloc {g : Nat} {a b : World} (h : Kp g a b) (o : Obj) : Kp g a (b.alloc o) := h.trans (Kp.of_below ((Below.refl _ _).alloc (Nat.le_refl _) o))
theorem Kp.drewN {g : Nat} {a b : World} (h : Kp g a b) (n : Nat) : Kp g a (b.drewN n) := ⟨h.os, h.tape, h.output, h.size, h.block⟩
theorem Kp.keep {g : Nat} {a b : World} (h : Kp g a b) : KeepBut a b g none := ⟨h.size, fun i hi hg _ => h.block i hi hg⟩
theorem PS.cell0 {g : Nat} {k : Int} {w : World} {l : List UInt8} {o : Bool} (h : PS g k w l o) : w.cell? ⟨g, 0, none⟩ = some (.string (B l)) := (blk_cell h 0).trans rfl
theorem PS.cell1 {g : Nat} {k : Int} {w : World} {l : List UInt8} {o : Bool} (h : PS g k w l o) : w.cell? ⟨g, 1, none⟩ = some (.int .i64 k) := (blk_cell h 1).trans rfl
theorem PS.cell2 {g : Nat} {k : Int} {w : World} {l : List UInt8} {o : Bool} (h : PS g k w l o) : w.cell? ⟨g, 2, none⟩ = some (.bool o) := (blk_cell h 2).trans rfl
theorem PS.free {g : Nat} {k : Int} {w : World} {l : List UInt8} {o : Bool} (h : PS g k w l o) (i : Nat) : w.frozen? ⟨g, i, none⟩ = false := blk_frozen h i
theorem PS.text {g : Nat} {k : Int} {w : World} {l : List UInt8} {o : Bool} (h : PS g k w l o) (l' : List UInt8) : PS g k (w.setCell ⟨g, 0, none⟩ (.string (B l'))) l' o := blk_set h 0 _
theorem PS.over {g : Nat} {k : Int} {w : World} {l : List UInt8} {o : Bool} (h : PS g k w l o) (o' : Bool) : PS g k (w.setCell ⟨g, 2, none⟩ (.bool o')) l o' := blk_set h 2 _
theorem PS.later {g : Nat} {k : Int} {w w' : World} {l : List UInt8} {o : Bool} (h : PS g k w l o) (hb : Below w.heap.size w w') : PS g k w' l o := (hb.block g (blk_lt h)).trans h
theorem PS.lt {g : Nat} {k : Int} {w : World} {l : List UInt8} {o : Bool} (h : PS g k w l o) : g < w.heap.size := blk_lt h

theorem trim_any (l : List UInt8) (w : World) : Calls Tryz.prog 76 #[.string (B l), .string ⟨#[32]⟩] w fun e w' => e = .returned (.string (B (trimL l))) ∧ w' = w :=
  Tryz.strings_TrimLeft_one (B l) 32 (by decide) w
theorem trim_trim (l : List UInt8) : trimL (trimL l) = trimL l := by
  unfold trimL Lib.trimLeftB
  induction l with
  | nil => rfl
  | cons c t ih =>
    by_cases hc : (c == 32) = true
    · rw [List.dropWhile_cons_of_pos (p := fun x => x == 32) hc]; exact ih
    · rw [List.dropWhile_cons_of_neg (p := fun x => x == 32) hc, List.dropWhile_cons_of_neg (p := fun x => x == 32) hc]

theorem empty_nil : (B []).toList.isEmpty = true := by rw [toList_L, L_B]; rfl
theorem empty_cons (c : UInt8) (t : List UInt8) : (B (c :: t)).toList.isEmpty = false := by rw [toList_L, L_B]; rfl
theorem get_cons (c : UInt8) (t : List UInt8) : ∀ h : 0 < (B (c :: t)).size, (((B (c :: t))[0]'h).toNat : Int) = (c.toNat : Int) := fun _ => rfl
theorem size_cons (c : UInt8) (t : List UInt8) : 0 < (B (c :: t)).size := by rw [size_B]; simp

set_option maxHeartbeats 1000000 in
set_option maxRecDepth 100000 in
theorem next_any (g : Nat) (k : Int) (w : World) (l : List UInt8) (o : Bool) (h : PS g k w l o) :
    Calls Tryz.prog 62 #[.pointer (some ⟨g, 0, none⟩)] w fun e w' => e = .returned (.int .u8 (hdC (trimL l))) ∧ PS g k w' (trimL l) o ∧ Kp g w w' := by
  have hc := h.cell0
  have hf := h.free 0
  have h2 := h.text (trimL l)
  have hk := (Kp.refl g w).store 0 (.string (B (trimL l)))
  have H2 := Aside0.mk (And.intro h2 hk)
  have hc2 := h2.cell0
  clear h h2 hk
  have T := Lib.hid (trim_any l)
  cases ht : trimL l with
  | nil =>
    have he := empty_nil
    simp only [ht] at T
    rw [ht] at H2 hc2
    clear ht
    go_enter Tryz.func62, Tryz.ntmps62
    go_wp2_with (go_at_call 76; refine (T.out _).mono ?_; rintro e w' ⟨rfl, rfl⟩)
    go_ret
    exact ⟨rfl, H2.out⟩
  | cons c t =>
    have he := empty_cons c t
    have hx := get_cons c t
    have hz := size_cons c t
    simp only [ht] at T
    rw [ht] at H2 hc2
    clear ht
    go_enter Tryz.func62, Tryz.ntmps62
    go_wp2_with (go_at_call 76; refine (T.out _).mono ?_; rintro e w' ⟨rfl, rfl⟩)
    go_ret
    exact ⟨rfl, H2.out⟩

theorem extract_tail (c : UInt8) (t : List UInt8) : (B (c :: t)).extract 1 (B (c :: t)).size = B t := by
  rw [extract_L, L_B, size_B]
  simp
theorem hdC_range (l : List UInt8) : 0 ≤ hdC l ∧ hdC l ≤ 255 := by
  cases l with
  | nil => exact ⟨by decide, by decide⟩
  | cons c t => show 0 ≤ (c.toNat : Int) ∧ (c.toNat : Int) ≤ 255; have := c.toNat_lt; omega

/-- accept, plainly: is it there, and what is left. -/
def acceptP (c : Int) (l : List UInt8) : Bool × List UInt8 := if hdC (trimL l) ≠ c ∨ c = 0 then (false, trimL l) else (true, (trimL l).tail)
set_option maxHeartbeats 1000000 in
set_option maxRecDepth 100000 in
theorem accept_any (g : Nat) (k : Int) (w : World) (l : List UInt8) (o : Bool) (c : Int) (h : PS g k w l o) :
    Calls Tryz.prog 87 #[.pointer (some ⟨g, 0, none⟩), .int .u8 c] w fun e w' => e = .returned (.bool (acceptP c l).1) ∧ PS g k w' (acceptP c l).2 o ∧ Kp g w w' := by
  have T := Lib.hid (next_any g k w l o h)
  unfold acceptP
  clear h
  by_cases h1 : hdC (trimL l) = c
  · subst h1
    by_cases h2 : hdC (trimL l) = 0
    · rw [if_pos (.inr h2)]
      have d1 : (hdC (trimL l) != hdC (trimL l)) = false := by simp
      have d2 : (hdC (trimL l) == 0) = true := beq_iff_eq.mpr h2
      obtain ⟨y, hy⟩ : ∃ y, hdC (trimL l) = y := ⟨_, rfl⟩
      rw [hy] at T d1 d2 ⊢
      clear h2 hy
      go_enter Tryz.func87, Tryz.ntmps87
      go_wp2_with (go_at_call 62; refine T.out.mono ?_; rintro e w' ⟨rfl, hp⟩)
      go_ret
      exact ⟨rfl, hp⟩
    · rw [if_neg (by rintro (h | h); exact h rfl; exact h2 h)]
      have d1 : (hdC (trimL l) != hdC (trimL l)) = false := by simp
      have d2 : (hdC (trimL l) == 0) = false := beq_eq_false_iff_ne.mpr h2
      cases ht : trimL l with
      | nil => rw [ht] at h2; exact absurd rfl h2
      | cons x t =>
        rw [ht] at T d1 d2
        clear h2 ht
        have e1 := extract_tail x t
        have hz : 1 ≤ ((B (x :: t)).size : Int) := by have := size_cons x t; omega
        obtain ⟨y, hy⟩ : ∃ y, hdC (x :: t) = y := ⟨_, rfl⟩
        rw [hy] at T d1 d2 ⊢
        clear hy
        go_enter Tryz.func87, Tryz.ntmps87
        go_wp2_with (go_at_call 62; refine T.out.mono ?_; rintro e w' ⟨rfl, hp, hk⟩; have hc := hp.cell0; have hf := hp.free 0; have H2 := Aside0.mk (And.intro (hp.text t) (hk.store 0 (.string (B t)))); clear hp hk)
        go_ret
        exact ⟨rfl, H2.out⟩
  · rw [if_pos (.inl h1)]
    have d1 : (hdC (trimL l) != c) = true := bne_iff_ne.mpr h1
    obtain ⟨y, hy⟩ : ∃ y, hdC (trimL l) = y := ⟨_, rfl⟩
    rw [hy] at T d1
    clear h1 hy
    go_enter Tryz.func87, Tryz.ntmps87
    go_wp2_with (go_at_call 62; refine T.out.mono ?_; rintro e w' ⟨rfl, hp⟩)
    go_ret
    exact ⟨rfl, hp⟩

/-- What the parser's panic bears. -/
def bad : List PanicEntry := [{ v := .iface 71 (.agg #[.int .i64 4]), recovered := false }]

set_option maxHeartbeats 1000000 in
set_option maxRecDepth 100000 in
theorem expect_any (g : Nat) (k : Int) (w : World) (l : List UInt8) (o : Bool) (c : Int) (h : PS g k w l o) :
    Calls Tryz.prog 102 #[.pointer (some ⟨g, 0, none⟩), .int .u8 c] w fun e w' =>
      match expectP c l with
      | some l' => e = .returned (.tuple #[]) ∧ PS g k w' l' o ∧ Kp g w w'
      | none => e = .panicked bad ∧ Kp g w w' := by
  have T := Lib.hid (accept_any g k w l o c h)
  unfold acceptP at T
  unfold expectP
  clear h
  by_cases h1 : hdC (trimL l) ≠ c ∨ c = 0
  · rw [if_pos h1]
    simp only [if_pos h1] at T
    clear h1
    dsimp only
    go_enter Tryz.func102, Tryz.ntmps102
    go_wp2_with (go_at_call 87; refine T.out.mono ?_; rintro e w' ⟨rfl, hp⟩)
    exact ⟨rfl, rfl, hp.2⟩
  · rw [if_neg h1]
    simp only [if_neg h1] at T
    clear h1
    dsimp only
    go_enter Tryz.func102, Tryz.ntmps102
    go_wp2_with (go_at_call 87; refine T.out.mono ?_; rintro e w' ⟨rfl, hp⟩)
    go_end0
    exact ⟨rfl, hp⟩

set_option maxHeartbeats 1000000 in
set_option maxRecDepth 100000 in
theorem fits_any (g : Nat) (k : Int) (w : World) (l : List UInt8) (o : Bool) (n : Nat) (h : PS g k w l o) :
    Calls Tryz.prog 75 #[.pointer (some ⟨g, 0, none⟩), .int .i64 n] w fun e w' => e = .returned (.bool (!over n o)) ∧ PS g k w' l (over n o) ∧ Kp g w w' := by
  by_cases h1 : 100000 < n
  · have e : over n o = true := by unfold over; rw [decide_eq_true h1, Bool.or_true]
    rw [e]
    have H2 := Aside0.mk (And.intro (h.over true) ((Kp.refl g w).store 2 (.bool true)))
    have hc := h.cell2
    have hf := h.free 2
    clear h e
    go_enter Tryz.func75, Tryz.ntmps75
    go_wp2
    go_ret
    exact ⟨rfl, H2.out⟩
  · have e : over n o = o := by unfold over; rw [decide_eq_false h1, Bool.or_false]
    rw [e]
    have hc := h.cell2
    have H2 := Aside0.mk h
    clear h e
    go_enter Tryz.func75, Tryz.ntmps75
    go_wp2
    go_ret
    exact ⟨rfl, H2.out, Kp.refl g _⟩

set_option maxHeartbeats 1000000 in
set_option maxRecDepth 100000 in
theorem deeper_any (g : Nat) (k : Int) (w : World) (l : List UInt8) (o : Bool) (d : Int) (h0 : 0 ≤ d) (h1 : d ≤ 4611686018427387904) (h : PS g k w l o) :
    Calls Tryz.prog 103 #[.pointer (some ⟨g, 0, none⟩), .int .i64 d] w fun e w' => e = .returned (.int .i64 (d + 1)) ∧ PS g k w' l (o || decide (20 < d)) ∧ Kp g w w' := by
  by_cases h2 : 20 < d
  · rw [decide_eq_true h2, Bool.or_true]
    have H2 := Aside0.mk (And.intro (h.over true) ((Kp.refl g w).store 2 (.bool true)))
    have hc := h.cell2
    have hf := h.free 2
    clear h
    go_enter Tryz.func103, Tryz.ntmps103
    go_wp2
    go_ret
    exact ⟨rfl, H2.out⟩
  · rw [decide_eq_false h2, Bool.or_false]
    have H2 := Aside0.mk h
    clear h
    go_enter Tryz.func103, Tryz.ntmps103
    go_wp2
    go_ret
    exact ⟨rfl, H2.out, Kp.refl g _⟩

end Go.Proofs.YthiehmogphknlaaGreatDoor.Parse
