/- What the parser of package word does, as plain functions on lists of bytes: 'none': the rounds are used up; 'some none': the parser leaves by its panic. The parser's small methods: next, accept, expect, fits, deeper. The parser's exponent. The parser's base, over a reading of what stands in brackets. -/
import Derived.Test.YthiehmogphknlaaGreatDoorPure
import Derived.Lib.TrimByte
import Derived.Lib.Atoi
import Derived.Lib.Hide
import Derived.WideLaws
import Derived.WalkLawsBesides
import Derived.Lib.ConvBytes
namespace Go.Proofs.YthiehmogphknlaaGreatDoor.Parse
open Go.Proofs.YthiehmogphknlaaGreatDoor.G Go.Proofs.YthiehmogphknlaaGreatDoor.Free Go.Proofs.YthiehmogphknlaaGreatDoor.Pure1
abbrev Res (α : Type) := Option (Option (α × List UInt8 × Bool))
def Res.bind {α β : Type} (r : Res α) (f : α → List UInt8 → Bool → Res β) : Res β :=
  match r with | none => none | some none => some none | some (some (a, l, o)) => f a l o
def trimL (l : List UInt8) : List UInt8 := Lib.trimLeftB l 32
/-- The byte ahead; 0 at the end. -/
def hdC (l : List UInt8) : Int := match l with | [] => 0 | c :: _ => (c.toNat : Int)
def digs (l : List UInt8) : List UInt8 := l.takeWhile fun c => decide (48 ≤ c.toNat) && decide (c.toNat ≤ 57)
def over (n : Nat) (o : Bool) : Bool := o || decide (100000 < n)
/-- expect: the byte c (not 0), behind blanks. -/
def expectP (c : Int) (l : List UInt8) : Option (List UInt8) := if hdC (trimL l) ≠ c ∨ c = 0 then none else some (trimL l).tail
/-- exponent. -/
def expoP (l : List UInt8) : Option (Int × List UInt8) :=
  let m := hdC (trimL l) = 45
  let l1 := trimL (if m then (trimL l).tail else trimL l)
  if (digs l1).length < 1 ∨ 6 < (digs l1).length then none
  else some (if m then -(((Lib.atoi (digs l1)).getD 0)) else (Lib.atoi (digs l1)).getD 0, l1.drop (digs l1).length)
def factorP (base : List UInt8 → Bool → Res (List UInt8)) (l : List UInt8) (o : Bool) : Res (List UInt8) :=
  (base l o).bind fun w l o =>
    if hdC (trimL l) ≠ 94 then some (some (w, trimL l, o))
    else match expoP (trimL l).tail with
      | none => some none
      | some (n, l) =>
        if over (w.length * n.natAbs) o = true then some (some ([], l, true))
        else match powL w n with
          | none => some (some ([], l, o))
          | some x => some (some (x, l, o))
/-- base, over the reading of what stands in brackets. -/
def baseP (sum : Int → List UInt8 → Bool → Res (List UInt8)) (k depth : Int) (l : List UInt8) (o : Bool) : Res (List UInt8) :=
  let t := trimL l
  let c := hdC t
  let o1 := o || decide (20 < depth)
  if c = 49 then some (some ([], t.tail, o))
  else if c = 40 then (sum (depth + 1) t.tail o1).bind fun w l o => match expectP 41 l with | none => some none | some l => some (some (w, l, o))
  else if c = 91 then (sum (depth + 1) t.tail o1).bind fun u l o => match expectP 44 l with
    | none => some none
    | some l => (sum (depth + 1) l o).bind fun v l o => match expectP 93 l with
      | none => some none
      | some l =>
        if over (2 * (u.length + v.length)) o = true then some (some ([], l, true))
        else some (some (red (u ++ v ++ inv u ++ inv v), l, o))
  else if c ≠ 0 ∧ 0 ≤ idx c ∧ idx c < 2 * k then some (some (t.take 1, t.tail, o))
  else some none
/-- Does the sum end at this byte? -/
def stopC (c : Int) : Bool := c == 0 || c == 41 || c == 93 || c == 44
def loopP (fac : List UInt8 → Bool → Res (List UInt8)) : Nat → List (List UInt8) → Nat → List UInt8 → Bool → Res (List UInt8)
  | 0, _, _, _, _ => none
  | f + 1, ws, n, l, o =>
    if stopC (hdC l) = true then some (some (red ws.flatten, l, o))
    else (fac l o).bind fun w l o =>
      if over (n + w.length) o = true then loopP fac f [] 0 (trimL l) true
      else loopP fac f (ws ++ [w]) (n + w.length) (trimL l) o
def sumP (fac : List UInt8 → Bool → Res (List UInt8)) (f : Nat) (l : List UInt8) (o : Bool) : Res (List UInt8) :=
  (fac l o).bind fun w l o => loopP fac f [w] w.length (trimL l) o
/-- The whole: so many rounds. -/
def sumN (k : Int) : Nat → Int → List UInt8 → Bool → Res (List UInt8)
  | 0, _, _, _ => none
  | f + 1, depth, l, o => sumP (factorP (baseP (sumN k f) k depth)) f l o
def parseN (f : Nat) (k : Int) (l : List UInt8) : Option (List UInt8 × Int) :=
  if k < 1 ∨ 8 < k then some ([], 1)
  else match sumN k f 0 l (decide (100000 < l.length)) with
    | none => none
    | some none => some ([], 4)
    | some (some (w, l, o)) => if trimL l ≠ [] then some ([], 4) else if o = true then some ([], 2) else some (w, 0)
end Go.Proofs.YthiehmogphknlaaGreatDoor.Parse
namespace Go.Proofs.YthiehmogphknlaaGreatDoor.Parse
open Go.RowKit Go.Proofs.YthiehmogphknlaaGreatDoor.G Go.Proofs.YthiehmogphknlaaGreatDoor.PA Go.Proofs.YthiehmogphknlaaGreatDoorW.PrintWords Go.Proofs.YthiehmogphknlaaGreatDoor.Free Go.Proofs.YthiehmogphknlaaGreatDoor.Pure1
/-- The parser's variable: the text that is left, the generators, is some limit exceeded. -/
def PS (g : Nat) (k : Int) (w : World) (l : List UInt8) (o : Bool) : Prop := w.heap[g]? = some (.cells #[.string (B l), .int .i64 k, .bool o] 76 (0, 0))
/-- All blocks but g are as they were. -/
structure Kp (g : Nat) (w w' : World) : Prop where
  os : w'.os = w.os
  tape : w'.tape = w.tape
  output : w'.output = w.output
  size : w.heap.size ≤ w'.heap.size
  block : ∀ i, i < w.heap.size → i ≠ g → w'.heap[i]? = w.heap[i]?
theorem Kp.refl (g : Nat) (w : World) : Kp g w w := ⟨rfl, rfl, rfl, Nat.le_refl _, fun _ _ _ => rfl⟩
theorem Kp.trans {g : Nat} {a b c : World} (h : Kp g a b) (k : Kp g b c) : Kp g a c :=
  ⟨k.os.trans h.os, k.tape.trans h.tape, k.output.trans h.output, Nat.le_trans h.size k.size, fun i hi hg => (k.block i (Nat.lt_of_lt_of_le hi h.size) hg).trans (h.block i hi hg)⟩
theorem Kp.of_below {g : Nat} {a b : World} (h : Below a.heap.size a b) : Kp g a b := ⟨h.os, h.tape, h.output, h.size, fun i hi _ => h.block i hi⟩
theorem Kp.below {g B : Nat} {a b : World} (h : Kp g a b) (hg : B ≤ g) (hB : B ≤ a.heap.size) : Below B a b := ⟨h.os, h.tape, h.output, h.size, fun i hi => h.block i (by omega) (by omega)⟩
theorem Kp.store {g : Nat} {a b : World} (h : Kp g a b) (i : Nat) (v : Value) : Kp g a (b.setCell ⟨g, i, none⟩ v) :=
  h.trans ⟨rfl, rfl, rfl, by simp [World.setCell], fun k _ hk => Below.heap_setCell b _ _ k hk⟩
theorem Kp.alloc {g : Nat} {a b : World} (h : Kp g a b) (o : Obj) : Kp g a (b.alloc o) := h.trans (Kp.of_below ((Below.refl _ _).alloc (Nat.le_refl _) o))
theorem Kp.drewN {g : Nat} {a b : World} (h : Kp g a b) (n : Nat) : Kp g a (b.drewN n) := ⟨h.os, h.tape, h.output, h.size, h.block⟩
theorem PS.cell0 {g : Nat} {k : Int} {w : World} {l : List UInt8} {o : Bool} (h : PS g k w l o) : w.cell? ⟨g, 0, none⟩ = some (.string (B l)) := (blk_cell h 0).trans rfl
theorem PS.cell1 {g : Nat} {k : Int} {w : World} {l : List UInt8} {o : Bool} (h : PS g k w l o) : w.cell? ⟨g, 1, none⟩ = some (.int .i64 k) := (blk_cell h 1).trans rfl
theorem PS.cell2 {g : Nat} {k : Int} {w : World} {l : List UInt8} {o : Bool} (h : PS g k w l o) : w.cell? ⟨g, 2, none⟩ = some (.bool o) := (blk_cell h 2).trans rfl
theorem PS.free {g : Nat} {k : Int} {w : World} {l : List UInt8} {o : Bool} (h : PS g k w l o) (i : Nat) : w.frozen? ⟨g, i, none⟩ = false := blk_frozen h i
theorem PS.text {g : Nat} {k : Int} {w : World} {l : List UInt8} {o : Bool} (h : PS g k w l o) (l' : List UInt8) : PS g k (w.setCell ⟨g, 0, none⟩ (.string (B l'))) l' o := blk_set h 0 _
theorem PS.over {g : Nat} {k : Int} {w : World} {l : List UInt8} {o : Bool} (h : PS g k w l o) (o' : Bool) : PS g k (w.setCell ⟨g, 2, none⟩ (.bool o')) l o' := blk_set h 2 _
theorem PS.later {g : Nat} {k : Int} {w w' : World} {l : List UInt8} {o : Bool} (h : PS g k w l o) (hb : Below w.heap.size w w') : PS g k w' l o := (hb.block g (blk_lt h)).trans h
theorem PS.lt {g : Nat} {k : Int} {w : World} {l : List UInt8} {o : Bool} (h : PS g k w l o) : g < w.heap.size := blk_lt h
theorem trim_any (l : List UInt8) (w : World) : Calls Tryz.prog 76 #[.string (B l), .string ⟨#[32]⟩] w fun e w' => e = .returned (.string (B (trimL l))) ∧ w' = w :=
  Tryz.strings_TrimLeft_one (B l) 32 (by decide) w
theorem trim_trim (l : List UInt8) : trimL (trimL l) = trimL l := by
  unfold trimL Lib.trimLeftB
  induction l with
  | nil => rfl
  | cons c t ih =>
    by_cases hc : (c == 32) = true
    · rw [List.dropWhile_cons_of_pos (p := fun x => x == 32) hc]; exact ih
    · rw [List.dropWhile_cons_of_neg (p := fun x => x == 32) hc, List.dropWhile_cons_of_neg (p := fun x => x == 32) hc]
theorem empty_nil : (B []).toList.isEmpty = true := by rw [toList_L, L_B]; rfl
theorem empty_cons (c : UInt8) (t : List UInt8) : (B (c :: t)).toList.isEmpty = false := by rw [toList_L, L_B]; rfl
theorem get_cons (c : UInt8) (t : List UInt8) : ∀ h : 0 < (B (c :: t)).size, (((B (c :: t))[0]'h).toNat : Int) = (c.toNat : Int) := fun _ => rfl
theorem size_cons (c : UInt8) (t : List UInt8) : 0 < (B (c :: t)).size := by rw [size_B]; simp
set_option maxHeartbeats 1000000 in
set_option maxRecDepth 100000 in
theorem next_any (g : Nat) (k : Int) (w : World) (l : List UInt8) (o : Bool) (h : PS g k w l o) :
    Calls Tryz.prog 62 #[.pointer (some ⟨g, 0, none⟩)] w fun e w' => e = .returned (.int .u8 (hdC (trimL l))) ∧ PS g k w' (trimL l) o ∧ Kp g w w' := by
  have hc := h.cell0
  have hf := h.free 0
  have h2 := h.text (trimL l)
  have hk := (Kp.refl g w).store 0 (.string (B (trimL l)))
  have H2 := Aside0.mk (And.intro h2 hk)
  have hc2 := h2.cell0
  clear h h2 hk
  have T := Lib.hid (trim_any l)
  cases ht : trimL l with
  | nil =>
    have he := empty_nil
    simp only [ht] at T
    rw [ht] at H2 hc2
    clear ht
    go_enter Tryz.func62, Tryz.ntmps62
    go_wp2_with (go_at_call 76; refine (T.out _).mono ?_; rintro e w' ⟨rfl, rfl⟩)
    go_ret
    exact ⟨rfl, H2.out⟩
  | cons c t =>
    have he := empty_cons c t
    have hx := get_cons c t
    have hz := size_cons c t
    simp only [ht] at T
    rw [ht] at H2 hc2
    clear ht
    go_enter Tryz.func62, Tryz.ntmps62
    go_wp2_with (go_at_call 76; refine (T.out _).mono ?_; rintro e w' ⟨rfl, rfl⟩)
    go_ret
    exact ⟨rfl, H2.out⟩
theorem extract_tail (c : UInt8) (t : List UInt8) : (B (c :: t)).extract 1 (B (c :: t)).size = B t := by
  rw [extract_L, L_B, size_B]
  simp
theorem hdC_range (l : List UInt8) : 0 ≤ hdC l ∧ hdC l ≤ 255 := by
  cases l with
  | nil => exact ⟨by decide, by decide⟩
  | cons c t => show 0 ≤ (c.toNat : Int) ∧ (c.toNat : Int) ≤ 255; have := c.toNat_lt; omega
/-- accept, plainly: is it there, and what is left. -/
def acceptP (c : Int) (l : List UInt8) : Bool × List UInt8 := if hdC (trimL l) ≠ c ∨ c = 0 then (false, trimL l) else (true, (trimL l).tail)
set_option maxHeartbeats 1000000 in
set_option maxRecDepth 100000 in
theorem accept_any (g : Nat) (k : Int) (w : World) (l : List UInt8) (o : Bool) (c : Int) (h : PS g k w l o) :
    Calls Tryz.prog 87 #[.pointer (some ⟨g, 0, none⟩), .int .u8 c] w fun e w' => e = .returned (.bool (acceptP c l).1) ∧ PS g k w' (acceptP c l).2 o ∧ Kp g w w' := by
  have T := Lib.hid (next_any g k w l o h)
  unfold acceptP
  clear h
  by_cases h1 : hdC (trimL l) = c
  · subst h1
    by_cases h2 : hdC (trimL l) = 0
    · rw [if_pos (.inr h2)]
      have d1 : (hdC (trimL l) != hdC (trimL l)) = false := by simp
      have d2 : (hdC (trimL l) == 0) = true := beq_iff_eq.mpr h2
      obtain ⟨y, hy⟩ : ∃ y, hdC (trimL l) = y := ⟨_, rfl⟩
      rw [hy] at T d1 d2 ⊢
      clear h2 hy
      go_enter Tryz.func87, Tryz.ntmps87
      go_wp2_with (go_at_call 62; refine T.out.mono ?_; rintro e w' ⟨rfl, hp⟩)
      go_ret
      exact ⟨rfl, hp⟩
    · rw [if_neg (by rintro (h | h); exact h rfl; exact h2 h)]
      have d1 : (hdC (trimL l) != hdC (trimL l)) = false := by simp
      have d2 : (hdC (trimL l) == 0) = false := beq_eq_false_iff_ne.mpr h2
      cases ht : trimL l with
      | nil => rw [ht] at h2; exact absurd rfl h2
      | cons x t =>
        rw [ht] at T d1 d2
        clear h2 ht
        have e1 := extract_tail x t
        have hz : 1 ≤ ((B (x :: t)).size : Int) := by have := size_cons x t; omega
        obtain ⟨y, hy⟩ : ∃ y, hdC (x :: t) = y := ⟨_, rfl⟩
        rw [hy] at T d1 d2 ⊢
        clear hy
        go_enter Tryz.func87, Tryz.ntmps87
        go_wp2_with (go_at_call 62; refine T.out.mono ?_; rintro e w' ⟨rfl, hp, hk⟩; have hc := hp.cell0; have hf := hp.free 0; have H2 := Aside0.mk (And.intro (hp.text t) (hk.store 0 (.string (B t)))); clear hp hk)
        go_ret
        exact ⟨rfl, H2.out⟩
  · rw [if_pos (.inl h1)]
    have d1 : (hdC (trimL l) != c) = true := bne_iff_ne.mpr h1
    obtain ⟨y, hy⟩ : ∃ y, hdC (trimL l) = y := ⟨_, rfl⟩
    rw [hy] at T d1
    clear h1 hy
    go_enter Tryz.func87, Tryz.ntmps87
    go_wp2_with (go_at_call 62; refine T.out.mono ?_; rintro e w' ⟨rfl, hp⟩)
    go_ret
    exact ⟨rfl, hp⟩
/-- What the parser's panic bears. -/
def bad : List PanicEntry := [{ v := .iface 71 (.agg #[.int .i64 4]), recovered := false }]
set_option maxHeartbeats 1000000 in
set_option maxRecDepth 100000 in
theorem expect_any (g : Nat) (k : Int) (w : World) (l : List UInt8) (o : Bool) (c : Int) (h : PS g k w l o) :
    Calls Tryz.prog 102 #[.pointer (some ⟨g, 0, none⟩), .int .u8 c] w fun e w' =>
      match expectP c l with
      | some l' => e = .returned (.tuple #[]) ∧ PS g k w' l' o ∧ Kp g w w'
      | none => e = .panicked bad ∧ Kp g w w' := by
  have T := Lib.hid (accept_any g k w l o c h)
  unfold acceptP at T
  unfold expectP
  clear h
  by_cases h1 : hdC (trimL l) ≠ c ∨ c = 0
  · rw [if_pos h1]
    simp only [if_pos h1] at T
    clear h1
    dsimp only
    go_enter Tryz.func102, Tryz.ntmps102
    go_wp2_with (go_at_call 87; refine T.out.mono ?_; rintro e w' ⟨rfl, hp⟩)
    exact ⟨rfl, rfl, hp.2⟩
  · rw [if_neg h1]
    simp only [if_neg h1] at T
    clear h1
    dsimp only
    go_enter Tryz.func102, Tryz.ntmps102
    go_wp2_with (go_at_call 87; refine T.out.mono ?_; rintro e w' ⟨rfl, hp⟩)
    go_end0
    exact ⟨rfl, hp⟩
set_option maxHeartbeats 1000000 in
set_option maxRecDepth 100000 in
theorem fits_any (g : Nat) (k : Int) (w : World) (l : List UInt8) (o : Bool) (n : Nat) (h : PS g k w l o) :
    Calls Tryz.prog 75 #[.pointer (some ⟨g, 0, none⟩), .int .i64 n] w fun e w' => e = .returned (.bool (!over n o)) ∧ PS g k w' l (over n o) ∧ Kp g w w' := by
  by_cases h1 : 100000 < n
  · have e : over n o = true := by unfold over; rw [decide_eq_true h1, Bool.or_true]
    rw [e]
    have H2 := Aside0.mk (And.intro (h.over true) ((Kp.refl g w).store 2 (.bool true)))
    have hc := h.cell2
    have hf := h.free 2
    clear h e
    go_enter Tryz.func75, Tryz.ntmps75
    go_wp2
    go_ret
    exact ⟨rfl, H2.out⟩
  · have e : over n o = o := by unfold over; rw [decide_eq_false h1, Bool.or_false]
    rw [e]
    have hc := h.cell2
    have H2 := Aside0.mk h
    clear h e
    go_enter Tryz.func75, Tryz.ntmps75
    go_wp2
    go_ret
    exact ⟨rfl, H2.out, Kp.refl g _⟩
set_option maxHeartbeats 1000000 in
set_option maxRecDepth 100000 in
theorem deeper_any (g : Nat) (k : Int) (w : World) (l : List UInt8) (o : Bool) (d : Int) (h0 : 0 ≤ d) (h1 : d ≤ 4611686018427387904) (h : PS g k w l o) :
    Calls Tryz.prog 103 #[.pointer (some ⟨g, 0, none⟩), .int .i64 d] w fun e w' => e = .returned (.int .i64 (d + 1)) ∧ PS g k w' l (o || decide (20 < d)) ∧ Kp g w w' := by
  by_cases h2 : 20 < d
  · rw [decide_eq_true h2, Bool.or_true]
    have H2 := Aside0.mk (And.intro (h.over true) ((Kp.refl g w).store 2 (.bool true)))
    have hc := h.cell2
    have hf := h.free 2
    clear h
    go_enter Tryz.func103, Tryz.ntmps103
    go_wp2
    go_ret
    exact ⟨rfl, H2.out⟩
  · rw [decide_eq_false h2, Bool.or_false]
    have H2 := Aside0.mk h
    clear h
    go_enter Tryz.func103, Tryz.ntmps103
    go_wp2
    go_ret
    exact ⟨rfl, H2.out, Kp.refl g _⟩
end Go.Proofs.YthiehmogphknlaaGreatDoor.Parse
namespace Go.Proofs.YthiehmogphknlaaGreatDoor.Parse
open Go.RowKit Go.Proofs.YthiehmogphknlaaGreatDoor.G Go.Proofs.YthiehmogphknlaaGreatDoor.PA Go.Proofs.YthiehmogphknlaaGreatDoorW.PrintWords Go.Proofs.YthiehmogphknlaaGreatDoor.Free Go.Proofs.YthiehmogphknlaaGreatDoor.Pure1
def isD (c : UInt8) : Bool := decide (48 ≤ c.toNat) && decide (c.toNat ≤ 57)
theorem digs_eq (l : List UInt8) : digs l = l.takeWhile isD := rfl
theorem takeWhile_all {α : Type} (p : α → Bool) (l : List α) : ∀ c ∈ l.takeWhile p, p c = true := by
  induction l with
  | nil => intro c h; cases h
  | cons a l ih =>
    intro c h
    by_cases ha : p a = true
    · rw [List.takeWhile_cons_of_pos ha] at h
      rcases List.mem_cons.mp h with rfl | h
      · exact ha
      · exact ih c h
    · rw [List.takeWhile_cons_of_neg ha] at h; cases h
theorem decFrom_digs (l : List UInt8) : ∀ acc : Nat, (∀ c ∈ l, isD c = true) → ∃ m, Lib.decFrom acc l = some m := by
  induction l with
  | nil => intro acc _; exact ⟨acc, rfl⟩
  | cons c l ih =>
    intro acc h
    have hc := h c List.mem_cons_self
    unfold isD at hc
    rw [Bool.and_eq_true, decide_eq_true_iff, decide_eq_true_iff] at hc
    obtain ⟨m, hm⟩ := ih (acc * 10 + (c.toNat - 48)) (fun x hx => h x (List.mem_cons_of_mem _ hx))
    refine ⟨m, ?_⟩
    rw [Lib.decFrom]
    unfold Lib.digitVal
    rw [if_pos hc]
    exact hm
theorem atoi_digs (l : List UInt8) (h : 1 ≤ (digs l).length) : ∃ m : Nat, Lib.atoi (digs l) = some (m : Int) ∧ m < 10 ^ (digs l).length := by
  have hall := takeWhile_all isD l
  rw [← digs_eq] at hall
  obtain ⟨m, hm⟩ := decFrom_digs (digs l) 0 hall
  have hlt := Lib.decFrom_lt _ _ _ hm
  cases hd : digs l with
  | nil => rw [hd] at h; simp at h
  | cons b r =>
    rw [hd] at hm hlt hall
    have hb := hall b List.mem_cons_self
    unfold isD at hb
    rw [Bool.and_eq_true, decide_eq_true_iff, decide_eq_true_iff] at hb
    refine ⟨m, ?_, by simpa using hlt⟩
    have n1 : (b == 45) = false := by rw [beq_eq_false_iff_ne]; rintro rfl; exact absurd hb.1 (by decide)
    have n2 : (b == 43) = false := by rw [beq_eq_false_iff_ne]; rintro rfl; exact absurd hb.1 (by decide)
    simp only [Lib.atoi, n1, n2, Lib.decNat, List.isEmpty_cons, hm]
    rfl
theorem get_B (l : List UInt8) (i : Nat) (hi : i < l.length) : ∀ h : i < (B l).size, (((B l)[i]'h).toNat : Int) = ((l[i]'hi).toNat : Int) := fun _ => rfl
theorem extract_take (l : List UInt8) (n : Nat) : (B l).extract 0 n = B (l.take n) := by rw [extract_L, L_B]; rfl
theorem extract_drop (l : List UInt8) (n : Nat) : (B l).extract n (B l).size = B (l.drop n) := by
  rw [extract_L, L_B, size_B, List.take_of_length_le (by simp)]
theorem atoi_any (l : List UInt8) (h : 1 ≤ (digs l).length) (h6 : (digs l).length ≤ 6) (w : World) :
    Calls Tryz.prog 104 #[.string (B (digs l))] w fun e w' => e = .returned (.tuple #[.int .i64 ((Lib.atoi (digs l)).getD 0), .nilIface]) ∧ Below w.heap.size w w' := by
  obtain ⟨m, hm, _⟩ := atoi_digs l h
  rw [hm]
  refine (Tryz.strconv_Atoi (B (digs l)) m (by rw [size_B]; omega) hm w).mono fun e w' ⟨he, t, hw⟩ => ⟨he, ?_⟩
  rw [hw]
  exact bytes_below (Below.refl _ _) (Nat.le_refl _) _ _
theorem expoP_bound {l : List UInt8} {n : Int} {l' : List UInt8} (h : expoP l = some (n, l')) : -1000000 < n ∧ n < 1000000 := by
  unfold expoP at h
  dsimp only at h
  generalize trimL (if hdC (trimL l) = 45 then (trimL l).tail else trimL l) = t at h
  split at h
  · cases h
  · rename_i hd
    obtain ⟨m, hm, hlt⟩ := atoi_digs t (by omega)
    rw [hm] at h
    simp only [Option.getD_some, Option.some.injEq, Prod.mk.injEq] at h
    have : m < 1000000 := by
      have h6 : (digs t).length ≤ 6 := by omega
      have := Nat.pow_le_pow_right (n := 10) (by omega) h6
      omega
    obtain ⟨h, _⟩ := h
    split at h <;> omega
set_option maxHeartbeats 2000000 in
set_option maxRecDepth 100000 in
theorem expo_any (g : Nat) (k : Int) (w : World) (l : List UInt8) (o : Bool) (hl : l.length ≤ 9223372036854775806) (h : PS g k w l o) :
    Calls Tryz.prog 88 #[.pointer (some ⟨g, 0, none⟩)] w fun e w' =>
      match expoP l with
      | some (n, l') => e = .returned (.int .i64 n) ∧ PS g k w' l' o ∧ Kp g w w'
      | none => e = .panicked bad ∧ Kp g w w' := by
  have T := Lib.hid (accept_any g k w l o 45 h)
  have hexp : expoP l = if (digs (trimL (acceptP 45 l).2)).length < 1 ∨ 6 < (digs (trimL (acceptP 45 l).2)).length then none
      else some (if (acceptP 45 l).1 = true then -(((Lib.atoi (digs (trimL (acceptP 45 l).2))).getD 0)) else (Lib.atoi (digs (trimL (acceptP 45 l).2))).getD 0, (trimL (acceptP 45 l).2).drop (digs (trimL (acceptP 45 l).2)).length) := by
    by_cases hm : hdC (trimL l) = 45
    · have ea : acceptP 45 l = (true, (trimL l).tail) := by unfold acceptP; rw [if_neg (by rintro (h | h); exact h hm; exact absurd h (by decide))]
      rw [ea]; unfold expoP; simp only [if_true, hm]
    · have ea : acceptP 45 l = (false, trimL l) := by unfold acceptP; rw [if_pos (.inl hm)]
      rw [ea]; unfold expoP; simp only [hm, Bool.false_eq_true, if_false]
  have hlen : (trimL (acceptP 45 l).2).length ≤ l.length := by
    have ht : ∀ x : List UInt8, (trimL x).length ≤ x.length := fun x => by unfold trimL Lib.trimLeftB; exact (List.dropWhile_suffix _).length_le
    refine Nat.le_trans (ht _) ?_
    unfold acceptP
    split
    · exact ht l
    · exact Nat.le_trans (by simp) (ht l)
  rw [hexp]
  clear hexp h
  obtain ⟨m, hm⟩ : ∃ m, (acceptP 45 l).1 = m := ⟨_, rfl⟩
  obtain ⟨t0, ht0⟩ : ∃ t, (acceptP 45 l).2 = t := ⟨_, rfl⟩
  rw [hm, ht0] at T
  rw [hm, ht0]
  rw [ht0] at hlen
  clear hm ht0
  obtain ⟨t, ht⟩ : ∃ t, trimL t0 = t := ⟨_, rfl⟩
  rw [ht] at hlen ⊢
  have T2 := Lib.hid (fun W hW => next_any g k W t0 o hW)
  rw [ht] at T2
  clear ht
  obtain ⟨n, hn⟩ : ∃ n, (digs t).length = n := ⟨_, rfl⟩
  have hnt : n ≤ t.length := by rw [← hn, digs_eq]; exact (List.takeWhile_prefix _).length_le
  have htake : digs t = t.take n := by rw [← hn, digs_eq]; exact (List.prefix_iff_eq_take.mp (List.takeWhile_prefix _))
  have HT := Aside0.mk (And.intro hn htake)
  rw [hn]
  clear hn htake
  obtain ⟨R, hR⟩ : ∃ R : Ending → World → Prop, (fun e w' => match (if n < 1 ∨ 6 < n then none else some (if m = true then -(((Lib.atoi (digs t)).getD 0)) else (Lib.atoi (digs t)).getD 0, t.drop n) : Option (Int × List UInt8)) with
      | some (n, l') => e = .returned (.int .i64 n) ∧ PS g k w' l' o ∧ Kp g w w'
      | none => e = .panicked bad ∧ Kp g w w') = R := ⟨_, rfl⟩
  rw [hR]
  have R1 : (n < 1 ∨ 6 < n) → ∀ w', Kp g w w' → R (.panicked bad) w' := fun h w' hk => by rw [← hR]; dsimp only; rw [if_pos h]; exact ⟨rfl, hk⟩
  have R2 : ¬ (n < 1 ∨ 6 < n) → ∀ w' v, v = (if m = true then -(((Lib.atoi (digs t)).getD 0)) else (Lib.atoi (digs t)).getD 0) → PS g k w' (t.drop n) o → Kp g w w' → R (.returned (.int .i64 v)) w' := fun h w' v hv hp hk => by rw [← hR]; dsimp only; rw [if_neg h]; exact ⟨by rw [hv], hp, hk⟩
  have HR1 := Lib.hid R1
  have HR2 := Lib.hid R2
  clear hR R1 R2
  go_enter Tryz.func88, Tryz.ntmps88
  go_wp2_with (first | (go_at_call 87; refine T.out.mono ?_; rintro e w1 ⟨rfl, hp1, hk1⟩; have HP1 := Aside0.mk hp1; have HK1 := Aside0.mk hk1; clear hp1 hk1) | (go_at_call 62; refine (T2.out _ HP1.out).mono ?_; rintro e w2 ⟨rfl, hp2, hk2⟩; have HP2 := Aside0.mk hp2; have HK2 := Aside0.mk (HK1.out.trans hk2); clear hp2 hk2))
  have hc := HP2.out.cell0
  have hf := HP2.out.free 0
  go_loop [4] (fun v => ∃ j : Nat, j ≤ n ∧ v = .int .i64 j) (fun v => t.length - (intOf v).toNat)
  case atStart => exact ⟨0, by omega, rfl⟩
  case round =>
    obtain ⟨j, hj, rfl⟩ := hrel
    by_cases hjn : j < n
    · have hjt : j < t.length := by omega
      obtain ⟨c, hcj⟩ : ∃ c, t[j] = c := ⟨_, rfl⟩
      have hd : isD c = true := by
        have := takeWhile_all isD t c (by
          rw [← digs_eq, HT.out.2, ← hcj, List.mem_take_iff_getElem]
          exact ⟨j, by omega, rfl⟩)
        exact this
      unfold isD at hd
      rw [Bool.and_eq_true, decide_eq_true_iff, decide_eq_true_iff] at hd
      have hx : ∀ h : j < (B t).size, (((B t)[j]'h).toNat : Int) = (c.toNat : Int) := fun h => (get_B t j hjt h).trans (by rw [hcj])
      have hz : (j : Int) < ((B t).size : Int) := by rw [size_B]; omega
      have hy1 : 48 ≤ (c.toNat : Int) := by omega
      have hy2 : (c.toNat : Int) ≤ 57 := by omega
      clear hcj hd
      go_wp2
      go_round
      case rel => exact ⟨j + 1, by omega, by go_num⟩
      case measure => simp [intOf]; omega
    · have ejn : j = n := by omega
      subst ejn
      have hstop : j = t.length ∨ ∃ hj : j < t.length, isD t[j] = false := by
        by_cases e : j = t.length
        · exact .inl e
        · right
          refine ⟨by omega, ?_⟩
          cases hd : isD (t[j]'(by omega)) with
          | false => rfl
          | true =>
            exfalso
            have h1 : (digs t).length = j := HT.out.1
            have h2 : digs t = t.take (j + 1) ++ (t.drop (j + 1)).takeWhile isD := by
              have hall : ∀ c ∈ t.take (j + 1), isD c = true := by
                intro c hc
                rw [List.take_succ_eq_append_getElem (by omega)] at hc
                rcases List.mem_append.mp hc with hc | hc
                · rw [← HT.out.2, digs_eq] at hc
                  exact takeWhile_all isD t c hc
                · rw [List.mem_singleton] at hc
                  rw [hc]; exact hd
              rw [digs_eq]
              conv => lhs; rw [← List.take_append_drop (j + 1) t]
              rw [List.takeWhile_append_of_pos hall]
            rw [h2, List.length_append, List.length_take] at h1
            omega
      have hexit : ∀ (Q : Prop), (j = t.length → Q) → (∀ c : UInt8, (∀ h : j < (B t).size, (((B t)[j]'h).toNat : Int) = (c.toNat : Int)) → (j : Int) < ((B t).size : Int) → ¬ 48 ≤ (c.toNat : Int) → Q) → (∀ c : UInt8, (∀ h : j < (B t).size, (((B t)[j]'h).toNat : Int) = (c.toNat : Int)) → (j : Int) < ((B t).size : Int) → 48 ≤ (c.toNat : Int) → ¬ (c.toNat : Int) ≤ 57 → Q) → Q := by
        intro Q q1 q2 q3
        rcases hstop with h | ⟨h, hd⟩
        · exact q1 h
        · have hx : ∀ h' : j < (B t).size, (((B t)[j]'h').toNat : Int) = ((t[j]'h).toNat : Int) := fun h' => get_B t j h h'
          have hz : (j : Int) < ((B t).size : Int) := by rw [size_B]; omega
          by_cases h48 : 48 ≤ ((t[j]'h).toNat : Int)
          · refine q3 _ hx hz h48 (fun h57 => ?_)
            unfold isD at hd
            rw [decide_eq_true (by omega), decide_eq_true (by omega)] at hd
            cases hd
          · exact q2 _ hx hz h48
      have hzz : ((B t).size : Int) = (t.length : Int) := by rw [size_B]
      have HZ := Aside0.mk hzz
      clear hstop hjn hzz
      have E1 := extract_take t j
      have E2 := extract_drop t j
      have hzl : (j : Int) ≤ ((B t).size : Int) := by rw [size_B]; omega
      by_cases hq1 : j < 1
      · refine hexit _ (fun e => ?_) (fun c hx hz h48 => ?_) (fun c hx hz h48 h57 => ?_)
        · have hz : ¬ (j : Int) < ((B t).size : Int) := by rw [HZ.out]; omega
          clear e hexit E1 E2
          go_wp2
          exact ⟨rfl, HR1.out (.inl hq1) _ HK2.out⟩
        · clear hexit E1 E2
          go_wp2
          exact ⟨rfl, HR1.out (.inl hq1) _ HK2.out⟩
        · clear hexit E1 E2
          go_wp2
          exact ⟨rfl, HR1.out (.inl hq1) _ HK2.out⟩
      · by_cases hq2 : 6 < j
        · refine hexit _ (fun e => ?_) (fun c hx hz h48 => ?_) (fun c hx hz h48 h57 => ?_)
          · have hz : ¬ (j : Int) < ((B t).size : Int) := by rw [HZ.out]; omega
            clear e hexit E1 E2
            go_wp2
            exact ⟨rfl, HR1.out (.inr hq2) _ HK2.out⟩
          · clear hexit E1 E2
            go_wp2
            exact ⟨rfl, HR1.out (.inr hq2) _ HK2.out⟩
          · clear hexit E1 E2
            go_wp2
            exact ⟨rfl, HR1.out (.inr hq2) _ HK2.out⟩
        · have hq3 : ¬ (j < 1 ∨ 6 < j) := by omega
          have HT3 := Lib.hid (fun W => atoi_any t (by rw [HT.out.1]; omega) (by rw [HT.out.1]; omega) W)
          obtain ⟨m2, hm2, hm3⟩ := atoi_digs t (by rw [HT.out.1]; omega)
          have hm4 : m2 < 1000000 := by
            have h6 : (digs t).length ≤ 6 := by rw [HT.out.1]; omega
            have := Nat.pow_le_pow_right (n := 10) (by omega) h6
            omega
          rw [hm2] at HT3
          simp only [Option.getD_some, HT.out.2] at HT3
          have HM := Aside0.mk hm2
          clear hm2 hm3
          refine hexit _ (fun e => ?_) (fun c hx hz h48 => ?_) (fun c hx hz h48 h57 => ?_)
          · have hz : ¬ (j : Int) < ((B t).size : Int) := by rw [HZ.out]; omega
            clear e hexit
            cases m
            · go_wp2_with (go_at_call 104; refine (HT3.out _).mono ?_; rintro e w3 ⟨rfl, hb⟩; have hp3 := HP2.out.later hb; have hc3 := hp3.cell0; have hf3 := hp3.free 0; have H3 := Aside0.mk (And.intro (hp3.text (t.drop j)) ((HK2.out.trans (Kp.of_below hb)).store 0 (.string (B (t.drop j))))); clear hp3 hb)
              exact HR2.out hq3 _ _ (by rw [HM.out]; rfl) H3.out.1 H3.out.2
            · go_wp2_with (go_at_call 104; refine (HT3.out _).mono ?_; rintro e w3 ⟨rfl, hb⟩; have hp3 := HP2.out.later hb; have hc3 := hp3.cell0; have hf3 := hp3.free 0; have H3 := Aside0.mk (And.intro (hp3.text (t.drop j)) ((HK2.out.trans (Kp.of_below hb)).store 0 (.string (B (t.drop j))))); clear hp3 hb)
              exact HR2.out hq3 _ _ (by rw [HM.out]; rfl) H3.out.1 H3.out.2
          · clear hexit
            cases m
            · go_wp2_with (go_at_call 104; refine (HT3.out _).mono ?_; rintro e w3 ⟨rfl, hb⟩; have hp3 := HP2.out.later hb; have hc3 := hp3.cell0; have hf3 := hp3.free 0; have H3 := Aside0.mk (And.intro (hp3.text (t.drop j)) ((HK2.out.trans (Kp.of_below hb)).store 0 (.string (B (t.drop j))))); clear hp3 hb)
              exact HR2.out hq3 _ _ (by rw [HM.out]; rfl) H3.out.1 H3.out.2
            · go_wp2_with (go_at_call 104; refine (HT3.out _).mono ?_; rintro e w3 ⟨rfl, hb⟩; have hp3 := HP2.out.later hb; have hc3 := hp3.cell0; have hf3 := hp3.free 0; have H3 := Aside0.mk (And.intro (hp3.text (t.drop j)) ((HK2.out.trans (Kp.of_below hb)).store 0 (.string (B (t.drop j))))); clear hp3 hb)
              exact HR2.out hq3 _ _ (by rw [HM.out]; rfl) H3.out.1 H3.out.2
          · clear hexit
            cases m
            · go_wp2_with (go_at_call 104; refine (HT3.out _).mono ?_; rintro e w3 ⟨rfl, hb⟩; have hp3 := HP2.out.later hb; have hc3 := hp3.cell0; have hf3 := hp3.free 0; have H3 := Aside0.mk (And.intro (hp3.text (t.drop j)) ((HK2.out.trans (Kp.of_below hb)).store 0 (.string (B (t.drop j))))); clear hp3 hb)
              exact HR2.out hq3 _ _ (by rw [HM.out]; rfl) H3.out.1 H3.out.2
            · go_wp2_with (go_at_call 104; refine (HT3.out _).mono ?_; rintro e w3 ⟨rfl, hb⟩; have hp3 := HP2.out.later hb; have hc3 := hp3.cell0; have hf3 := hp3.free 0; have H3 := Aside0.mk (And.intro (hp3.text (t.drop j)) ((HK2.out.trans (Kp.of_below hb)).store 0 (.string (B (t.drop j))))); clear hp3 hb)
              exact HR2.out hq3 _ _ (by rw [HM.out]; rfl) H3.out.1 H3.out.2
end Go.Proofs.YthiehmogphknlaaGreatDoor.Parse
namespace Go.Proofs.YthiehmogphknlaaGreatDoor.Parse
open Go.RowKit Go.Proofs.YthiehmogphknlaaGreatDoor.G Go.Proofs.YthiehmogphknlaaGreatDoor.PA Go.Proofs.YthiehmogphknlaaGreatDoorW.PrintWords Go.Proofs.YthiehmogphknlaaGreatDoor.Free Go.Proofs.YthiehmogphknlaaGreatDoor.Pure1
/-- The tables lie, and the parser's variable lies above them. -/
def GP (g : Nat) (w : World) : Prop := ∃ w0, GL w0 ∧ Below w0.heap.size w0 w ∧ w0.heap.size ≤ g
theorem GP.gl {g : Nat} {w : World} (h : GP g w) : GL w := let ⟨_, hg, hb, _⟩ := h; hg.step hb
theorem GP.kp {g : Nat} {w w' : World} (h : GP g w) (hk : Kp g w w') : GP g w' :=
  let ⟨w0, hg, hb, hl⟩ := h; ⟨w0, hg, hb.trans (hk.below hl hb.size), hl⟩
theorem inverse_any (s : ByteArray) (hs : s.size ≤ 140737488355328) (w : World) :
    Calls Tryz.prog 46 #[.string s] w fun e w' => e = .returned (.string (B (inv (L s)))) ∧ Below w.heap.size w w' := by
  obtain ⟨k, hk⟩ := (inverse_ev s hs).rounds
  exact word_inverse.calls k s _ w hk
theorem reduce_any (A : Option Addr) (c : Nat) (l : List ByteArray) (w : World) (hr : Kd.C Kd.string w A l.length l) (hc : l.length ≤ c) (hl : (cat l).length < 140737488355328) (hn : l.length ≤ 9223372036854775806) :
    Calls Tryz.prog 47 #[.slice A l.length c] w fun e w' => e = .returned (.string (B (red (cat l)))) ∧ Below w.heap.size w w' := by
  obtain ⟨k, hk⟩ := (reduce_ev l hl hn).rounds
  exact word_reduce.calls k A c l _ w hr hc hk
theorem power_some (s : ByteArray) (hs : s.size ≤ 1000000) (n : Int) (h0 : -9223372036854775808 < n) (h1 : n ≤ 9223372036854775807) (x : List UInt8) (hx : powL (L s) n = some x) (w : World) :
    Calls Tryz.prog 56 #[.string s, .int .i64 n] w fun e w' => e = .returned (.tuple #[.string (B x), .bool true]) ∧ Below w.heap.size w w' := by
  obtain ⟨k, hk⟩ := (power_ev s hs n h0 h1).rounds
  rw [hx] at hk
  exact word_power.calls k s n _ _ w hk
theorem power_none (s : ByteArray) (hs : s.size ≤ 1000000) (n : Int) (h0 : -9223372036854775808 < n) (h1 : n ≤ 9223372036854775807) (hx : powL (L s) n = none) (w : World) :
    Calls Tryz.prog 56 #[.string s, .int .i64 n] w fun e w' => e = .returned (.tuple #[.string (B []), .bool false]) ∧ Below w.heap.size w w' := by
  obtain ⟨k, hk⟩ := (power_ev s hs n h0 h1).rounds
  rw [hx] at hk
  exact word_power.calls k s n _ _ w hk
/-- What a reading comes to. -/
def POut (g : Nat) (k : Int) (w : World) (r : Option (List UInt8 × List UInt8 × Bool)) (e : Ending) (w' : World) : Prop :=
  match r with
  | none => e = .panicked bad ∧ Kp g w w'
  | some (v, l, o) => e = .returned (.string (B v)) ∧ PS g k w' l o ∧ Kp g w w'
/-- Lengths: no value is longer than a word; something has been read; what is over stays over. -/
def Good (F : List UInt8 → Bool → Res (List UInt8)) : Prop := ∀ l o v l' o', F l o = some (some (v, l', o')) → v.length ≤ 100000 ∧ l'.length < l.length ∧ (o = true → o' = true)
theorem trimL_le (l : List UInt8) : (trimL l).length ≤ l.length := by unfold trimL Lib.trimLeftB; exact (List.dropWhile_suffix _).length_le
theorem expectP_le {c : Int} {l l' : List UInt8} (h : expectP c l = some l') : l'.length ≤ l.length := by
  unfold expectP at h
  split at h
  · cases h
  · obtain rfl := Option.some.inj h
    exact Nat.le_trans (by simp) (trimL_le l)
theorem expoP_le {l l' : List UInt8} {n : Int} (h : expoP l = some (n, l')) : l'.length ≤ l.length := by
  unfold expoP at h
  dsimp only at h
  have h1 : (trimL (if hdC (trimL l) = 45 then (trimL l).tail else trimL l)).length ≤ l.length := by
    refine Nat.le_trans (trimL_le _) ?_
    split
    · exact Nat.le_trans (by simp) (trimL_le l)
    · exact trimL_le l
  generalize trimL (if hdC (trimL l) = 45 then (trimL l).tail else trimL l) = t at h h1
  split at h
  · cases h
  · simp only [Option.some.injEq, Prod.mk.injEq] at h
    obtain ⟨_, rfl⟩ := h
    exact Nat.le_trans (by simp) h1
theorem bind_some {α β : Type} {r : Res α} {f : α → List UInt8 → Bool → Res β} {x : β × List UInt8 × Bool} (h : Res.bind r f = some (some x)) : ∃ a l o, r = some (some (a, l, o)) ∧ f a l o = some (some x) := by
  unfold Res.bind at h
  split at h
  · cases h
  · cases h
  · exact ⟨_, _, _, rfl, h⟩
theorem over_false {n : Nat} {o : Bool} (h : ¬ over n o = true) : n ≤ 100000 ∧ o = false := by
  unfold over at h
  cases o
  · simp at h; exact ⟨h, rfl⟩
  · simp at h
theorem powL_le {l x : List UInt8} {n : Int} (h : powL l n = some x) : x.length ≤ 100000 := by
  unfold powL at h
  dsimp only at h
  generalize (if n < 0 then inv (cyc (red l)).2 else (cyc (red l)).2) = y at h
  split at h
  · obtain rfl := Option.some.inj h; simp
  · split at h
    · cases h
    · rename_i hb
      obtain rfl := Option.some.inj h
      rw [List.length_append, List.length_append, inv_length, Lib.repeatL_length, Nat.mul_comm]
      omega
theorem tail_lt {l : List UInt8} (h : hdC l ≠ 0) : l.tail.length < l.length := by
  cases l with
  | nil => exact absurd rfl h
  | cons c t => simp
theorem base_good {sum : Int → List UInt8 → Bool → Res (List UInt8)} (k d : Int) (hs : Good (sum (d + 1))) : Good (baseP sum k d) := by
  intro l o v l' o' h
  unfold baseP at h
  dsimp only at h
  have ht := trimL_le l
  split at h
  · rename_i hc
    have htl := tail_lt (l := trimL l) (by rw [hc]; decide)
    simp only [Option.some.injEq, Prod.mk.injEq] at h
    obtain ⟨rfl, rfl, rfl⟩ := h
    exact ⟨by simp, by omega, id⟩
  · split at h
    · rename_i hc
      have htl := tail_lt (l := trimL l) (by rw [hc]; decide)
      obtain ⟨a, la, oa, h1, h2⟩ := bind_some h
      have g1 := hs _ _ _ _ _ h1
      split at h2
      · cases h2
      · rename_i lb hb
        have := expectP_le hb
        simp only [Option.some.injEq, Prod.mk.injEq] at h2
        obtain ⟨rfl, rfl, rfl⟩ := h2
        exact ⟨g1.1, by omega, fun ho => g1.2.2 (by rw [ho]; rfl)⟩
    · split at h
      · rename_i hc
        have htl := tail_lt (l := trimL l) (by rw [hc]; decide)
        obtain ⟨a, la, oa, h1, h2⟩ := bind_some h
        have g1 := hs _ _ _ _ _ h1
        split at h2
        · cases h2
        · rename_i lb hb
          have e1 := expectP_le hb
          obtain ⟨b, lc, oc, h3, h4⟩ := bind_some h2
          have g2 := hs _ _ _ _ _ h3
          split at h4
          · cases h4
          · rename_i ld hd
            have e2 := expectP_le hd
            split at h4
            · simp only [Option.some.injEq, Prod.mk.injEq] at h4
              obtain ⟨rfl, rfl, rfl⟩ := h4
              exact ⟨by simp, by omega, fun _ => rfl⟩
            · rename_i ho
              have := over_false ho
              simp only [Option.some.injEq, Prod.mk.injEq] at h4
              obtain ⟨rfl, rfl, rfl⟩ := h4
              refine ⟨Nat.le_trans (red_length _) ?_, by omega, fun ho => g2.2.2 (g1.2.2 (by rw [ho]; rfl))⟩
              simp only [List.length_append, inv_length]
              omega
      · split at h
        · rename_i hc
          have htl := tail_lt (l := trimL l) hc.1
          simp only [Option.some.injEq, Prod.mk.injEq] at h
          obtain ⟨rfl, rfl, rfl⟩ := h
          refine ⟨?_, by omega, id⟩
          rw [List.length_take]; omega
        · cases h
theorem factor_good {base : List UInt8 → Bool → Res (List UInt8)} (hb : Good base) : Good (factorP base) := by
  intro l o v l' o' h
  unfold factorP at h
  obtain ⟨w, l1, o1, h1, h2⟩ := bind_some h
  have g1 := hb _ _ _ _ _ h1
  have t1 := trimL_le l1
  split at h2
  · simp only [Option.some.injEq, Prod.mk.injEq] at h2
    obtain ⟨rfl, rfl, rfl⟩ := h2
    exact ⟨g1.1, by omega, g1.2.2⟩
  · split at h2
    · cases h2
    · rename_i n l2 he
      have e1 := expoP_le he
      have e2 : (trimL l1).tail.length ≤ (trimL l1).length := by simp
      split at h2
      · simp only [Option.some.injEq, Prod.mk.injEq] at h2
        obtain ⟨rfl, rfl, rfl⟩ := h2
        exact ⟨by simp, by omega, fun _ => rfl⟩
      · split at h2
        · simp only [Option.some.injEq, Prod.mk.injEq] at h2
          obtain ⟨rfl, rfl, rfl⟩ := h2
          exact ⟨by simp, by omega, g1.2.2⟩
        · rename_i x hx
          simp only [Option.some.injEq, Prod.mk.injEq] at h2
          obtain ⟨rfl, rfl, rfl⟩ := h2
          exact ⟨powL_le hx, by omega, g1.2.2⟩
theorem loop_good {fac : List UInt8 → Bool → Res (List UInt8)} (hf : Good fac) : ∀ (f : Nat) (ws : List (List UInt8)) (n : Nat) (l : List UInt8) (o : Bool) (v l' : List UInt8) (o' : Bool), ws.flatten.length = n → n ≤ 100000 →
    loopP fac f ws n l o = some (some (v, l', o')) → v.length ≤ 100000 ∧ l'.length ≤ l.length ∧ (o = true → o' = true) := by
  intro f
  induction f with
  | zero => intro ws n l o v l' o' _ _ h; cases h
  | succ f ih =>
    intro ws n l o v l' o' hn hb h
    rw [loopP] at h
    split at h
    · simp only [Option.some.injEq, Prod.mk.injEq] at h
      obtain ⟨rfl, rfl, rfl⟩ := h
      exact ⟨Nat.le_trans (red_length _) (by omega), Nat.le_refl _, id⟩
    · obtain ⟨w, l1, o1, h1, h2⟩ := bind_some h
      have g1 := hf _ _ _ _ _ h1
      have t1 := trimL_le l1
      split at h2
      · have := ih [] 0 _ _ _ _ _ rfl (by omega) h2
        exact ⟨this.1, by omega, fun _ => this.2.2 rfl⟩
      · rename_i ho
        have := over_false ho
        have := ih (ws ++ [w]) (n + w.length) _ _ _ _ _ (by rw [List.flatten_append, List.length_append, hn]; simp) (by omega) h2
        exact ⟨this.1, by omega, fun h => this.2.2 (g1.2.2 h)⟩
theorem sum_good (k : Int) : ∀ (f : Nat) (d : Int), Good (sumN k f d) := by
  intro f
  induction f with
  | zero => intro d l o v l' o' h; cases h
  | succ f ih =>
    intro d l o v l' o' h
    rw [sumN, sumP] at h
    have hf := factor_good (base_good (sum := sumN k f) k d (ih (d + 1)))
    obtain ⟨w, l1, o1, h1, h2⟩ := bind_some h
    have g1 := hf _ _ _ _ _ h1
    have t1 := trimL_le l1
    have := loop_good hf f [w] w.length _ _ _ _ _ (by simp) g1.1 h2
    exact ⟨this.1, by omega, fun h => this.2.2 (g1.2.2 h)⟩
end Go.Proofs.YthiehmogphknlaaGreatDoor.Parse
