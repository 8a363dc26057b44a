/- word.Check, by its own text: the length, then the letters one by one (strings.ContainsFunc over a closure that reads the table of letters). word.cutLeft at a text of ASCII and a set of one ASCII byte: the text without that byte at its begin. The library's functions that the words' text calls, each in one form: a plain Lean function, and the call that comes to its answer (by the shelf's contracts). -/
import Derived.Test.YthiehmogphknlaaGreatDoorG
import Derived.Deep.QuietTactic
import Derived.BigQuiet
import Derived.Lib.Hide
import Derived.Shelf.GgClosure.StringsRunes
import Derived.Test.YthiehmogphknlaaGreatDoorShelf
import Derived.Deep.LoopGhost
import Derived.Lib.OthersKept
import Derived.Lib.IndexBytes
import Derived.Laws.RangeString
namespace Go.Proofs.YthiehmogphknlaaGreatDoor.G
open Go.RowKit Go.Proofs.YthiehmogphknlaaGreatDoorW.PrintWords Go.Lib
/-- What the closure of word.Check says of a code point: it is no letter of k generators. -/
def noLetter (k : Int) (x : Nat) : Bool := decide (127 < x) || decide (idx x < 0) || decide (2 * k ≤ idx x)
theorem idx_le (c : Int) : -1 ≤ idx c ∧ idx c ≤ 15 := by
  unfold idx
  split
  · omega
  · split <;> omega
set_option maxHeartbeats 1000000 in
set_option maxRecDepth 100000 in
theorem check1_any (k : Int) (hk0 : 1 ≤ k) (hk1 : k ≤ 8) (x : Nat) (hx : x ≤ 1114111) (b : Nat) (W : World) (hc : W.cell? ⟨b, 0, none⟩ = some (.int .i64 k)) (hG : GL W) :
    Calls Tryz.prog 44 #[.int .i32 x, .pointer (some ⟨b, 0, none⟩)] W fun e w' => e = .returned (.bool (noLetter k x)) ∧ ∃ q, w' = W.drewN q := by
  by_cases h1 : 127 < x
  · have hp : noLetter k x = true := by simp [noLetter, h1]
    have HP := Aside0.mk hp
    clear hp
    have d1 : decide ((127 : Int) < (x : Int)) = true := decide_eq_true (by omega)
    go_enter Tryz.func44, Tryz.ntmps44
    go_wp2
    go_quiet (fail)
    go_wp2
    go_ret
    exact ⟨by rw [HP.out]; rfl, _, rfl⟩
  · have hxi : 0 ≤ (x : Int) ∧ (x : Int) ≤ 127 := by omega
    have d1 : decide ((127 : Int) < (x : Int)) = false := decide_eq_false (by omega)
    have hw : (x : Int) % 256 = x := by omega
    have hi := idx_le (x : Int)
    obtain ⟨i, hi'⟩ : ∃ i, idx (x : Int) = i := ⟨_, rfl⟩
    rw [hi'] at hi
    have HC : ∀ W' : World, GL W' → Calls Tryz.prog 15 #[.int .u8 (x : Int)] W' fun e w' => e = .returned (.int .i64 i) ∧ w' = W' := fun W' g => by
      have := index_any (x : Int) (by omega) (by omega) W' g
      rw [hi'] at this
      exact this
    have HH := Lib.hid HC
    clear HC
    have HI := Aside0.mk hi'
    clear hi'
    have HW := Aside0.mk hw
    clear hw
    by_cases h2 : i < 0
    · have hp : noLetter k x = true := by simp [noLetter, HI.out, h2]
      have HP := Aside0.mk hp
      clear hp
      have d2 : decide (i < 0) = true := decide_eq_true h2
      go_enter Tryz.func44, Tryz.ntmps44
      go_wp2
      go_quiet ((go_at_call 15; exact Calls.quiet_of_same (HH.out _ (hG.drawn ⟨⟨_, rfl⟩⟩))))
      go_wp2
      go_ret
      exact ⟨by rw [HP.out]; rfl, _, rfl⟩
    · have d2 : decide (i < 0) = false := decide_eq_false h2
      have hp : noLetter k x = decide (2 * k ≤ i) := by simp [noLetter, HI.out, h1, h2]
      have HP := Aside0.mk hp
      clear hp
      go_enter Tryz.func44, Tryz.ntmps44
      go_wp2
      go_quiet ((go_at_call 15; exact Calls.quiet_of_same (HH.out _ (hG.drawn ⟨⟨_, rfl⟩⟩))))
      go_wp2
      go_ret
      exact ⟨by rw [HP.out]; rfl, _, rfl⟩
theorem check_pred (k : Int) (hk0 : 1 ≤ k) (hk1 : k ≤ 8) (w : World) (hG : GL w) :
    PredAtRunes Tryz.prog 44 #[.pointer (some ⟨w.heap.size, 0, none⟩)] (noLetter k) (w.alloc (.cells #[.int .i64 k] 3)) := by
  intro W x hx hb
  have hc : W.cell? ⟨w.heap.size, 0, none⟩ = some (.int .i64 k) := by
    rw [hb.cell (p := ⟨w.heap.size, 0, none⟩) (by simp)]
    simp
  have hg : GL W := (hG.step (below_alloc (Below.refl _ _) _)).step hb
  exact check1_any k hk0 hk1 x hx w.heap.size W hc hg
/-- word.Check. -/
def chk (k : Int) (s : ByteArray) : Int := if k < 1 ∨ 8 < k then 1 else if 100000 < s.size then 2 else if decide (0 ≤ Lib.idxFunc (noLetter k) true s) = true then 4 else 0
def word_Check.f (a0 : Int) (a1 : ByteArray) : Option Int := if a1.size ≤ 9223372036854775807 then some (chk a0 a1) else none
set_option maxHeartbeats 1000000 in
set_option maxRecDepth 100000 in
theorem word_Check.calls (a0 : Int) (a1 : ByteArray) (r : Int) (w : World) (h : word_Check.f a0 a1 = some r) (hG : GL w) :
    Calls Tryz.prog 13 #[.int .i64 a0, .string a1] w fun e w' => e = .returned (.int .i64 r) ∧ Below w.heap.size w w' := by
  unfold word_Check.f at h
  split at h
  case isFalse => cases h
  rename_i hsz
  obtain rfl := Option.some.inj h
  clear h
  by_cases h1 : a0 < 1
  · have hp : chk a0 a1 = 1 := by unfold chk; rw [if_pos (Or.inl h1)]
    have HP := Aside0.mk hp
    clear hp
    go_enter Tryz.func13, Tryz.ntmps13
    go_wp2
    go_ret
    exact ⟨by rw [HP.out]; rfl, below_alloc (Below.refl _ _) _⟩
  · by_cases h2 : 8 < a0
    · have hp : chk a0 a1 = 1 := by unfold chk; rw [if_pos (Or.inr h2)]
      have HP := Aside0.mk hp
      clear hp
      have d1 : decide (a0 < 1) = false := decide_eq_false h1
      go_enter Tryz.func13, Tryz.ntmps13
      go_wp2
      go_ret
      exact ⟨by rw [HP.out]; rfl, below_alloc (Below.refl _ _) _⟩
    · have d1 : decide (a0 < 1) = false := decide_eq_false h1
      have d2 : decide (8 < a0) = false := decide_eq_false h2
      by_cases h3 : 100000 < a1.size
      · have hp : chk a0 a1 = 2 := by unfold chk; rw [if_neg (by omega), if_pos h3]
        have HP := Aside0.mk hp
        clear hp
        go_enter Tryz.func13, Tryz.ntmps13
        go_wp2
        go_ret
        exact ⟨by rw [HP.out]; rfl, below_alloc (Below.refl _ _) _⟩
      · have hp : chk a0 a1 = if decide (0 ≤ Lib.idxFunc (noLetter a0) true a1) = true then 4 else 0 := by unfold chk; rw [if_neg (by omega), if_neg h3]
        have HP := Aside0.mk hp
        clear hp
        have HPR := Lib.hid (fun W => Tryz.strings_ContainsFunc_runes 44 #[.pointer (some ⟨w.heap.size, 0, none⟩)] (enters_of Tryz.func44 (by kernel_rfl) rfl) (noLetter a0) a1 W)
        have HPP := Lib.hid (check_pred a0 (by omega) (by omega) w hG)
        cases hd : decide (0 ≤ Lib.idxFunc (noLetter a0) true a1) with
        | true =>
          simp only [hd] at HPR
          have e : (if decide (0 ≤ Lib.idxFunc (noLetter a0) true a1) = true then (4 : Int) else 0) = 4 := if_pos hd
          have E := Aside0.mk e
          clear e hd
          go_enter Tryz.func13, Tryz.ntmps13
          go_wp2_with (go_at_call 43; refine (HPR.out _ HPP.out).mono ?_; rintro e w1 ⟨rfl, hb⟩)
          go_ret
          exact ⟨by rw [HP.out, E.out]; rfl, below_then (below_alloc (Below.refl _ _) _) (by simp) hb⟩
        | false =>
          simp only [hd] at HPR
          have e : (if decide (0 ≤ Lib.idxFunc (noLetter a0) true a1) = true then (4 : Int) else 0) = 0 := if_neg (by rw [hd]; decide)
          have E := Aside0.mk e
          clear e hd
          go_enter Tryz.func13, Tryz.ntmps13
          go_wp2_with (go_at_call 43; refine (HPR.out _ HPP.out).mono ?_; rintro e w1 ⟨rfl, hb⟩)
          go_ret
          exact ⟨by rw [HP.out, E.out]; rfl, below_then (below_alloc (Below.refl _ _) _) (by simp) hb⟩
end Go.Proofs.YthiehmogphknlaaGreatDoor.G
namespace Go.Proofs.YthiehmogphknlaaGreatDoor.G
open Go.RowKit Go.Proofs.YthiehmogphknlaaGreatDoorW.PrintWords Go.Lib
def ascii (s : ByteArray) : Bool := s.data.toList.all fun b => decide (b.toNat < 128)
theorem ascii_at {s : ByteArray} (h : ascii s = true) (i : Nat) (hi : i < s.size) : (s[i]'hi).toNat < 128 := by
  unfold ascii at h
  rw [List.all_eq_true] at h
  have := h (s[i]'hi) (by
    rw [show s[i]'hi = s.data.toList[i]'(by simpa using hi) from rfl]
    exact List.getElem_mem _)
  simpa using this
def word_cutLeft.f (a0 a1 : ByteArray) : Option ByteArray :=
  if ascii a0 = true ∧ ascii a1 = true ∧ a1.size = 1 ∧ a0.size ≤ 9223372036854775807 then some ⟨(a0.data.toList.dropWhile (· == a1.data.toList.headD 0)).toArray⟩ else none
theorem cut_at (s : ByteArray) (c : UInt8) (pos : Nat) (hp : pos ≤ s.size) (h : ∀ j (hj : j < s.size), j < pos → s[j]'hj = c) (he : pos = s.size ∨ ∃ hj : pos < s.size, s[pos]'hj ≠ c) :
    s.data.toList.dropWhile (· == c) = s.data.toList.drop pos := by
  have key : ∀ (l : List UInt8) (n : Nat), n ≤ l.length → (∀ j (hj : j < l.length), j < n → l[j] = c) → (n = l.length ∨ ∃ hj : n < l.length, l[n] ≠ c) → l.dropWhile (· == c) = l.drop n := by
    intro l
    induction l with
    | nil => intro n _ _ _; simp
    | cons x l ih =>
      intro n hn h1 h2
      cases n with
      | zero =>
        rcases h2 with h2 | ⟨hj, h2⟩
        · simp at h2
        · rw [List.dropWhile_cons_of_neg (by simpa using h2)]; rfl
      | succ n =>
        have hx : x = c := h1 0 (by simp) (by omega)
        rw [List.dropWhile_cons_of_pos (by simpa using hx)]
        rw [List.drop_succ_cons]
        refine ih n (by simpa using hn) (fun j hj hjn => ?_) ?_
        · have := h1 (j + 1) (by simpa using hj) (by omega)
          simpa using this
        · rcases h2 with h2 | ⟨hj, h2⟩
          · exact .inl (by simpa using h2)
          · exact .inr ⟨by simpa using hj, by simpa using h2⟩
  refine key _ pos (by simpa using hp) (fun j hj hjn => ?_) ?_
  · exact h j (by simpa using hj) hjn
  · rcases he with he | ⟨hj, he⟩
    · exact .inl (by simpa using he)
    · exact .inr ⟨by simpa using hj, he⟩
theorem cut_ext (s : ByteArray) (pos : Nat) : (⟨(s.data.toList.drop pos).toArray⟩ : ByteArray) = s.extract pos s.size := by
  have := Lib.extract_to_end s pos
  rw [← Lib.mk_data (s.extract pos s.size), this]
theorem head_at (s : ByteArray) (h : s.size = 1) (h' : 0 < s.size) : s[0]'h' = s.data.toList.headD 0 := by
  obtain ⟨⟨l⟩⟩ := s
  match l, h with
  | [x], _ => rfl
set_option maxHeartbeats 2000000 in
set_option maxRecDepth 1000000 in
theorem word_cutLeft.calls (a0 a1 r : ByteArray) (w : World) (h : word_cutLeft.f a0 a1 = some r) :
    Calls Tryz.prog 49 #[.string a0, .string a1] w fun e w' => e = .returned (.string r) ∧ Below w.heap.size w w' := by
  unfold word_cutLeft.f at h
  split at h
  case isFalse => cases h
  rename_i hcond
  obtain ⟨hA0, hA1, h1, hsz⟩ := hcond
  obtain rfl := Option.some.inj h
  clear h
  obtain ⟨c, hc⟩ : ∃ c, a1.data.toList.headD 0 = c := ⟨_, rfl⟩
  rw [hc]
  have hc1 : ∀ h' : 0 < a1.size, a1[0]'h' = c := fun h' => (head_at a1 h1 h').trans hc
  have HA := Aside0.mk (And.intro hA0 (And.intro hA1 (And.intro h1 hc1)))
  clear hA0 hA1 hc hc1
  have H1 := Aside0.mk h1
  clear h1
  go_enter Tryz.func49, Tryz.ntmps49
  go_wp2
  go_loopg [] a0.size (fun gf wx => ∃ pos : Nat, wx.heap[w.heap.size]? = some (.stringIter a0 pos) ∧ Below w.heap.size w wx ∧ Aside0 (pos ≤ a0.size ∧ (∀ j (hj : j < a0.size), j < pos → a0[j]'hj = c) ∧ a0.size ≤ pos + gf))
  case atStart => exact ⟨0, World.iter_heap w a0 0, (Below.refl _ w).alloc (Nat.le_refl _) _, ⟨by omega, fun j hj hjp => by omega, by omega⟩⟩
  case round =>
    obtain ⟨wo, rfl⟩ : ∃ wo : World, wo = wr := ⟨_, rfl⟩
    obtain ⟨pos, hit, hbw, HK⟩ := hrel
    by_cases hps : pos < a0.size
    · obtain ⟨g', rfl⟩ : ∃ g', gk = g' + 1 := ⟨gk - 1, by have := HK.out.2.2; omega⟩
      have hnx : ∀ ty, (Instr.next (.pointer (some ⟨w.heap.size, 0, none⟩)) true ty).run Tryz.prog wo = _ := fun ty => Lib.run_next_any_at wo w.heap.size a0 pos ty hit hps
      rw [decode_ascii a0 pos hps (ascii_at HA.out.1 pos hps)] at hnx
      have hit2 := Lib.iterAt_heap wo w.heap.size a0 pos (pos + 1) hit
      have hbw2 := Lib.below_iterAt hbw (k := w.heap.size) (Nat.le_refl _) a0 (pos + 1)
      obtain ⟨W, hWd⟩ : ∃ W, wo.iterAt w.heap.size a0 (pos + 1) = W := ⟨_, rfl⟩
      dsimp only at hnx
      rw [hWd] at hnx hit2 hbw2
      clear hWd
      obtain ⟨R, hR⟩ : ∃ R : Nat, (a0[pos]'hps).toNat = R := ⟨_, rfl⟩
      rw [hR] at hnx
      have HR := Aside0.mk hR
      clear hR
      have hlt : w.heap.size < W.heap.size := by have := (Array.getElem?_eq_some_iff.1 hit2).1; exact this
      obtain ⟨D, hD⟩ : ∃ D : Nat, c.toNat = D := ⟨_, rfl⟩
      have HD := Aside0.mk hD
      clear hD
      obtain ⟨Bq, hBq⟩ : ∃ Bq : Bool, decide (R = D) = Bq := ⟨_, rfl⟩
      have HBq := Aside0.mk hBq
      have hq1 : ((R : Int) == (D : Int)) = Bq := by rw [← hBq]; by_cases e : R = D <;> simp [e] <;> omega
      have hq2 : decide (R = D) = Bq := hBq
      clear hBq
      go_wp2
      go_loopg [7] 1 (fun gf v7 wx => ∃ (p2 : Nat) (b7 : Bool), v7 = .bool b7 ∧ wx.heap[W.heap.size]? = some (.stringIter a1 p2) ∧ wx.heap[w.heap.size]? = some (.stringIter a0 (pos + 1)) ∧ Below w.heap.size w wx ∧ Aside0 ((p2 = 0 ∧ b7 = false ∧ gf = 1) ∨ (p2 = 1 ∧ b7 = Bq)))
      case atStart => exact ⟨0, false, rfl, World.iter_heap W a1 0, (Below.heap_alloc W _ _ hlt).trans hit2, hbw2.alloc (by omega) _, ⟨.inl ⟨rfl, rfl, rfl⟩⟩⟩
      case round =>
        obtain ⟨p2, b7, rfl, hi1, hi2, hb2, HQ⟩ := hrel
        by_cases hp2 : p2 = 0
        · subst hp2
          obtain ⟨rfl, rfl⟩ : b7 = false ∧ gk = 0 + 1 := by
            rcases HQ.out with ⟨_, h2, h3⟩ | ⟨h1, _⟩
            · exact ⟨h2, h3⟩
            · cases h1
          have hlen : 0 < a1.size := by have := H1.out; omega
          have hny : ∀ ty, (Instr.next (.pointer (some ⟨W.heap.size, 0, none⟩)) true ty).run Tryz.prog wr = _ := fun ty => Lib.run_next_any_at wr W.heap.size a1 0 ty hi1 hlen
          rw [decode_ascii a1 0 hlen (ascii_at HA.out.2.1 0 hlen), HA.out.2.2.2 hlen, HD.out] at hny
          dsimp only at hny
          have hi3 := Lib.iterAt_heap wr W.heap.size a1 0 (0 + 1) hi1
          have hi4 := (Lib.iterAt_other wr W.heap.size w.heap.size a1 (0 + 1) (by omega)).trans hi2
          have hb3 := Lib.below_iterAt hb2 (k := W.heap.size) (by omega) a1 (0 + 1)
          obtain ⟨V, hV⟩ : ∃ V, wr.iterAt W.heap.size a1 (0 + 1) = V := ⟨_, rfl⟩
          rw [hV] at hny hi3 hi4 hb3
          clear hV hi1 hi2 hb2
          go_wp2
          go_roundg 0
          case measure => omega
          case rel => exact ⟨1, Bq, rfl, hi3, hi4, hb3, ⟨.inr ⟨rfl, rfl⟩⟩⟩
        · obtain ⟨rfl, rfl⟩ : p2 = 1 ∧ b7 = Bq := by
            rcases HQ.out with ⟨h1, _⟩ | ⟨h1, h2⟩
            · exact absurd h1 hp2
            · exact ⟨h1, h2⟩
          have hend : ¬ 1 < a1.size := by have := H1.out; omega
          have hny : ∀ ty, (Instr.next (.pointer (some ⟨W.heap.size, 0, none⟩)) true ty).run Tryz.prog wr = _ := fun ty => Lib.run_next_end_at wr W.heap.size a1 1 ty hi1 hend
          cases b7 with
          | true =>
            go_wp2
            go_roundg g'
            case measure => omega
            case rel =>
              refine ⟨pos + 1, hi2, hb2, ⟨by omega, fun j hj hjp => ?_, by have := HK.out.2.2; omega⟩⟩
              by_cases e : j = pos
              · subst e
                have h1 : R = D := of_decide_eq_true HBq.out
                exact UInt8.toNat_inj.mp (by rw [HR.out, HD.out, h1])
              · exact HK.out.2.1 j hj (by omega)
          | false =>
            have hple : (pos : Int) ≤ a0.size := by omega
            go_wp2
            go_ret
            refine ⟨?_, hb2⟩
            have h1 : ¬ R = D := of_decide_eq_false HBq.out
            rw [cut_at a0 c pos (by omega) HK.out.2.1 (.inr ⟨hps, fun e => h1 (by rw [← HR.out, ← HD.out, e])⟩), cut_ext]
            rfl
    · have hnx : ∀ ty, (Instr.next (.pointer (some ⟨w.heap.size, 0, none⟩)) true ty).run Tryz.prog wo = _ := fun ty => Lib.run_next_end_at wo w.heap.size a0 pos ty hit hps
      go_wp2
      go_ret
      refine ⟨?_, hbw⟩
      have e : pos = a0.size := by have := HK.out.1; omega
      rw [cut_at a0 c pos (by omega) HK.out.2.1 (.inl e), List.drop_eq_nil_of_le (by rw [e]; simp)]
      rfl
end Go.Proofs.YthiehmogphknlaaGreatDoor.G
namespace Go.Proofs.YthiehmogphknlaaGreatDoor.G
open Go.RowKit Go.Proofs.YthiehmogphknlaaGreatDoorW.PrintWords
theorem grow_below {B : Nat} {w W : World} (h : Below B w W) (hB : B ≤ W.heap.size) (os : Array Obj) : Below B w (Sort.grow W os) :=
  h.trans ⟨rfl, rfl, rfl, by simp [Sort.grow], fun k hk => by
    show (W.heap ++ os)[k]? = _
    rw [Array.getElem?_append_left (by omega)]⟩
theorem add_plain' (b o j : Nat) : (⟨b, o, none⟩ : Addr).add j = ⟨b, o + j, none⟩ := by unfold Addr.add; split <;> simp_all
def strconv_Itoa.f (a0 : Int) : Option ByteArray := if -9223372036854775808 ≤ a0 ∧ a0 ≤ 9223372036854775807 then some ⟨(Lib.itoa a0).toArray⟩ else none
theorem strconv_Itoa.calls (a0 : Int) (r : ByteArray) (w : World) (h : strconv_Itoa.f a0 = some r) (hG : GL w) :
    Calls Tryz.prog 50 #[.int .i64 a0] w fun e w' => e = .returned (.string r) ∧ Below w.heap.size w w' := by
  unfold strconv_Itoa.f at h
  split at h
  case isFalse => cases h
  rename_i hb
  obtain rfl := Option.some.inj h
  refine (Tryz.strconv_Itoa a0 hb.1 hb.2 w hG.pow10).mono fun e w' ⟨he, k, os, hw⟩ => ⟨he, ?_⟩
  rw [hw]
  exact grow_below (pw_below_drewN (Below.refl _ _) k) (Nat.le_refl _) os
def strings_Repeat.f (a0 : ByteArray) (a1 : Int) : Option ByteArray := if 0 ≤ a1 ∧ a1 ≤ 9223372036854775807 ∧ a0.size * a1.toNat ≤ 140737488355328 then some ⟨(Lib.repeatL a0.data.toList a1.toNat).toArray⟩ else none
theorem strings_Repeat.calls (a0 : ByteArray) (a1 : Int) (r : ByteArray) (w : World) (h : strings_Repeat.f a0 a1 = some r) :
    Calls Tryz.prog 70 #[.string a0, .int .i64 a1] w fun e w' => e = .returned (.string r) ∧ Below w.heap.size w w' := by
  unfold strings_Repeat.f at h
  split at h
  case isFalse => cases h
  rename_i hb
  obtain rfl := Option.some.inj h
  obtain ⟨n, rfl⟩ := Int.eq_ofNat_of_zero_le hb.1
  exact Tryz.strings_Repeat a0 n w (by omega) (by have := hb.2.2; simpa using this)
def strings_Join.f (l0 : List ByteArray) (a1 : ByteArray) : Option ByteArray := if l0.length ≤ 140737488355328 ∧ (Lib.join (l0.map (·.data.toList)) a1.data.toList).length ≤ 140737488355328 then some ⟨(Lib.join (l0.map (·.data.toList)) a1.data.toList).toArray⟩ else none
theorem strings_Join.calls (A0 : Option Addr) (c0 : Nat) (l0 : List ByteArray) (a1 : ByteArray) (r : ByteArray) (w : World) (hr0 : Kd.C Kd.string w A0 l0.length l0) (hc0 : l0.length ≤ c0) (h : strings_Join.f l0 a1 = some r) :
    Calls Tryz.prog 51 #[.slice A0 l0.length c0, .string a1] w fun e w' => e = .returned (.string r) ∧ Below w.heap.size w w' := by
  unfold strings_Join.f at h
  split at h
  case isFalse => cases h
  rename_i hb
  obtain rfl := Option.some.inj h
  by_cases h0 : l0.length = 0
  · obtain rfl := List.eq_nil_of_length_eq_zero h0
    refine (Tryz.strings_Join_none A0 c0 a1 w).mono fun e w' ⟨he, hw⟩ => ⟨?_, hw ▸ Below.refl _ _⟩
    rw [he]; rfl
  · obtain ⟨ad, rfl, hc⟩ := Kd.at_string hr0 0 (by omega) (by omega)
    have hs : ad.spot = none := by
      have e : ad.add (0 : Int).toNat = ad := rfl
      rw [e] at hc
      cases hq : ad.spot with
      | none => rfl
      | some q =>
        unfold World.cell? at hc
        rw [hq] at hc
        split at hc <;> simp at hc
    obtain ⟨bk, o, sp⟩ := ad
    simp only at hs
    subst hs
    have hlt := World.block_lt_of_cell? w _ hc
    refine Tryz.strings_Join bk o c0 l0 a1 w (fun j x hx => ?_) hlt hb.1 hc0 hb.2
    have hj : j < l0.length := (List.getElem?_eq_some_iff.1 hx).1
    obtain ⟨ad, e, hcj⟩ := Kd.at_string hr0 (j : Int) (by omega) (by omega)
    obtain rfl := Option.some.inj e
    have hg : rdOf ByteArray.empty l0 (j : Int) = x := by
      unfold rdOf
      rw [Int.toNat_natCast, List.getD_eq_getElem?_getD, hx]
      rfl
    rw [hg, Int.toNat_natCast, add_plain' bk o j] at hcj
    exact hcj
end Go.Proofs.YthiehmogphknlaaGreatDoor.G
