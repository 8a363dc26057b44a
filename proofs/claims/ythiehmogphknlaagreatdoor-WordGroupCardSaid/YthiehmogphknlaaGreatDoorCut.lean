/- word.cutLeft at a text of ASCII and a set of one ASCII byte: the text without that byte at its begin. -/
import Derived.Test.YthiehmogphknlaaGreatDoorG
import Derived.Deep.LoopGhost
import Derived.Deep.QuietTactic
import Derived.BigQuiet
import Derived.Lib.Hide
import Derived.Lib.OthersKept
import Derived.Lib.IndexBytes
import Derived.Laws.RangeString
namespace Go.Proofs.YthiehmogphknlaaGreatDoor.G
open Go.RowKit Go.Proofs.YthiehmogphknlaaGreatDoorW.PrintWords Go.Lib

def ascii (s : ByteArray) : Bool := s.data.toList.all fun b => decide (b.toNat < 128)
theorem ascii_at {s : ByteArray} (h : ascii s = true) (i : Nat) (hi : i < s.size) : (s[i]'hi).toNat < 128 := by
  unfold ascii at h
  rw [List.all_eq_true] at h
  have := h (s[i]'hi) (by
    rw [show s[i]'hi = s.data.toList[i]'(by simpa using hi) from rfl]
    exact List.getElem_mem _)
  simpa using this

def word_cutLeft.f (a0 a1 : ByteArray) : Option ByteArray :=
  if ascii a0 = true ∧ ascii a1 = true ∧ a1.size = 1 ∧ a0.size ≤ 9223372036854775807 then some ⟨(a0.data.toList.dropWhile (· == a1.data.toList.headD 0)).toArray⟩ else none

theorem cut_at (s : ByteArray) (c : UInt8) (pos : Nat) (hp : pos ≤ s.size) (h : ∀ j (hj : j < s.size), j < pos → s[j]'hj = c) (he : pos = s.size ∨ ∃ hj : pos < s.size, s[pos]'hj ≠ c) :
    s.data.toList.dropWhile (· == c) = s.data.toList.drop pos := by
  have key : ∀ (l : List UInt8) (n : Nat), n ≤ l.length → (∀ j (hj : j < l.length), j < n → l[j] = c) → (n = l.length ∨ ∃ hj : n < l.length, l[n] ≠ c) → l.dropWhile (· == c) = l.drop n := by
    intro l
    induction l with
    | nil => intro n _ _ _; simp
    | cons x l ih =>
      intro n hn h1 h2
      cases n with
      | zero =>
        rcases h2 with h2 | ⟨hj, h2⟩
        · simp at h2
        · rw [List.dropWhile_cons_of_neg (by simpa using h2)]; rfl
      | succ n =>
        have hx : x = c := h1 0 (by simp) (by omega)
        rw [List.dropWhile_cons_of_pos (by simpa using hx)]
        rw [List.drop_succ_cons]
        refine ih n (by simpa using hn) (fun j hj hjn => ?_) ?_
        · have := h1 (j + 1) (by simpa using hj) (by omega)
          simpa using this
        · rcases h2 with h2 | ⟨hj, h2⟩
          · exact .inl (by simpa using h2)
          · exact .inr ⟨by simpa using hj, by simpa using h2⟩
  refine key _ pos (by simpa using hp) (fun j hj hjn => ?_) ?_
  · exact h j (by simpa using hj) hjn
  · rcases he with he | ⟨hj, he⟩
    · exact .inl (by simpa using he)
    · exact .inr ⟨by simpa using hj, he⟩

theorem cut_ext (s : ByteArray) (pos : Nat) : (⟨(s.data.toList.drop pos).toArray⟩ : ByteArray) = s.extract pos s.size := by
  have := Lib.extract_to_end s pos
  rw [← Lib.mk_data (s.extract pos s.size), this]
theorem head_at (s : ByteArray) (h : s.size = 1) (h' : 0 < s.size) : s[0]'h' = s.data.toList.headD 0 := by
  obtain ⟨⟨l⟩⟩ := s
  match l, h with
  | [x], _ => rfl

set_option maxHeartbeats 2000000 in
set_option maxRecDepth 1000000 in
theorem word_cutLeft.calls (a0 a1 r : ByteArray) (w : World) (h : word_cutLeft.f a0 a1 = some r) :
    Calls Tryz.prog 49 #[.string a0, .string a1] w fun e w' => e = .returned (.string r) ∧ Below w.heap.size w w' := by
  unfold word_cutLeft.f at h
  split at h
  case isFalse => cases h
  rename_i hcond
  obtain ⟨hA0, hA1, h1, hsz⟩ := hcond
  obtain rfl := Option.some.inj h
  clear h
  obtain ⟨c, hc⟩ : ∃ c, a1.data.toList.headD 0 = c := ⟨_, rfl⟩
  rw [hc]
  have hc1 : ∀ h' : 0 < a1.size, a1[0]'h' = c := fun h' => (head_at a1 h1 h').trans hc
  have HA := Aside0.mk (And.intro hA0 (And.intro hA1 (And.intro h1 hc1)))
  clear hA0 hA1 hc hc1
  have H1 := Aside0.mk h1
  clear h1
  go_enter Tryz.func49, Tryz.ntmps49
  go_wp2
  go_loopg [] a0.size (fun gf wx => ∃ pos : Nat, wx.heap[w.heap.size]? = some (.stringIter a0 pos) ∧ Below w.heap.size w wx ∧ Aside0 (pos ≤ a0.size ∧ (∀ j (hj : j < a0.size), j < pos → a0[j]'hj = c) ∧ a0.size ≤ pos + gf))
  case atStart => exact ⟨0, World.iter_heap w a0 0, (Below.refl _ w).alloc (Nat.le_refl _) _, ⟨by omega, fun j hj hjp => by omega, by omega⟩⟩
  case round =>
    obtain ⟨wo, rfl⟩ : ∃ wo : World, wo = wr := ⟨_, rfl⟩
    obtain ⟨pos, hit, hbw, HK⟩ := hrel
    by_cases hps : pos < a0.size
    · obtain ⟨g', rfl⟩ : ∃ g', gk = g' + 1 := ⟨gk - 1, by have := HK.out.2.2; omega⟩
      have hnx : ∀ ty, (Instr.next (.pointer (some ⟨w.heap.size, 0, none⟩)) true ty).run Tryz.prog wo = _ := fun ty => Lib.run_next_any_at wo w.heap.size a0 pos ty hit hps
      rw [decode_ascii a0 pos hps (ascii_at HA.out.1 pos hps)] at hnx
      have hit2 := Lib.iterAt_heap wo w.heap.size a0 pos (pos + 1) hit
      have hbw2 := Lib.below_iterAt hbw (k := w.heap.size) (Nat.le_refl _) a0 (pos + 1)
      obtain ⟨W, hWd⟩ : ∃ W, wo.iterAt w.heap.size a0 (pos + 1) = W := ⟨_, rfl⟩
      dsimp only at hnx
      rw [hWd] at hnx hit2 hbw2
      clear hWd
      obtain ⟨R, hR⟩ : ∃ R : Nat, (a0[pos]'hps).toNat = R := ⟨_, rfl⟩
      rw [hR] at hnx
      have HR := Aside0.mk hR
      clear hR
      have hlt : w.heap.size < W.heap.size := by have := (Array.getElem?_eq_some_iff.1 hit2).1; exact this
      obtain ⟨D, hD⟩ : ∃ D : Nat, c.toNat = D := ⟨_, rfl⟩
      have HD := Aside0.mk hD
      clear hD
      obtain ⟨Bq, hBq⟩ : ∃ Bq : Bool, decide (R = D) = Bq := ⟨_, rfl⟩
      have HBq := Aside0.mk hBq
      have hq1 : ((R : Int) == (D : Int)) = Bq := by rw [← hBq]; by_cases e : R = D <;> simp [e] <;> omega
      have hq2 : decide (R = D) = Bq := hBq
      clear hBq
      go_wp2
      go_loopg [7] 1 (fun gf v7 wx => ∃ (p2 : Nat) (b7 : Bool), v7 = .bool b7 ∧ wx.heap[W.heap.size]? = some (.stringIter a1 p2) ∧ wx.heap[w.heap.size]? = some (.stringIter a0 (pos + 1)) ∧ Below w.heap.size w wx ∧ Aside0 ((p2 = 0 ∧ b7 = false ∧ gf = 1) ∨ (p2 = 1 ∧ b7 = Bq)))
      case atStart => exact ⟨0, false, rfl, World.iter_heap W a1 0, (Below.heap_alloc W _ _ hlt).trans hit2, hbw2.alloc (by omega) _, ⟨.inl ⟨rfl, rfl, rfl⟩⟩⟩
      case round =>
        obtain ⟨p2, b7, rfl, hi1, hi2, hb2, HQ⟩ := hrel
        by_cases hp2 : p2 = 0
        · subst hp2
          obtain ⟨rfl, rfl⟩ : b7 = false ∧ gk = 0 + 1 := by
            rcases HQ.out with ⟨_, h2, h3⟩ | ⟨h1, _⟩
            · exact ⟨h2, h3⟩
            · cases h1
          have hlen : 0 < a1.size := by have := H1.out; omega
          have hny : ∀ ty, (Instr.next (.pointer (some ⟨W.heap.size, 0, none⟩)) true ty).run Tryz.prog wr = _ := fun ty => Lib.run_next_any_at wr W.heap.size a1 0 ty hi1 hlen
          rw [decode_ascii a1 0 hlen (ascii_at HA.out.2.1 0 hlen), HA.out.2.2.2 hlen, HD.out] at hny
          dsimp only at hny
          have hi3 := Lib.iterAt_heap wr W.heap.size a1 0 (0 + 1) hi1
          have hi4 := (Lib.iterAt_other wr W.heap.size w.heap.size a1 (0 + 1) (by omega)).trans hi2
          have hb3 := Lib.below_iterAt hb2 (k := W.heap.size) (by omega) a1 (0 + 1)
          obtain ⟨V, hV⟩ : ∃ V, wr.iterAt W.heap.size a1 (0 + 1) = V := ⟨_, rfl⟩
          rw [hV] at hny hi3 hi4 hb3
          clear hV hi1 hi2 hb2
          go_wp2
          go_roundg 0
          case measure => omega
          case rel => exact ⟨1, Bq, rfl, hi3, hi4, hb3, ⟨.inr ⟨rfl, rfl⟩⟩⟩
        · obtain ⟨rfl, rfl⟩ : p2 = 1 ∧ b7 = Bq := by
            rcases HQ.out with ⟨h1, _⟩ | ⟨h1, h2⟩
            · exact absurd h1 hp2
            · exact ⟨h1, h2⟩
          have hend : ¬ 1 < a1.size := by have := H1.out; omega
          have hny : ∀ ty, (Instr.next (.pointer (some ⟨W.heap.size, 0, none⟩)) true ty).run Tryz.prog wr = _ := fun ty => Lib.run_next_end_at wr W.heap.size a1 1 ty hi1 hend
          cases b7 with
          | true =>
            go_wp2
            go_roundg g'
            case measure => omega
            case rel =>
              refine ⟨pos + 1, hi2, hb2, ⟨by omega, fun j hj hjp => ?_, by have := HK.out.2.2; omega⟩⟩
              by_cases e : j = pos
              · subst e
                have h1 : R = D := of_decide_eq_true HBq.out
                exact UInt8.toNat_inj.mp (by rw [HR.out, HD.out, h1])
              · exact HK.out.2.1 j hj (by omega)
          | false =>
            have hple : (pos : Int) ≤ a0.size := by omega
            go_wp2
            go_ret
            refine ⟨?_, hb2⟩
            have h1 : ¬ R = D := of_decide_eq_false HBq.out
            rw [cut_at a0 c pos (by omega) HK.out.2.1 (.inr ⟨hps, fun e => h1 (by rw [← HR.out, ← HD.out, e])⟩), cut_ext]
            rfl
    · have hnx : ∀ ty, (Instr.next (.pointer (some ⟨w.heap.size, 0, none⟩)) true ty).run Tryz.prog wo = _ := fun ty => Lib.run_next_end_at wo w.heap.size a0 pos ty hit hps
      go_wp2
      go_ret
      refine ⟨?_, hbw⟩
      have e : pos = a0.size := by have := HK.out.1; omega
      rw [cut_at a0 c pos (by omega) HK.out.2.1 (.inl e), List.drop_eq_nil_of_le (by rw [e]; simp)]
      rfl

end Go.Proofs.YthiehmogphknlaaGreatDoor.G
