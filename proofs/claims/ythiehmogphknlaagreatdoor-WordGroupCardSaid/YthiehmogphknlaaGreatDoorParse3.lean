/- The parser's base, over a reading of what stands in brackets. -/
import Derived.Test.YthiehmogphknlaaGreatDoorParse2
namespace Go.Proofs.YthiehmogphknlaaGreatDoor.Parse
open Go.RowKit Go.Proofs.YthiehmogphknlaaGreatDoor.G Go.Proofs.YthiehmogphknlaaGreatDoor.PA Go.Proofs.YthiehmogphknlaaGreatDoorW.PrintWords Go.Proofs.YthiehmogphknlaaGreatDoor.Free Go.Proofs.YthiehmogphknlaaGreatDoor.Pure1

/-- The tables lie, and the parser's variable lies above them. -/
def GP (g : Nat) (w : World) : Prop := ∃ w0, GL w0 ∧ Below w0.heap.size w0 w ∧ w0.heap.size ≤ g
theorem GP.gl {g : Nat} {w : World} (h : GP g w) : GL w := let ⟨_, hg, hb, _⟩ := h; hg.step hb
theorem GP.kp {g : Nat} {w w' : World} (h : GP g w) (hk : Kp g w w') : GP g w' :=
  let ⟨w0, hg, hb, hl⟩ := h; ⟨w0, hg, hb.trans (hk.below hl hb.size), hl⟩

theorem inverse_any (s : ByteArray) (hs : s.size ≤ 140737488355328) (w : World) :
    Calls Tryz.prog 46 #[.string s] w fun e w' => e = .returned (.string (B (inv (L s)))) ∧ Below w.heap.size w w' := by
  obtain ⟨k, hk⟩ := (inverse_ev s hs).rounds
  exact word_inverse.calls k s _ w hk
theorem reduce_any (A : Option Addr) (c : Nat) (l : List ByteArray) (w : World) (hr : Kd.C Kd.string w A l.length l) (hc : l.length ≤ c) (hl : (cat l).length < 140737488355328) (hn : l.length ≤ 9223372036854775806) :
    Calls Tryz.prog 47 #[.slice A l.length c] w fun e w' => e = .returned (.string (B (red (cat l)))) ∧ Below w.heap.size w w' := by
  obtain ⟨k, hk⟩ := (reduce_ev l hl hn).rounds
  exact word_reduce.calls k A c l _ w hr hc hk
theorem power_some (s : ByteArray) (hs : s.size ≤ 1000000) (n : Int) (h0 : -9223372036854775808 < n) (h1 : n ≤ 9223372036854775807) (x : List UInt8) (hx : powL (L s) n = some x) (w : World) :
    Calls Tryz.prog 56 #[.string s, .int .i64 n] w fun e w' => e = .returned (.tuple #[.string (B x), .bool true]) ∧ Below w.heap.size w w' := by
  obtain ⟨k, hk⟩ := (power_ev s hs n h0 h1).rounds
  rw [hx] at hk
  exact word_power.calls k s n _ _ w hk
theorem power_none (s : ByteArray) (hs : s.size ≤ 1000000) (n : Int) (h0 : -9223372036854775808 < n) (h1 : n ≤ 9223372036854775807) (hx : powL (L s) n = none) (w : World) :
    Calls Tryz.prog 56 #[.string s, .int .i64 n] w fun e w' => e = .returned (.tuple #[.string (B []), .bool false]) ∧ Below w.heap.size w w' := by
  obtain ⟨k, hk⟩ := (power_ev s hs n h0 h1).rounds
  rw [hx] at hk
  exact word_power.calls k s n _ _ w hk

/-- What a reading comes to. -/
def POut (g : Nat) (k : Int) (w : World) (r : Option (List UInt8 × List UInt8 × Bool)) (e : Ending) (w' : World) : Prop :=
  match r with
  | none => e = .panicked bad ∧ Kp g w w'
  | some (v, l, o) => e = .returned (.string (B v)) ∧ PS g k w' l o ∧ Kp g w w'

/-- Lengths: no value is longer than a word; something has been read; what is over stays over. -/
def Good (F : List UInt8 → Bool → Res (List UInt8)) : Prop := ∀ l o v l' o', F l o = some (some (v, l', o')) → v.length ≤ 100000 ∧ l'.length < l.length ∧ (o = true → o' = true)
theorem trimL_le (l : List UInt8) : (trimL l).length ≤ l.length := by unfold trimL Lib.trimLeftB; exact (List.dropWhile_suffix _).length_le
theorem expectP_le {c : Int} {l l' : List UInt8} (h : expectP c l = some l') : l'.length ≤ l.length := by
  unfold expectP at h
  split at h
  · cases h
  · obtain rfl := Option.some.inj h
    exact Nat.le_trans (by simp) (trimL_le l)
theorem expoP_le {l l' : List UInt8} {n : Int} (h : expoP l = some (n, l')) : l'.length ≤ l.length := by
  unfold expoP at h
  dsimp only at h
  have h1 : (trimL (if hdC (trimL l) = 45 then (trimL l).tail else trimL l)).length ≤ l.length := by
    refine Nat.le_trans (trimL_le _) ?_
    split
    · exact Nat.le_trans (by simp) (trimL_le l)
    · exact trimL_le l
  generalize trimL (if hdC (trimL l) = 45 then (trimL l).tail else trimL l) = t at h h1
  split at h
  · cases h
  · simp only [Option.some.injEq, Prod.mk.injEq] at h
    obtain ⟨_, rfl⟩ := h
    exact Nat.le_trans (by simp) h1
theorem bind_some {α β : Type} {r : Res α} {f : α → List UInt8 → Bool → Res β} {x : β × List UInt8 × Bool} (h : Res.bind r f = some (some x)) : ∃ a l o, r = some (some (a, l, o)) ∧ f a l o = some (some x) := by
  unfold Res.bind at h
  split at h
  · cases h
  · cases h
  · exact ⟨_, _, _, rfl, h⟩
theorem bind_none {α β : Type} {r : Res α} {f : α → List UInt8 → Bool → Res β} (h : Res.bind r f = some none) : r = some none ∨ ∃ a l o, r = some (some (a, l, o)) ∧ f a l o = some none := by
  unfold Res.bind at h
  split at h
  · cases h
  · exact .inl rfl
  · exact .inr ⟨_, _, _, rfl, h⟩
theorem over_false {n : Nat} {o : Bool} (h : ¬ over n o = true) : n ≤ 100000 ∧ o = false := by
  unfold over at h
  cases o
  · simp at h; exact ⟨h, rfl⟩
  · simp at h
theorem powL_le {l x : List UInt8} {n : Int} (h : powL l n = some x) : x.length ≤ 100000 := by
  unfold powL at h
  dsimp only at h
  generalize (if n < 0 then inv (cyc (red l)).2 else (cyc (red l)).2) = y at h
  split at h
  · obtain rfl := Option.some.inj h; simp
  · split at h
    · cases h
    · rename_i hb
      obtain rfl := Option.some.inj h
      rw [List.length_append, List.length_append, inv_length, Lib.repeatL_length, Nat.mul_comm]
      omega
theorem over_mono {n : Nat} {o : Bool} (h : o = true) : over n o = true := by unfold over; rw [h]; rfl
theorem tail_lt {l : List UInt8} (h : hdC l ≠ 0) : l.tail.length < l.length := by
  cases l with
  | nil => exact absurd rfl h
  | cons c t => simp
theorem base_good {sum : Int → List UInt8 → Bool → Res (List UInt8)} (k d : Int) (hs : Good (sum (d + 1))) : Good (baseP sum k d) := by
  intro l o v l' o' h
  unfold baseP at h
  dsimp only at h
  have ht := trimL_le l
  split at h
  · rename_i hc
    have htl := tail_lt (l := trimL l) (by rw [hc]; decide)
    simp only [Option.some.injEq, Prod.mk.injEq] at h
    obtain ⟨rfl, rfl, rfl⟩ := h
    exact ⟨by simp, by omega, id⟩
  · split at h
    · rename_i hc
      have htl := tail_lt (l := trimL l) (by rw [hc]; decide)
      obtain ⟨a, la, oa, h1, h2⟩ := bind_some h
      have g1 := hs _ _ _ _ _ h1
      split at h2
      · cases h2
      · rename_i lb hb
        have := expectP_le hb
        simp only [Option.some.injEq, Prod.mk.injEq] at h2
        obtain ⟨rfl, rfl, rfl⟩ := h2
        exact ⟨g1.1, by omega, fun ho => g1.2.2 (by rw [ho]; rfl)⟩
    · split at h
      · rename_i hc
        have htl := tail_lt (l := trimL l) (by rw [hc]; decide)
        obtain ⟨a, la, oa, h1, h2⟩ := bind_some h
        have g1 := hs _ _ _ _ _ h1
        split at h2
        · cases h2
        · rename_i lb hb
          have e1 := expectP_le hb
          obtain ⟨b, lc, oc, h3, h4⟩ := bind_some h2
          have g2 := hs _ _ _ _ _ h3
          split at h4
          · cases h4
          · rename_i ld hd
            have e2 := expectP_le hd
            split at h4
            · simp only [Option.some.injEq, Prod.mk.injEq] at h4
              obtain ⟨rfl, rfl, rfl⟩ := h4
              exact ⟨by simp, by omega, fun _ => rfl⟩
            · rename_i ho
              have := over_false ho
              simp only [Option.some.injEq, Prod.mk.injEq] at h4
              obtain ⟨rfl, rfl, rfl⟩ := h4
              refine ⟨Nat.le_trans (red_length _) ?_, by omega, fun ho => g2.2.2 (g1.2.2 (by rw [ho]; rfl))⟩
              simp only [List.length_append, inv_length]
              omega
      · split at h
        · rename_i hc
          have htl := tail_lt (l := trimL l) hc.1
          simp only [Option.some.injEq, Prod.mk.injEq] at h
          obtain ⟨rfl, rfl, rfl⟩ := h
          refine ⟨?_, by omega, id⟩
          rw [List.length_take]; omega
        · cases h
theorem factor_good {base : List UInt8 → Bool → Res (List UInt8)} (hb : Good base) : Good (factorP base) := by
  intro l o v l' o' h
  unfold factorP at h
  obtain ⟨w, l1, o1, h1, h2⟩ := bind_some h
  have g1 := hb _ _ _ _ _ h1
  have t1 := trimL_le l1
  split at h2
  · simp only [Option.some.injEq, Prod.mk.injEq] at h2
    obtain ⟨rfl, rfl, rfl⟩ := h2
    exact ⟨g1.1, by omega, g1.2.2⟩
  · split at h2
    · cases h2
    · rename_i n l2 he
      have e1 := expoP_le he
      have e2 : (trimL l1).tail.length ≤ (trimL l1).length := by simp
      split at h2
      · simp only [Option.some.injEq, Prod.mk.injEq] at h2
        obtain ⟨rfl, rfl, rfl⟩ := h2
        exact ⟨by simp, by omega, fun _ => rfl⟩
      · split at h2
        · simp only [Option.some.injEq, Prod.mk.injEq] at h2
          obtain ⟨rfl, rfl, rfl⟩ := h2
          exact ⟨by simp, by omega, g1.2.2⟩
        · rename_i x hx
          simp only [Option.some.injEq, Prod.mk.injEq] at h2
          obtain ⟨rfl, rfl, rfl⟩ := h2
          exact ⟨powL_le hx, by omega, g1.2.2⟩
theorem loop_good {fac : List UInt8 → Bool → Res (List UInt8)} (hf : Good fac) : ∀ (f : Nat) (ws : List (List UInt8)) (n : Nat) (l : List UInt8) (o : Bool) (v l' : List UInt8) (o' : Bool), ws.flatten.length = n → n ≤ 100000 →
    loopP fac f ws n l o = some (some (v, l', o')) → v.length ≤ 100000 ∧ l'.length ≤ l.length ∧ (o = true → o' = true) := by
  intro f
  induction f with
  | zero => intro ws n l o v l' o' _ _ h; cases h
  | succ f ih =>
    intro ws n l o v l' o' hn hb h
    rw [loopP] at h
    split at h
    · simp only [Option.some.injEq, Prod.mk.injEq] at h
      obtain ⟨rfl, rfl, rfl⟩ := h
      exact ⟨Nat.le_trans (red_length _) (by omega), Nat.le_refl _, id⟩
    · obtain ⟨w, l1, o1, h1, h2⟩ := bind_some h
      have g1 := hf _ _ _ _ _ h1
      have t1 := trimL_le l1
      split at h2
      · have := ih [] 0 _ _ _ _ _ rfl (by omega) h2
        exact ⟨this.1, by omega, fun _ => this.2.2 rfl⟩
      · rename_i ho
        have := over_false ho
        have := ih (ws ++ [w]) (n + w.length) _ _ _ _ _ (by rw [List.flatten_append, List.length_append, hn]; simp) (by omega) h2
        exact ⟨this.1, by omega, fun h => this.2.2 (g1.2.2 h)⟩
theorem sum_good (k : Int) : ∀ (f : Nat) (d : Int), Good (sumN k f d) := by
  intro f
  induction f with
  | zero => intro d l o v l' o' h; cases h
  | succ f ih =>
    intro d l o v l' o' h
    rw [sumN, sumP] at h
    have hf := factor_good (base_good (sum := sumN k f) k d (ih (d + 1)))
    obtain ⟨w, l1, o1, h1, h2⟩ := bind_some h
    have g1 := hf _ _ _ _ _ h1
    have t1 := trimL_le l1
    have := loop_good hf f [w] w.length _ _ _ _ _ (by simp) g1.1 h2
    exact ⟨this.1, by omega, fun h => this.2.2 (g1.2.2 h)⟩

end Go.Proofs.YthiehmogphknlaaGreatDoor.Parse
