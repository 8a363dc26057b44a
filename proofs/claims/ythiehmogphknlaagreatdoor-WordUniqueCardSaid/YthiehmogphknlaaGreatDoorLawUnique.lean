/- WordUnique: the plain law. -/
import Derived.Test.YthiehmogphknlaaGreatDoorRef
import Derived.Test.YthiehmogphknlaaGreatDoorPUx2
import Derived.Test.YthiehmogphknlaaGreatDoorOpens
namespace Go.Proofs.YthiehmogphknlaaGreatDoor.Laws
open Go.RowKit Go.Proofs.YthiehmogphknlaaGreatDoor.G Go.Proofs.YthiehmogphknlaaGreatDoor.PA Go.Proofs.YthiehmogphknlaaGreatDoor.PU Go.Proofs.YthiehmogphknlaaGreatDoorW.PrintWords Go.Proofs.YthiehmogphknlaaGreatDoor.Free Go.Proofs.YthiehmogphknlaaGreatDoor.Pure1 Go.Proofs.YthiehmogphknlaaGreatDoor.Opens

theorem split_two (x : List UInt8) (p : Nat) (h : p + 1 < x.length) : x = x.take p ++ x[p] :: x[p + 1] :: x.drop (p + 2) := by
  rw [← List.drop_eq_getElem_cons h, ← List.drop_eq_getElem_cons (by omega), List.take_append_drop]

/-- What edits leave. -/
structure Kept (n : Nat) (x y : ByteArray) : Prop where
  red : Free.red (L y) = Free.red (L x)
  lets : ∀ c ∈ L y, isL c = true
  size : y.size ≤ x.size + n
theorem Kept.trans {n m : Nat} {x y z : ByteArray} (h : Kept n x y) (k : Kept m y z) : Kept (n + m) x z := ⟨k.red.trans h.red, k.lets, by have := h.size; have := k.size; omega⟩

theorem edited_l0 (l : List S78) (hl : l.length ≤ 200) : ∀ (d i : Nat) (x : ByteArray), i + d = l.length → x.size ≤ 10000 + 2 * i → (∀ c ∈ L x, isL c = true) →
    ∃ y, Ev (fun k => cayleylaw01_Edited.l0 k x l (i : Int)) y ∧ Kept (2 * d) x y := by
  intro d
  induction d with
  | zero =>
    intro i x hi hx hL
    refine ⟨x, ev_some _ _ (fun k => ?_), ⟨rfl, hL, by omega⟩⟩
    simp only [cayleylaw01_Edited.l0]
    rw [if_neg (by omega)]
  | succ d ih =>
    intro i x hi hx hL
    obtain ⟨⟨a, b, c⟩, he⟩ : ∃ e, rd_T78 l (i : Int) = e := ⟨_, rfl⟩
    have hw := w64_succ i (by omega)
    have hnx : ∀ y, Ev (fun k => cayleylaw01_Edited.l0 k y l ((i + 1 : Nat) : Int)) = Ev (fun k => cayleylaw01_Edited.l0 k y l (wrap64 ((i : Int) + 1))) := fun y => by rw [hw]
    -- nothing is done
    have skip : ∃ y, Ev (fun k => cayleylaw01_Edited.l0 k x l (wrap64 ((i : Int) + 1))) y ∧ Kept (2 * (d + 1)) x y := by
      obtain ⟨y, h1, h2⟩ := ih (i + 1) x (by omega) (by omega) hL
      rw [hnx] at h1
      exact ⟨y, h1, ⟨h2.red, h2.lets, by have := h2.size; omega⟩⟩
    cases c with
    | true =>
      by_cases h0 : a ≥ 0
      · obtain ⟨p, rfl⟩ := Int.eq_ofNat_of_zero_le h0
        have hw1 : wrap64 ((x.size : Int) - 1) = (x.size : Int) - 1 := by unfold wrap64; omega
        by_cases h1 : (p : Int) < (x.size : Int) - 1
        · have h2 : p + 1 < (L x).length := by rw [← size_L]; omega
          have hs : x.size = (L x).length := size_L x
          have hw2 := w64_succ p (by omega)
          have hw3 : wrap64 ((p : Int) + 2) = ((p + 2 : Nat) : Int) := by unfold wrap64; omega
          have hb1 := bt_nat x p (by omega)
          have hb2 := bt_nat x (p + 1) h2
          have ho : ∀ k, cayleyref01_Other.f (k + 1) (bt x ((p + 1 : Nat) : Int)) = some ((oth ((L x)[p + 1])).toNat : Int) := fun k => by rw [hb2]; exact rOther k _ (hL _ (List.getElem_mem _))
          by_cases hq : (L x)[p] = oth ((L x)[p + 1])
          · obtain ⟨z, hz⟩ : ∃ z, x.extract 0 ((p : Int)).toNat ++ x.extract (((p + 2 : Nat) : Int)).toNat x.size = z := ⟨_, rfl⟩
            have hzL : L z = (L x).take p ++ (L x).drop (p + 2) := by
              rw [← hz, append_L, extract_L, extract_L, L_B, L_B, L_B, Int.toNat_natCast, Int.toNat_natCast, List.drop_zero, Nat.sub_zero, List.take_of_length_le (l := (L x).drop (p + 2)) (by rw [List.length_drop, hs]; exact Nat.le_refl _)]
            have hzs : z.size ≤ x.size := by
              rw [size_L, hzL, List.length_append, List.length_take, List.length_drop, hs]; omega
            have hzs2 : (x.extract 0 ((p : Int)).toNat).size + (x.extract (((p + 2 : Nat) : Int)).toNat x.size).size ≤ 9223372036854775807 := by
              have : (x.extract 0 ((p : Int)).toNat ++ x.extract (((p + 2 : Nat) : Int)).toNat x.size).size = (x.extract 0 ((p : Int)).toNat).size + (x.extract (((p + 2 : Nat) : Int)).toNat x.size).size := ByteArray.size_append
              rw [← this, hz]; omega
            have hk : Kept 0 x z := by
              refine ⟨?_, ?_, by omega⟩
              · have e := split_two (L x) p h2
                have hq2 : (L x)[p + 1] = oth ((L x)[p]) := by rw [hq, oth_oth]
                rw [hq2] at e
                rw [hzL]
                conv => rhs; rw [e]
                rw [red_pair]
              · rw [hzL]
                intro c hc
                rcases List.mem_append.1 hc with hc | hc
                · exact hL c (List.mem_of_mem_take hc)
                · exact hL c (List.mem_of_mem_drop hc)
            obtain ⟨y, h3, h4⟩ := ih (i + 1) z (by omega) (by omega) hk.lets
            rw [hnx] at h3
            refine ⟨y, ?_, ⟨h4.red.trans hk.red, h4.lets, by have := h4.size; omega⟩⟩
            refine Ev.step (f := fun k => (cayleyref01_Other.f k (bt x ((p + 1 : Nat) : Int))).bind fun t => if bt x (p : Int) = t then cayleylaw01_Edited.l0 k z l (wrap64 ((i : Int) + 1)) else cayleylaw01_Edited.l0 k x l (wrap64 ((i : Int) + 1))) (fun k => ?_) ?_
            · simp only [cayleylaw01_Edited.l0]
              rw [if_pos (by omega), if_pos (by omega), he]
              simp only [if_true]
              rw [if_pos h0, hw1, if_pos h1, if_pos h0, if_pos (by omega), hw2, if_pos (by omega), if_pos (by omega), hw3, if_pos (by omega), if_pos (by omega), if_pos (by omega), if_pos hzs2, hz]
            · refine Ev.bind (a := ((oth ((L x)[p + 1])).toNat : Int)) (Ev.step (f := fun _ => some _) ho (Ev.now _)) ?_
              rw [hb1, hq]
              simp only [if_true]
              exact h3
          · have hq2 : ¬ (((L x)[p]).toNat : Int) = ((oth ((L x)[p + 1])).toNat : Int) := fun e => hq (UInt8.toNat_inj.1 (by omega))
            obtain ⟨y, h3, h4⟩ := skip
            refine ⟨y, ?_, h4⟩
            refine Ev.step (f := fun k => (cayleyref01_Other.f k (bt x ((p + 1 : Nat) : Int))).bind fun t => if bt x (p : Int) = t then (if (x.extract 0 ((p : Int)).toNat).size + (x.extract (((p + 2 : Nat) : Int)).toNat x.size).size ≤ 9223372036854775807 then cayleylaw01_Edited.l0 k (x.extract 0 ((p : Int)).toNat ++ x.extract (((p + 2 : Nat) : Int)).toNat x.size) l (wrap64 ((i : Int) + 1)) else none) else cayleylaw01_Edited.l0 k x l (wrap64 ((i : Int) + 1))) (fun k => ?_) ?_
            · simp only [cayleylaw01_Edited.l0]
              rw [if_pos (by omega), if_pos (by omega), he]
              simp only [if_true]
              rw [if_pos h0, hw1, if_pos h1, if_pos h0, if_pos (by omega), hw2, if_pos (by omega), if_pos (by omega), hw3, if_pos (by omega), if_pos (by omega), if_pos (by omega)]
            · refine Ev.bind (a := ((oth ((L x)[p + 1])).toNat : Int)) (Ev.step (f := fun _ => some _) ho (Ev.now _)) ?_
              rw [hb1]
              simp only [if_neg hq2]
              exact h3
        · obtain ⟨y, h3, h4⟩ := skip
          refine ⟨y, Ev.step (fun k => ?_) h3, h4⟩
          simp only [cayleylaw01_Edited.l0]
          rw [if_pos (by omega), if_pos (by omega), he]
          simp only [if_true]
          rw [if_pos h0, hw1, if_neg h1]
      · obtain ⟨y, h3, h4⟩ := skip
        refine ⟨y, Ev.step (fun k => ?_) h3, h4⟩
        simp only [cayleylaw01_Edited.l0]
        rw [if_pos (by omega), if_pos (by omega), he]
        simp only [if_true]
        rw [if_neg h0]
    | false =>
      -- the join
      have hj : ∀ t : Bool, (t = true → let_ b ≠ 0 ∧ 0 ≤ a ∧ a ≤ (x.size : Int)) → ∃ y, Ev (fun k => cayleylaw01_Edited.j1 k x l (i : Int) t a b false) y ∧ Kept (2 * (d + 1)) x y := by
        intro t ht
        cases t with
        | false =>
          obtain ⟨y, h3, h4⟩ := skip
          refine ⟨y, Ev.step (fun k => ?_) h3, h4⟩
          simp only [cayleylaw01_Edited.j1]
          rw [if_neg (by simp)]
        | true =>
          obtain ⟨hb, h0, h1⟩ := ht rfl
          obtain ⟨c, hc, e1, e2⟩ := let_enc b hb
          obtain ⟨p, rfl⟩ := Int.eq_ofNat_of_zero_le h0
          have hs : x.size = (L x).length := size_L x
          have q1 : x.extract 0 ((p : Int)).toNat = B ((L x).take p) := by rw [extract_L, Int.toNat_natCast, List.drop_zero, Nat.sub_zero]
          have q2 : x.extract ((p : Int)).toNat x.size = B ((L x).drop p) := by rw [extract_L, Int.toNat_natCast, List.take_of_length_le (by rw [List.length_drop, hs]; exact Nat.le_refl _)]
          have hzL : L (B ((L x).take p ++ [c] ++ [oth c] ++ (L x).drop p)) = (L x).take p ++ c :: oth c :: (L x).drop p := by rw [L_B]; simp
          have hk : Kept 2 x (B ((L x).take p ++ [c] ++ [oth c] ++ (L x).drop p)) := by
            refine ⟨?_, ?_, ?_⟩
            · rw [hzL, red_pair, List.take_append_drop]
            · rw [hzL]
              intro e he
              rcases List.mem_append.1 he with he | he
              · exact hL e (List.mem_of_mem_take he)
              · rcases List.mem_cons.1 he with rfl | he
                · exact hc
                · rcases List.mem_cons.1 he with rfl | he
                  · rw [isL_oth]; exact hc
                  · exact hL e (List.mem_of_mem_drop he)
            · rw [size_L, hzL, List.length_append, List.length_cons, List.length_cons, List.length_take, List.length_drop, hs]; omega
          have hzs := hk.size
          obtain ⟨y, h3, h4⟩ := ih (i + 1) _ (by omega) (by omega) hk.lets
          rw [hnx] at h3
          refine ⟨y, ?_, ⟨h4.red.trans hk.red, h4.lets, by have := h4.size; omega⟩⟩
          refine Ev.step (f := fun k => (cayleyref01_Letter.f k b).bind fun t105 => (if (x.extract 0 ((p : Int)).toNat).size + (Utf8.encode t105).size ≤ 9223372036854775807 then ((cayleyref01_Letter.f k (Go.bits .xor .i64 b 1)).bind fun t106 => (if ((x.extract 0 ((p : Int)).toNat) ++ (Utf8.encode t105)).size + (Utf8.encode t106).size ≤ 9223372036854775807 then (if (((x.extract 0 ((p : Int)).toNat) ++ (Utf8.encode t105)) ++ (Utf8.encode t106)).size + (x.extract ((p : Int)).toNat x.size).size ≤ 9223372036854775807 then (cayleylaw01_Edited.l0 k ((((x.extract 0 ((p : Int)).toNat) ++ (Utf8.encode t105)) ++ (Utf8.encode t106)) ++ (x.extract ((p : Int)).toNat x.size)) l (wrap64 ((i : Int) + 1))) else (none)) else (none))) else (none))) (fun k => ?_) ?_
          · simp only [cayleylaw01_Edited.j1, if_true]
            rw [if_pos h0, if_pos h1]
          · refine Ev.bind (a := let_ b) (Ev.step (f := fun _ => some _) (fun k => rLetter k b) (Ev.now _)) ?_
            have z1 : ((L x).take p).length ≤ 20000 := by rw [List.length_take]; omega
            have z2 : ((L x).drop p).length ≤ 20000 := by rw [List.length_drop]; omega
            have b1 : (B ((L x).take p)).size + (B [c]).size ≤ 9223372036854775807 := by rw [size_B, size_B, List.length_singleton]; omega
            have b2 : (B ((L x).take p ++ [c])).size + (B [oth c]).size ≤ 9223372036854775807 := by rw [size_B, size_B, List.length_append, List.length_singleton, List.length_singleton]; omega
            have b3 : (B ((L x).take p ++ [c] ++ [oth c])).size + (B ((L x).drop p)).size ≤ 9223372036854775807 := by rw [size_B, size_B, List.length_append, List.length_append, List.length_singleton, List.length_singleton]; omega
            rw [q1, q2, e1]
            simp only [if_pos b1, B_append]
            refine Ev.bind (a := let_ (Go.bits .xor .i64 b 1)) (Ev.step (f := fun _ => some _) (fun k => rLetter k _) (Ev.now _)) ?_
            rw [e2]
            simp only [B_append, if_pos b2, if_pos b3]
            exact h3
      have hf : ∀ k, cayleylaw01_Edited.l0 (k + 1) x l (i : Int) = (if a ≥ 0 then (if a ≤ (x.size : Int) then ((cayleyref01_Letter.f k b).bind fun t104 => cayleylaw01_Edited.j1 k x l (i : Int) (t104 != 0) a b false) else cayleylaw01_Edited.j1 k x l (i : Int) false a b false) else cayleylaw01_Edited.j1 k x l (i : Int) false a b false) := by
        intro k
        simp only [cayleylaw01_Edited.l0]
        rw [if_pos (by omega), if_pos (by omega), he]
        simp only [Bool.false_eq_true, if_false]
      by_cases h0 : a ≥ 0
      · by_cases h1 : a ≤ (x.size : Int)
        · obtain ⟨y, h3, h4⟩ := hj (let_ b != 0) (fun h => ⟨by simpa using h, h0, h1⟩)
          refine ⟨y, Ev.step (f := fun k => (cayleyref01_Letter.f k b).bind fun t104 => cayleylaw01_Edited.j1 k x l (i : Int) (t104 != 0) a b false) (fun k => by rw [hf, if_pos h0, if_pos h1]) ?_, h4⟩
          exact Ev.bind (a := let_ b) (Ev.step (f := fun _ => some _) (fun k => rLetter k b) (Ev.now _)) h3
        · obtain ⟨y, h3, h4⟩ := hj false (fun h => by cases h)
          exact ⟨y, Ev.step (fun k => by rw [hf, if_pos h0, if_neg h1]) h3, h4⟩
      · obtain ⟨y, h3, h4⟩ := hj false (fun h => by cases h)
        exact ⟨y, Ev.step (fun k => by rw [hf, if_neg h0]) h3, h4⟩

/-- A reduced word has no neighbours that are inverse to each other. -/
theorem red_neighbours (r : List UInt8) (h : Red r) (i : Nat) (hi : i + 1 < r.length) : r[i] ≠ oth (r[i + 1]) := by
  have e := split_two r i hi
  rw [e] at h
  exact h.mid

theorem unique_l0 (w r : ByteArray) (l : List S78) (hr : r.size ≤ 10000) (hR : Red (L r)) (hL : ∀ c ∈ L r, isL c = true) {z : Bool}
    (hz : Ev (fun k => (cayleylaw01_Edited.f k w l).bind fun t114 => ((word_Reduce.f k t114).bind fun t115 => (if t115.toList = r.toList then ((word_Reduce.f k r).bind fun t116 => (if t116.toList = r.toList then (if (r.size : Int) ≤ (w.size : Int) then (some ((Int.tmod (wrap64 ((w.size : Int) - (r.size : Int))) 2) == 0)) else (some false)) else (some false))) else (some false)))) z) :
    ∀ (d i : Nat), i + d = r.size → Ev (fun k => cayleylaw01_WordUnique.l0 k w l r (i : Int)) z := by
  intro d
  induction d with
  | zero =>
    intro i hi
    by_cases hb : i < 9223372036854775807
    · refine Ev.step (fun k => ?_) hz
      simp only [cayleylaw01_WordUnique.l0]
      rw [w64_succ i hb, if_neg (by omega)]
    · exact absurd hr (by omega)
  | succ d ih =>
    intro i hi
    by_cases hlt : i + 1 < r.size
    · have hs : r.size = (L r).length := size_L r
      have h2 : i + 1 < (L r).length := by omega
      have hw := w64_succ i (by omega)
      have hb1 := bt_nat r i (by omega)
      have hb2 := bt_nat r (i + 1) h2
      have hne := red_neighbours (L r) hR i h2
      have hq2 : ¬ (((L r)[i]).toNat : Int) = ((oth ((L r)[i + 1])).toNat : Int) := fun e => hne (UInt8.toNat_inj.1 (by omega))
      refine Ev.step (f := fun k => (cayleyref01_Other.f k (bt r ((i + 1 : Nat) : Int))).bind fun t113 => (if (bt r (i : Int)) = t113 then (some false) else (cayleylaw01_WordUnique.l0 k w l r ((i + 1 : Nat) : Int)))) (fun k => ?_) ?_
      · simp only [cayleylaw01_WordUnique.l0]
        rw [hw, if_pos (by omega), if_pos (by omega), if_pos (by omega), if_pos (by omega)]
      · rw [hb1, hb2]
        refine Ev.bind (a := ((oth ((L r)[i + 1])).toNat : Int)) (Ev.step (f := fun _ => some _) (fun k => rOther k _ (hL _ (List.getElem_mem _))) (Ev.now _)) ?_
        simp only [if_neg hq2]
        exact ih (i + 1) (by omega)
    · by_cases hb : i < 9223372036854775807
      · refine Ev.step (fun k => ?_) hz
        simp only [cayleylaw01_WordUnique.l0]
        rw [w64_succ i hb, if_neg (by omega)]
      · exact absurd hr (by omega)

theorem opens_edits (W : World) : Opens Tryz.prog W 43 (Kd.slice 78 k78) (fun _ => True) := by
  have h := OpensRow.cons (P := Tryz.prog) (w := W) (f := ⟨"At", 3, 0, false, "", "", 0⟩) (off := 0) rfl (by kernel_rfl) (Opens.int (k := .i64) Tryz.underlying3) (OpensRow.cons (f := ⟨"Letter", 3, 1, false, "", "", 8⟩) rfl (by kernel_rfl) (Opens.int (k := .i64) Tryz.underlying3) (OpensRow.one (f := ⟨"Remove", 4, 2, false, "", "", 16⟩) rfl (by kernel_rfl) (Opens.bool Tryz.underlying4)))
  have h2 := Opens.struct (fs := #[⟨"At", 3, 0, false, "", "", 0⟩, ⟨"Letter", 3, 1, false, "", "", 8⟩, ⟨"Remove", 4, 2, false, "", "", 16⟩]) Tryz.underlying78 (by kernel_rfl) h
  exact Opens.imp (Opens.slice Tryz.underlying43 (by kernel_rfl) (Opens.iso h2 (fun x : S78 => (x.f0, x.f1, x.f2)) (fun x : Int × Int × Bool => (⟨x.1, x.2.1, x.2.2⟩ : S78)) (fun _ => rfl))) (fun _ _ => trivial)

theorem unique_pure (w : ByteArray) (l : List S78) (hw : w.size ≤ 140737488351232) (_ : True) : ∃ k, cayleylaw01_WordUnique.f k w l = some true := by
  refine Ev.rounds ?_
  unfold cayleylaw01_WordUnique.f
  have hsane : ∀ (g : Bool → Option Bool), cayleylaw01_sane.f.bind g = g true := fun _ => rfl
  simp only [hsane, if_true]
  refine Ev.bind (words_ev [w] (by simp) (by intro s hs; simp at hs; subst hs; omega)) ?_
  have skip : Ev (fun k => cayleylaw01_WordUnique.j0 k w l true) true := ev_some _ _ (fun k => by simp only [cayleylaw01_WordUnique.j0, if_true])
  by_cases hS : ∀ s ∈ [w], Sw s
  case neg =>
    rw [decide_eq_false hS]
    exact Ev.congr (fun k => by rw [if_neg (by simp)]) skip
  rw [decide_eq_true hS]
  simp only [if_true]
  have sw := hS w (by simp)
  clear hS hw
  by_cases hl : (l.length : Int) > 200
  · rw [decide_eq_true hl]; exact skip
  rw [decide_eq_false hl]
  have w1 := sw.1
  have ww := sw_wd sw
  have hrl := red_length (L w)
  have hs := size_L w
  refine Ev.step (f := fun k => (word_Reduce.f k w).bind fun t112 => (cayleylaw01_WordUnique.l0 k w l t112 0)) (fun k => by simp only [cayleylaw01_WordUnique.j0]; rw [if_neg (by simp)]) ?_
  refine Ev.bind (red_ev ww) ?_
  have rL : ∀ c ∈ L (B (red (L w))), isL c = true := by rw [L_B]; exact red_isL sw.2
  have rR : Red (L (B (red (L w)))) := by rw [L_B]; exact red_red _
  have rs : (B (red (L w))).size ≤ 1000 := by rw [size_B]; omega
  refine unique_l0 w (B (red (L w))) l (by omega) rR rL ?_ (B (red (L w))).size 0 (Nat.zero_add _)
  obtain ⟨y, h1, h2⟩ := edited_l0 l (by omega) l.length 0 w (by omega) (by omega) sw.2
  have h3 := h2.size
  refine Ev.bind (g := fun k => cayleylaw01_Edited.f k w l) h1 ?_
  have wy : Wd y := ⟨by omega, h2.lets⟩
  refine Ev.bind (red_ev wy) ?_
  have wr : Wd (B (red (L w))) := ⟨by omega, rL⟩
  have e4 := red_ev wr
  rw [L_B, red_idem] at e4
  have e5 : (B (red (L y))).toList = (B (red (L w))).toList := by rw [h2.red]
  have e6 : ((B (red (L w))).size : Int) ≤ (w.size : Int) := by rw [size_B]; omega
  simp only [if_pos e5]
  refine Ev.bind e4 ?_
  have e7 : (Int.tmod (wrap64 ((w.size : Int) - ((B (red (L w))).size : Int))) 2 == 0) = true := by
    have hp := red_parity (L w)
    rw [size_B] at e6 ⊢
    have : wrap64 ((w.size : Int) - ((red (L w)).length : Int)) = (w.size : Int) - ((red (L w)).length : Int) := by unfold wrap64; omega
    rw [this, Int.tmod_eq_emod_of_nonneg (by omega)]
    simp only [beq_iff_eq]
    omega
  rw [if_pos rfl, if_pos e6, e7]
  exact Ev.now _

end Go.Proofs.YthiehmogphknlaaGreatDoor.Laws
