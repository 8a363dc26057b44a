/- WordBack: the plain law. -/
import Derived.Test.YthiehmogphknlaaGreatDoorText
import Derived.Test.YthiehmogphknlaaGreatDoorRootEv
import Derived.Test.YthiehmogphknlaaGreatDoorPKx1
namespace Go.Proofs.YthiehmogphknlaaGreatDoor.Laws
open Go.RowKit Go.Proofs.YthiehmogphknlaaGreatDoor.G Go.Proofs.YthiehmogphknlaaGreatDoor.PA Go.Proofs.YthiehmogphknlaaGreatDoor.PK Go.Proofs.YthiehmogphknlaaGreatDoorW.PrintWords Go.Proofs.YthiehmogphknlaaGreatDoor.Free Go.Proofs.YthiehmogphknlaaGreatDoor.Pure1 Go.Proofs.YthiehmogphknlaaGreatDoor.Pow Go.Proofs.YthiehmogphknlaaGreatDoor.Cyc

/-- A power of a word, as a word that is not reduced. -/
def zp (l : List UInt8) (n : Int) : List UInt8 := Lib.repeatL (if n < 0 then inv l else l) n.natAbs

theorem eqv_rep {a b : List UInt8} (h : Eqv a b) : ∀ n, Eqv (Lib.repeatL a n) (Lib.repeatL b n)
  | 0 => Eqv.refl _
  | n + 1 => by rw [rep_succ, rep_succ]; exact h.append (eqv_rep h n)
theorem rep_rep_inv (l : List UInt8) : ∀ (a b : Nat), Eqv (Lib.repeatL l (a + b) ++ Lib.repeatL (inv l) b) (Lib.repeatL l a)
  | a, 0 => by rw [Nat.add_zero]; show Eqv (Lib.repeatL l a ++ []) _; rw [List.append_nil]; exact Eqv.refl _
  | a, b + 1 => by
    rw [← Nat.add_assoc, rep_snoc l (a + b), rep_succ (inv l) b, List.append_assoc, ← List.append_assoc l]
    have h : Eqv ((l ++ inv l) ++ Lib.repeatL (inv l) b) (Lib.repeatL (inv l) b) := by
      have := (eqv_inv_right l).appendRight (Lib.repeatL (inv l) b)
      rwa [List.nil_append] at this
    exact (h.appendLeft _).trans (rep_rep_inv l a b)
theorem zp_neg (l : List UInt8) (n : Int) : zp (inv l) (-n) = zp l n := by
  unfold zp
  rw [Int.natAbs_neg]
  by_cases h : n = 0
  · subst h; rfl
  · by_cases h2 : n < 0
    · rw [if_neg (by omega), if_pos h2]
    · rw [if_pos (by omega), if_neg h2, inv_inv]
theorem zp_add_pos (l : List UInt8) (m : Nat) (n : Int) : Eqv (zp l m ++ zp l n) (zp l (m + n)) := by
  unfold zp
  rw [if_neg (by omega), Int.natAbs_natCast]
  by_cases h : n < 0
  · obtain ⟨b, rfl⟩ : ∃ b : Nat, n = -(b : Int) := ⟨n.natAbs, by omega⟩
    rw [if_pos h, Int.natAbs_neg, Int.natAbs_natCast]
    by_cases h2 : b ≤ m
    · obtain ⟨a, rfl⟩ : ∃ a, m = a + b := ⟨m - b, by omega⟩
      have e : ((a + b : Nat) : Int) + -(b : Int) = (a : Int) := by omega
      rw [e, if_neg (by omega), Int.natAbs_natCast]
      exact rep_rep_inv l a b
    · obtain ⟨a, rfl⟩ : ∃ a, b = m + a := ⟨b - m, by omega⟩
      have e : (m : Int) + -((m + a : Nat) : Int) = -(a : Int) := by omega
      rw [e, if_pos (by omega), Int.natAbs_neg, Int.natAbs_natCast, Nat.add_comm m a]
      have h3 := rep_rep_inv (inv l) a m
      rw [inv_inv] at h3
      rw [show Lib.repeatL (inv l) (a + m) = Lib.repeatL (inv l) m ++ Lib.repeatL (inv l) a by rw [Nat.add_comm, rep_add], ← List.append_assoc]
      have h4 : Eqv (Lib.repeatL l m ++ Lib.repeatL (inv l) m) [] := by
        have := rep_rep_inv l 0 m
        rwa [Nat.zero_add] at this
      have := h4.appendRight (Lib.repeatL (inv l) a)
      rwa [List.nil_append] at this
  · obtain ⟨b, rfl⟩ := Int.eq_ofNat_of_zero_le (a := n) (by omega)
    rw [if_neg h, Int.natAbs_natCast, if_neg (by omega), show ((m : Int) + (b : Int)).natAbs = m + b by omega, rep_add]
    exact Eqv.refl _
theorem zp_add (l : List UInt8) (m n : Int) : Eqv (zp l m ++ zp l n) (zp l (m + n)) := by
  by_cases h : m < 0
  · obtain ⟨b, rfl⟩ : ∃ b : Nat, m = -(b : Int) := ⟨m.natAbs, by omega⟩
    rw [← zp_neg l (-(b : Int)), ← zp_neg l n, ← zp_neg l (-(b : Int) + n)]
    have e1 : -(-(b : Int)) = (b : Int) := by omega
    have e2 : -(-(b : Int) + n) = (b : Int) + -n := by omega
    rw [e1, e2]
    exact zp_add_pos (inv l) b (-n)
  · obtain ⟨b, rfl⟩ := Int.eq_ofNat_of_zero_le (a := m) (by omega)
    exact zp_add_pos l b n

/-- What a power of a word is, where it has not too many letters. -/
theorem powL_spec (l : List UInt8) (n : Int) (h : n.natAbs ≤ 100000) (hl : l.length * n.natAbs + l.length ≤ 100000) : ∃ r, powL l n = some r ∧ Eqv r (zp l n) ∧ Red r ∧ r.length ≤ 100000 := by
  have hlen := cyc_length (red l)
  have hrl := red_length l
  have hparts := red_parts l
  have hx : ∀ k : Nat, core l ≠ [] → 1 ≤ k → Red (cj l ++ (Lib.repeatL (core l) k ++ inv (cj l))) := by
    intro k hc hk
    have hp := per_pow (core l) hc
    have ht := times_pos (core l) hc
    have := rep_parts l hc ((core l).length / per (core l) * k) (Nat.mul_pos ht hk)
    rwa [← rep_mul, ← hp] at this
  have hbase : Eqv (cj l ++ (core l ++ inv (cj l))) l := by rw [← hparts]; exact Eqv.red l
  unfold powL
  show ∃ r, (if (if n < 0 then inv (core l) else core l) = [] ∨ n = 0 then some [] else if 100000 < n.natAbs ∨ 100000 < (if n < 0 then inv (core l) else core l).length * n.natAbs + 2 * (cj l).length then none else some (cj l ++ Lib.repeatL (if n < 0 then inv (core l) else core l) n.natAbs ++ inv (cj l))) = some r ∧ _
  have hxl : (if n < 0 then inv (core l) else core l).length = (core l).length := by split <;> simp [inv_length]
  have hlen2 : 2 * (cj l).length + (core l).length ≤ l.length := by
    have : 2 * (cj l).length + (core l).length = (red l).length := hlen
    omega
  have hbd : (core l).length * n.natAbs + 2 * (cj l).length ≤ 100000 := by
    have : (core l).length * n.natAbs ≤ l.length * n.natAbs := Nat.mul_le_mul_right _ (by omega)
    omega
  by_cases h1 : (if n < 0 then inv (core l) else core l) = [] ∨ n = 0
  · rw [if_pos h1]
    refine ⟨[], rfl, ?_, trivial, by simp⟩
    rcases h1 with h1 | h1
    · have hc : core l = [] := by
        rw [h1, List.length_nil] at hxl
        exact List.eq_nil_of_length_eq_zero hxl.symm
      have hr : red l = [] := (core_nil l).1 hc
      have he : Eqv l [] := hr
      have he2 : Eqv (inv l) [] := he.inv
      unfold zp
      have hz : ∀ (x : List UInt8), Eqv x [] → ∀ k, Eqv (Lib.repeatL x k) [] := by
        intro x hx k
        induction k with
        | zero => exact Eqv.refl _
        | succ k ih => rw [rep_succ]; exact hx.append ih
      refine Eqv.symm (hz _ ?_ _)
      split
      · exact he2
      · exact he
    · subst h1; exact Eqv.refl _
  · rw [if_neg h1, if_neg (by rw [hxl]; omega)]
    have hc : core l ≠ [] := fun e => h1 (.inl (by rw [e]; split <;> rfl))
    have hn : 1 ≤ n.natAbs := by
      have : n ≠ 0 := fun e => h1 (.inr e)
      omega
    refine ⟨_, rfl, ?_, ?_, ?_⟩
    · rw [List.append_assoc]
      refine (conj_rep _ _ _).trans ?_
      unfold zp
      refine eqv_rep ?_ _
      split
      · have := hbase.inv
        rwa [inv_append, inv_append, inv_inv, List.append_assoc] at this
      · exact hbase
    · rw [List.append_assoc]
      by_cases hneg : n < 0
      · rw [if_pos hneg, ← inv_rep]
        have := red_inv _ (hx n.natAbs hc hn)
        rwa [inv_append, inv_append, inv_inv, List.append_assoc] at this
      · rw [if_neg hneg]
        exact hx n.natAbs hc hn
    · rw [List.length_append, List.length_append, rep_len, inv_length, hxl, Nat.mul_comm]
      omega

/-- The root of a root is the root, once. -/
theorem root_root (l : List UInt8) (h : core l ≠ []) : core (rtL l) = rootL (core l) ∧ cj (rtL l) = cj l ∧ rtN (rtL l) = 1 := by
  have he := rtL_eq l h
  have hroot : Lib.repeatL (rootL (core l)) 1 = rootL (core l) := by show rootL (core l) ++ [] = _; rw [List.append_nil]
  have hred := rep_parts l h 1 (Nat.le_refl _)
  rw [hroot] at hred
  have hne := root_ne (core l) h
  have hnc := root_nc (core l) h (core_nc l)
  obtain ⟨h1, h2⟩ := parts_mk (cj l) (rootL (core l)) hred hnc (v := rtL l) (by rw [he]; exact Eqv.refl _)
  refine ⟨h2, h1, ?_⟩
  unfold rtN
  rw [if_neg (by rw [h2]; exact hne), h2]
  have h3 := root_pow (core l) h 1 (Nat.le_refl _)
  rw [hroot] at h3
  have h4 := root_len (rootL (core l)) hne
  rw [h3] at h4
  rw [← h4]
  exact Nat.div_self (List.length_pos_iff.2 hne)
theorem pow_root (l : List UInt8) (hl : l.length ≤ 1000) : powL (rtL l) (rtN l : Int) = some (red l) := by
  by_cases h : core l = []
  · have e1 : rtL l = [] := by unfold rtL; rw [if_pos h]
    have e2 : rtN l = 0 := by unfold rtN; rw [if_pos h]
    rw [e1, e2, (core_nil l).1 h]
    rfl
  · obtain ⟨h1, h2, h3⟩ := root_root l h
    have hlen := cyc_length (red l)
    have hrl := red_length l
    have hp := per_pow (core l) h
    have ht := times_pos (core l) h
    have hN : rtN l = (core l).length / per (core l) := by unfold rtN; rw [if_neg h]
    have hlen2 : 2 * (cj l).length + (core l).length ≤ l.length := by
      have : 2 * (cj l).length + (core l).length = (red l).length := hlen
      omega
    have hle : (core l).length / per (core l) ≤ (core l).length := Nat.div_le_self _ _
    have hmul : (rootL (core l)).length * ((core l).length / per (core l)) = (core l).length := by
      rw [root_len _ h, Nat.mul_comm]
      exact Nat.div_mul_cancel (Nat.dvd_of_mod_eq_zero (per_mod _ h))
    unfold powL
    have hneg : ¬ ((rtN l : Int)) < 0 := by omega
    have hne : rootL (core l) ≠ [] := root_ne _ h
    simp only [if_neg hneg]
    have e1 : (cyc (red (rtL l))).2 = rootL (core l) := h1
    have e2 : (cyc (red (rtL l))).1 = cj l := h2
    rw [e1, e2, if_neg (by rw [hN]; intro h; rcases h with h | h; exact hne h; omega), Int.natAbs_natCast, hN, if_neg (by rw [hmul]; omega), ← hp, List.append_assoc, ← red_parts]

theorem Power_ev {s : ByteArray} (h : Wd s) (n : Int) (h0 : -9223372036854775808 < n) (h1 : n ≤ 9223372036854775807) {r : List UInt8} (hr : powL (L s) n = some r) : Ev (fun k => word_Power.f k s n) (B r, 0) := by
  have hs := h.1
  unfold word_Power.f
  rw [is_f s (by omega), decide_eq_true h]
  simp only [Option.bind_some, if_true]
  have := power_ev s (by omega) n h0 h1
  rw [hr] at this
  refine Ev.bind this ?_
  simp only [if_true]
  exact Ev.now _

theorem rtL_len (l : List UInt8) : (rtL l).length ≤ l.length := by
  by_cases h : core l = []
  · unfold rtL; rw [if_pos h]; simp
  · rw [rtL_eq l h]
    have h1 : 2 * (cj l).length + (core l).length = (red l).length := cyc_length _
    have h2 := red_length l
    have h3 := root_len _ h
    have h4 := per_le _ h
    rw [List.length_append, List.length_append, inv_length]
    omega
theorem rtL_let {l : List UInt8} (h : ∀ c ∈ l, isL c = true) : ∀ c ∈ rtL l, isL c = true := by
  by_cases hc : core l = []
  · unfold rtL; rw [if_pos hc]; intro c hc; cases hc
  · rw [rtL_eq l hc]
    have hr := red_isL h
    rw [red_parts l] at hr
    intro x hx
    rcases List.mem_append.1 hx with hx | hx
    · exact hr x (List.mem_append_left _ hx)
    · rcases List.mem_append.1 hx with hx | hx
      · exact hr x (List.mem_append_right _ (List.mem_append_left _ (List.mem_of_mem_take hx)))
      · exact hr x (List.mem_append_right _ (List.mem_append_right _ hx))
theorem zp_mem {l : List UInt8} (h : ∀ c ∈ l, isL c = true) (n : Int) : ∀ c ∈ zp l n, isL c = true := by
  have hr : ∀ (x : List UInt8), (∀ c ∈ x, isL c = true) → ∀ k, ∀ c ∈ Lib.repeatL x k, isL c = true := by
    intro x hx k
    induction k with
    | zero => intro c hc; cases hc
    | succ k ih =>
      intro c hc
      rw [rep_succ] at hc
      rcases List.mem_append.1 hc with hc | hc
      · exact hx c hc
      · exact ih c hc
  unfold zp
  refine hr _ ?_ _
  split
  · exact inv_isL h
  · exact h

theorem back_pure (w : ByteArray) (m n : Int) (hw : w.size ≤ 140737488351232) (_ : (Lit.int .i64 m).wf = true) (_ : (Lit.int .i64 n).wf = true) : ∃ k, cayleylaw01_WordBack.f k w m n = some true := by
  refine Ev.rounds ?_
  unfold cayleylaw01_WordBack.f
  have hsane : ∀ (g : Bool → Option Bool), cayleylaw01_sane.f.bind g = g true := fun _ => rfl
  simp only [hsane, if_true]
  refine Ev.bind (words_ev [w] (by simp) (by intro s hs; simp at hs; subst hs; omega)) ?_
  have skip : Ev (fun k => cayleylaw01_WordBack.j0 k w m n true) true := ev_some _ _ (fun k => by simp only [cayleylaw01_WordBack.j0, if_true])
  by_cases hS : ∀ s ∈ [w], Sw s
  case neg =>
    rw [decide_eq_false hS]
    exact Ev.congr (fun k => by rw [if_neg (by simp)]) skip
  rw [decide_eq_true hS]
  simp only [if_true]
  have sw := hS w (by simp)
  clear hS hw
  by_cases m1 : m < -20
  · simp only [if_pos m1]; exact skip
  by_cases m2 : m > 20
  · simp only [if_neg m1, if_pos m2]; exact skip
  by_cases n1 : n < -20
  · simp only [if_neg m1, if_neg m2, if_pos n1]; exact skip
  simp only [if_neg m1, if_neg m2, if_neg n1]
  by_cases n2 : n > 20
  · rw [decide_eq_true n2]; exact skip
  rw [decide_eq_false n2]
  have w1 := sw.1
  have ww := sw_wd sw
  have hs := size_L w
  have hl : (L w).length ≤ 1000 := by omega
  -- the powers
  have hb : ∀ x : Int, -40 ≤ x → x ≤ 40 → (L w).length * x.natAbs + (L w).length ≤ 100000 := by
    intro x h0 h1
    have : (L w).length * x.natAbs ≤ (L w).length * 40 := Nat.mul_le_mul_left _ (by omega)
    omega
  obtain ⟨ra, pa, ea, da, la⟩ := powL_spec (L w) m (by omega) (hb m (by omega) (by omega))
  obtain ⟨rb, pb, eb, db, lb⟩ := powL_spec (L w) n (by omega) (hb n (by omega) (by omega))
  obtain ⟨rc, pc, ec, dc, lc⟩ := powL_spec (L w) (m + n) (by omega) (hb (m + n) (by omega) (by omega))
  have va := Power_ev ww m (by omega) (by omega) pa
  have vb := Power_ev ww n (by omega) (by omega) pb
  have vc := Power_ev ww (m + n) (by omega) (by omega) pc
  have hwr : wrap64 (m + n) = m + n := by unfold wrap64; omega
  have hlet : ∀ {r : List UInt8} {x : Int}, Red r → Eqv r (zp (L w) x) → ∀ c ∈ r, isL c = true := by
    intro r x hr he
    rw [← red_of_red hr, he]
    exact red_isL (zp_mem sw.2 x)
  have hsum : red (ra ++ rb) = rc := by
    have h1 : Eqv (ra ++ rb) rc := (ea.append eb).trans ((zp_add (L w) m n).trans ec.symm)
    rw [h1, red_of_red dc]
  -- the lengths of the powers
  have hlen : ∀ {r : List UInt8} {x : Int}, x.natAbs ≤ 20 → Red r → Eqv r (zp (L w) x) → r.length ≤ 20000 := by
    intro r x hx hr he
    rw [← red_of_red hr, he]
    have h1 := red_length (zp (L w) x)
    have h2 : (zp (L w) x).length = x.natAbs * (L w).length := by
      unfold zp
      rw [rep_len]
      split
      · rw [inv_length]
      · rfl
    have h3 : x.natAbs * (L w).length ≤ 20 * 1000 := Nat.mul_le_mul hx hl
    omega
  have la2 := hlen (by omega) da ea
  have lb2 := hlen (by omega) db eb
  have wab : Wd (B ra ++ B rb) := by
    refine ⟨?_, ?_⟩
    · rw [B_append, size_B, List.length_append]; omega
    · rw [B_append, L_B]
      intro c hc
      exact (List.mem_append.1 hc).elim (hlet da ea c) (hlet db eb c)
  have vab := red_ev wab
  rw [show L (B ra ++ B rb) = ra ++ rb by rw [B_append, L_B], hsum] at vab
  have hj1 : Ev (fun k => cayleylaw01_WordBack.j1 k w m n false) true := by
    refine Ev.step (fun k => by simp only [cayleylaw01_WordBack.j1]; rw [if_neg (by simp), hwr]) ?_
    refine Ev.bind va (Ev.bind vb (Ev.bind vc ?_))
    have hz : (B ra).size + (B rb).size ≤ 9223372036854775807 := by rw [size_B, size_B]; omega
    simp only [if_true, if_pos hz]
    refine Ev.bind vab ?_
    rw [beq_self_eq_true]
    exact Ev.now _
  -- text, root
  have vt := Text_ev sw
  have vp := parse_text sw
  have vr := Root_ev ww
  have wr : Wd (B (rtL (L w))) := ⟨by rw [size_B]; have := rtL_len (L w); omega, rtL_let sw.2⟩
  have vr2 := Root_ev wr
  rw [L_B] at vr2
  have hNle : rtN (L w) ≤ 1000 := by
    unfold rtN
    split
    · omega
    · have h1 := core_length (L w)
      have h2 : (core (L w)).length / per (core (L w)) ≤ (core (L w)).length := Nat.div_le_self _ _
      omega
  have vq := Power_ev (s := B (rtL (L w))) wr (rtN (L w) : Int) (by omega) (by omega) (r := red (L w)) (by rw [L_B]; exact pow_root (L w) hl)
  have vd := red_ev ww
  refine Ev.step (fun k => by simp only [cayleylaw01_WordBack.j0]; rw [if_neg (by simp)]) ?_
  refine Ev.bind vt ?_
  rw [vp]
  simp only [Option.bind_some]
  refine Ev.bind vr (Ev.bind vq (Ev.bind vr2 ?_))
  simp only [if_true]
  refine Ev.bind vd ?_
  simp only [if_true]
  refine Ev.bind vd ?_
  simp only [if_true]
  have hone : (((rtN (rtL (L w)) : Int) != 1) != ((B (rtL (L w))).toList == ([] : List UInt8))) = false := by
    rw [toList_L, L_B]
    by_cases h : core (L w) = []
    · have e : rtL (L w) = [] := by unfold rtL; rw [if_pos h]
      rw [e]
      decide
    · have h1 := (root_root (L w) h).2.2
      have h2 : rtL (L w) ≠ [] := fun e => h ((core_nil _).2 ((rtL_nil _).1 e))
      rw [h1, beq_eq_false_iff_ne.2 h2]
      rfl
  rw [hone]
  exact hj1

end Go.Proofs.YthiehmogphknlaaGreatDoor.Laws
