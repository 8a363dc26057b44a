/- word.Conjugate: the walk with the loop. -/
import Derived.Test.YthiehmogphknlaaGreatDoorConjA
import Derived.RangeFuncCalls
namespace Go.Proofs.YthiehmogphknlaaGreatDoor.Rot
open Go.RowKit Go.Shelf Go.Proofs.YthiehmogphknlaaGreatDoor.G Go.Proofs.YthiehmogphknlaaGreatDoor.PA Go.Proofs.YthiehmogphknlaaGreatDoorW.PrintWords Go.Proofs.YthiehmogphknlaaGreatDoor.Free Go.Proofs.YthiehmogphknlaaGreatDoor.Pure1
attribute [local go_sem] Oper.semAt_some
theorem Two.kept {w A B : World} {x : ByteArray} {y : Bool} {row : Option Nat} (h : Two w A x y) (hg : A.grownBy B row) (hr : ∀ k, row = some k → w.heap.size ≤ k ∧ ∃ o : Obj, A.heap[k]? = some o ∧ o.isCells = false) : Two w B x y :=
  ⟨(grownBy_keeps_cells hg (fun k e => (hr k e).2) h.h0 rfl).trans h.h0, (grownBy_keeps_cells hg (fun k e => (hr k e).2) h.h1 rfl).trans h.h1, Nat.le_trans h.size hg.size,
   h.below.grown hg (by have := h.size; omega) (fun k e => (hr k e).1)⟩
theorem Six.kept {w A B : World} {q r : Nat} {a c b d : ByteArray} {row : Option Nat} (h : Six w q r A a c b d) (hg : A.grownBy B row) (hr : ∀ k, row = some k → w.heap.size ≤ k ∧ ∃ o : Obj, A.heap[k]? = some o ∧ o.isCells = false) : Six w q r B a c b d :=
  ⟨h.two.kept hg hr, (grownBy_keeps_cells hg (fun k e => (hr k e).2) h.h6 rfl).trans h.h6, (grownBy_keeps_cells hg (fun k e => (hr k e).2) h.h7 rfl).trans h.h7, (grownBy_keeps_cells hg (fun k e => (hr k e).2) h.h8 rfl).trans h.h8, (grownBy_keeps_cells hg (fun k e => (hr k e).2) h.h9 rfl).trans h.h9, h.q0, h.r0⟩
theorem Six.later {w W W1 : World} {q r : Nat} {a c b d : ByteArray} (h : Six w q r W a c b d) (hr : r + 2 ≤ W.heap.size) (hb : Below W.heap.size W W1) : Six w q r W1 a c b d :=
  ⟨h.two.later hb, (hb.block _ (by have := h.q0; have := h.r0; omega)).trans h.h6, (hb.block _ (by have := h.q0; have := h.r0; omega)).trans h.h7, (hb.block _ (by omega)).trans h.h8, (hb.block _ (by omega)).trans h.h9, h.q0, h.r0⟩
theorem Six.size {w W : World} {q r : Nat} {a c b d : ByteArray} (h : Six w q r W a c b d) : r + 2 ≤ W.heap.size := by
  have := (Array.getElem?_eq_some_iff.1 h.h9).1
  omega
def resOf (R : Nat → ByteArray) : Option Nat → Value
  | none => .tuple #[.string ⟨#[]⟩, .bool false]
  | some i => .tuple #[.string (R i), .bool true]
theorem mem_upto (n j i : Nat) (h : i < n) (hj : i < j) : (⟨i, h⟩ : Ix n) ∈ upto n j := by
  unfold upto
  rw [List.mem_filterMap]
  exact ⟨i, List.mem_range.2 hj, by rw [dif_pos h]⟩
theorem find_upto (b a : ByteArray) (j : Nat) (hj : j ≤ b.size) (ini : List (Ix b.size)) (last : Ix b.size) (e1 : upto b.size j = ini ++ [last]) (e2 : ∀ p ∈ ini, rotB b p.1 ≠ a) (e3 : rotB b last.1 = a) :
    (List.range b.size).find? (fun i => decide (rotB b i = a)) = some last.1 := by
  obtain ⟨j', rfl⟩ : ∃ j', j = j' + 1 := by
    cases j with
    | zero => rw [upto_zero] at e1; exact absurd (congrArg List.length e1) (by simp)
    | succ j' => exact ⟨j', rfl⟩
  rw [upto_succ _ _ (by omega)] at e1
  obtain ⟨e4, e5⟩ := List.append_inj' e1 rfl
  have e6 : last.1 = j' := congrArg Subtype.val (List.singleton_inj.1 e5).symm
  rw [e6] at e3 ⊢
  rw [List.find?_eq_some_iff_getElem]
  refine ⟨by simpa using e3, j', by simp; omega, by simp, fun i hi => ?_⟩
  have := e2 ⟨i, by omega⟩ (by rw [← e4]; exact mem_upto _ _ _ _ hi)
  simpa using this
theorem keeps_below {W W1 : World} (h : Below W.heap.size W W1) : KeepsOthers W W1 :=
  ⟨h.size, fun k _ hk _ => (h.block k (Array.getElem?_eq_some_iff.1 hk).1).trans hk⟩
theorem Six.alloc {w W : World} {q r : Nat} {a c b d : ByteArray} (h : Six w q r W a c b d) (o : Obj) : Six w q r (W.alloc o) a c b d :=
  h.kept (World.grownBy_alloc W o none) (fun k e => by cases e)
set_option maxHeartbeats 4000000 in
set_option maxRecDepth 100000 in
theorem conj_loop (u v : ByteArray) (hu : u.size ≤ 9223372036854775807) (hv : v.size ≤ 9223372036854775807) (h : Wd u) (h' : Wd v) (a c b d : ByteArray) (w : World) (hG : GL w)
    (A : ∀ W, Calls Tryz.prog 53 #[.string u] W fun e w' => e = .returned (.tuple #[.string a, .string c]) ∧ Below W.heap.size W w')
    (A' : ∀ W, Calls Tryz.prog 53 #[.string v] W fun e w' => e = .returned (.tuple #[.string b, .string d]) ∧ Below W.heap.size W w')
    (hab : ((a.size : Int) != (b.size : Int)) = false) (x y : ByteArray)
    (Fa : ∀ W, GL W → Calls Tryz.prog 55 #[.string a] W fun e w' => e = .returned (.string x) ∧ Drawn0 W w')
    (Fb : ∀ W, GL W → Calls Tryz.prog 55 #[.string b] W fun e w' => e = .returned (.string y) ∧ Drawn0 W w')
    (hxy : (!x.toList == y.toList) = false) (ha : a.toList.isEmpty = false) (hb : b.size ≤ 140737488355328) (X : Nat → ByteArray) (Di : ByteArray) (R : Nat → ByteArray)
    (Iv : ∀ i W, i ≤ b.size → Calls Tryz.prog 46 #[.string (b.extract 0 i)] W fun e w' => e = .returned (.string (X i)) ∧ Below W.heap.size W w')
    (Id : ∀ W, Calls Tryz.prog 46 #[.string d] W fun e w' => e = .returned (.string Di) ∧ Below W.heap.size W w')
    (Rd : ∀ i W, i ≤ b.size → Calls Tryz.prog 47 #[.slice (some ⟨W.heap.size, 0, none⟩) 3 3] (W.alloc (.cells #[.string c, .string (X i), .string Di] 9)) fun e w' => e = .returned (.string (R i)) ∧ Below W.heap.size W w') :
    Calls Tryz.prog 35 #[.string u, .string v] w fun e w' =>
      e = .returned (resOf R ((List.range b.size).find? (fun i => decide (rotB b i = a)))) ∧ Below w.heap.size w w' := by
  have C := is_two u hu w hG _ _ _ (Two.start w)
  have D : ∀ W, Two w W ⟨#[]⟩ false → _ := fun W => is_two v hv w hG W ⟨#[]⟩ false
  rw [decide_eq_true h] at C
  rw [decide_eq_true h'] at D
  have C' := Aside0.mk C
  have D' := Aside0.mk D
  have AA := Aside0.mk A
  have AA' := Aside0.mk A'
  clear C D h h' A A'
  have FA := Aside0.mk Fa
  have FB := Aside0.mk Fb
  clear Fa Fb
  have HI := Aside0.mk Iv
  have HD := Aside0.mk Id
  have HR := Aside0.mk Rd
  clear Iv Id Rd
  refine (callsIn_wide (n := 5)).1 ?_
  refine callsIn_of_wp_marks Tryz.func35 rfl trivial ?_ rfl
  refine wpIn_wide.2 ?_
  simp only [Tryz.ntmps35, List.size_toArray, List.length_cons, List.length_nil, Nat.reduceAdd, Nat.reduceSub, Array.replicate_succ, Array.replicate_zero, List.push_toArray, List.append_toArray, List.nil_append, List.cons_append]
  go_wp2_with (first
    | (go_at_call 45; with_reducible refine C'.out.mono ?_; rintro e w1 ⟨rfl, hT⟩; clear C')
    | (go_at_call 45; with_reducible refine (D'.out _ hT).mono ?_; rintro e w2 ⟨rfl, hT2⟩; clear D' hT)
    | (go_at_call 53; with_reducible refine (AA.out _).mono ?_; rintro e w3 ⟨rfl, hT3⟩; clear AA)
    | (go_at_call 53; with_reducible refine (AA'.out _).mono ?_; rintro e w4 ⟨rfl, hT4⟩; clear AA'))
  have hS := Six.start (b := b) (d := d) hT2 hT3 hT4
  clear hT2 hT3 hT4
  revert hS
  generalize ((w4.alloc (Obj.cells #[Value.string b] 9)).alloc (Obj.cells #[Value.string d] 9)) = W
  generalize w3.heap.size = q
  generalize w4.heap.size = r
  clear w4 w3 w2
  intro hS
  have c6 := hS.c6
  have c8 := hS.c8
  have hGW := Aside0.mk (hG.step hS.two.below)
  go_quiet (first
    | (go_at_call 55; with_reducible refine (FA.out _ (by first | exact hGW.out | exact GL.drawn hGW.out (by repeat (first | exact Drawn0.refl _ | apply Drawn0.step)))).mono ?_; rintro e w' ⟨rfl, ⟨nd, rfl⟩⟩; (try first | exact ⟨rfl, _, World.drewN_drewN _ _ _⟩ | exact ⟨rfl, _, Eq.trans (World.drewN_drewN _ _ _) (congrArg (World.drewN _) (Nat.add_assoc _ _ _))⟩))
    | (go_at_call 55; with_reducible refine (FB.out _ (by first | exact hGW.out | exact GL.drawn hGW.out (by repeat (first | exact Drawn0.refl _ | apply Drawn0.step)))).mono ?_; rintro e w' ⟨rfl, ⟨nd, rfl⟩⟩; (try first | exact ⟨rfl, _, World.drewN_drewN _ _ _⟩ | exact ⟨rfl, _, Eq.trans (World.drewN_drewN _ _ _) (congrArg (World.drewN _) (Nat.add_assoc _ _ _))⟩)))
  clear hGW FA FB
  have hS' := fun n => hS.drewN n
  clear hS
  rename_i nq
  have hS := hS' nq
  clear hS' c6 c8
  revert hS
  generalize W.drewN nq = W
  intro hS
  have c6 := hS.c6
  have c8 := hS.c8
  go_wp2_with (go_at_call 57; refine (callsIn_wide.1 (rotations_in 3 b _)).mono ?_; rintro e w' ⟨rfl, rfl⟩)
  have hcell : (W.alloc (.cells #[.string b] 9)).cell? ⟨W.heap.size, 0, none⟩ = some (.string b) := by simp
  have hsz : (W.alloc (.cells #[.string b] 9)).heap.size = W.heap.size + 1 := by simp
  have hS1 := hS.alloc (.cells #[.string b] 9)
  revert hcell hsz hS1
  generalize W.alloc (.cells #[.string b] 9) = V
  intro hcell hsz hS1
  have hq := hS1.two.below.size
  refine (wpIn_wide (n := 5)).1 ?_
  refine wpIn_rangeFunc_ownF (F := Fence.wide) (n := 5) rfl (by decide) (gf := 71) (lb := #[.pointer (some ⟨W.heap.size, 0, none⟩)]) rfl trivial (enters_of Tryz.func71 (by kernel_rfl) rfl)
    (rot_stops (5 - 1) (by decide) W.heap.size (W.heap.size + 1) b hb V (Nat.lt_succ_self _) (by rw [hsz]; exact Nat.le_refl _) hcell) belowK_t (belowK_b (by rw [hsz]; exact Nat.le_refl _)) (Below.refl _ _) (fun _ => rfl)
    (fun pre W1 => (∀ p ∈ pre, rotB b p.1 ≠ a) ∧ Six w q r W1 a c b d)
    (fun cd pre W1 => cd = .ret ∧ ∃ ini last, pre = ini ++ [last] ∧ (∀ p ∈ ini, rotB b p.1 ≠ a) ∧ rotB b last.1 = a ∧ Two w W1 (R last.1) true)
    (fun s A B row hs hg hr => ⟨hs.1, hs.2.kept hg (fun r e => ⟨Nat.le_trans hq (hr r e).1, (hr r e).2⟩)⟩)
    (fun cd s A B row hs hg hr => by
      obtain ⟨h1, ini, last, h2, h3, h4, h5⟩ := hs
      exact ⟨h1, ini, last, h2, h3, h4, h5.kept hg (fun r e => ⟨Nat.le_trans hq (hr r e).1, (hr r e).2⟩)⟩)
    ⟨by simp, hS1⟩
    (fun z => { tmps := #[.string u, .string v, undef, undef, .pointer (some ⟨w.heap.size, 0, none⟩), .pointer (some ⟨w.heap.size + 1, 0, none⟩), .pointer (some ⟨q, 0, none⟩), .pointer (some ⟨q + 1, 0, none⟩), .pointer (some ⟨r, 0, none⟩), .pointer (some ⟨r + 1, 0, none⟩),
        .int .i64 (z.1 : Int), .string (b.extract z.1 b.size ++ b.extract 0 z.1), .string u, .bool true, .bool false, .bool false, .string v, .bool true, .bool false, .bool false, .tuple #[.string a, .string c], .string u, .tuple #[.string a, .string c], .string a, .string c,
        .tuple #[.string b, .string d], .string v, .tuple #[.string b, .string d], .string b, .string d, .string a, .int .i64 (a.size : Int), .string b, .int .i64 (b.size : Int), .bool false, .bool false, .string a, .string x, .string b, .string y, .bool false, .bool false, .string a, .bool false, .string b,
        .func (.func 71) #[] #[.pointer (some ⟨W.heap.size, 0, none⟩)], .int .i64 (z.1 : Int), .string (b.extract z.1 b.size ++ b.extract 0 z.1), undef, undef, undef, undef, undef, undef, undef, undef, undef, undef, undef, undef], defers := [] }) ?assign ?body ?done ?stop
  case assign =>
    intro l z W1 K hK
    gi_wp2
    exact hK
  case body =>
    rintro l pre z W1 ⟨hp, hS2⟩ _
    obtain ⟨s, hs⟩ : ∃ s, b.extract z.1 b.size ++ b.extract 0 z.1 = s := ⟨_, rfl⟩
    dsimp only
    rw [hs]
    clear c6 c8 hcell hS1 hS
    have c6 := hS2.c6
    by_cases hsa : s = a
    · have te : (s.toList == a.toList) = true := by rw [hsa]; exact beq_self_eq_true _
      have c7 := hS2.c7
      have c8 := hS2.c8
      have c9 := hS2.c9
      have s1 : 0 ≤ (z.1 : Int) := by omega
      have s2 : (z.1 : Int) ≤ (b.size : Int) := by have := z.2; omega
      have hmx : Tryz.prog.follows .mixedOrders = true := by kernel_rfl
      gi_wp2
      have hz : z.1 ≤ b.size := Nat.le_of_lt z.2
      have HS := Aside0.mk (show Six w q r W1.drew a c b d from hS2.drewN 1)
      have HP := Aside0.mk hp
      have HE := Aside0.mk (show rotB b z.1 = a from hs.trans hsa)
      clear hS2 hp hsa hs hq hsz ha hxy hab hu hv hb
      gi_region_with_o (first
        | (refine ⟨trivial, ?_⟩; gi_at_call 46; with_reducible refine (CallsIn.inRound l (callsIn_wide.2 (HI.out z.1 _ hz))).mono ?_; rintro e w1 ⟨rfl, hb1⟩
           have H1 := Aside0.mk (HS.out.later HS.out.size hb1)
           have K1 := Aside0.mk ((KeepsOthers.drew W1).trans (keeps_below hb1))
           have c71 := H1.out.c7
           have c91 := H1.out.c9
           clear hb1)
        | (refine ⟨trivial, ?_⟩; gi_at_call 46; with_reducible refine (CallsIn.inRound l (callsIn_wide.2 (HD.out _))).mono ?_; rintro e w2 ⟨rfl, hb2⟩
           have H2 := Aside0.mk (H1.out.later H1.out.size hb2)
           have K2 := Aside0.mk (K1.out.trans (keeps_below hb2))
           have c72 := H2.out.c7
           clear hb2)
        | (refine ⟨trivial, ?_⟩; gi_at_call 47; with_reducible refine (CallsIn.inRound l (callsIn_wide.2 (HR.out z.1 _ hz))).mono ?_; rintro e w3 ⟨rfl, hb3⟩
           have H3 := Aside0.mk (H2.out.later H2.out.size hb3)
           have K3 := Aside0.mk ((K2.out.trans (keeps_below hb3)).trans ((KeepsOthers.setCell _ ⟨w.heap.size, 0, none⟩ (.string (R z.1))).trans (KeepsOthers.setCell _ ⟨w.heap.size + 1, 0, none⟩ (.bool true))))
           have b4 := H3.out.two.c0
           have b5 := H3.out.two.f0
           have b6 := H3.out.two.c1
           have b7 := H3.out.two.f1
           have F3 := Aside0.mk ((H3.out.two.set0 (R z.1)).set1 true)
           clear hb3))
      all_goals gi_wp2
      all_goals exact ⟨K3.out, rfl, pre, z, rfl, HP.out, HE.out, F3.out⟩
    · have te : (s.toList == a.toList) = false := by
        refine beq_eq_false_iff_ne.mpr (fun e => hsa ?_)
        rw [toList_L, toList_L] at e
        exact L_inj e
      gi_wp2
      refine ⟨KeepsOthers.refl _, Below.refl _ _, fun p hp' => ?_, hS2⟩
      rcases List.mem_append.1 hp' with h | h
      · exact hp p h
      · rw [List.mem_singleton.1 h]
        exact fun e => hsa (hs.symm.trans e)
  case done =>
    rintro Dd xs W1 hD rfl ⟨hp, hS2⟩ hK
    have b4 := hS2.two.c0
    have b5 := hS2.two.f0
    have b6 := hS2.two.c1
    have b7 := hS2.two.f1
    have hF := (hS2.two.set0 ⟨#[]⟩).set1 false
    have hK' := (KeepsOthers.trans (KeepsOthers.setCell W1 ⟨w.heap.size, 0, none⟩ (.string ⟨#[]⟩)) (KeepsOthers.setCell _ ⟨w.heap.size + 1, 0, none⟩ (.bool false))).same Dd _ hK rfl
    have hfind : (List.range b.size).find? (fun i => decide (rotB b i = a)) = none := by
      rw [List.find?_eq_none]
      intro i hi
      have hi' := List.mem_range.1 hi
      simpa using hp ⟨i, hi'⟩ (mem_upto _ _ _ hi' hi')
    have hFD := Aside0.mk hfind
    have hFK := Aside0.mk hF
    have hKK := Aside0.mk hK'
    clear hF hK' hfind hp hS2 hS hS1 hcell c6 c8
    go_wp2
    have hF := hFK.out
    have hK' := hKK.out
    refine ⟨by simp, .inl ⟨_, _, rfl, run_takeDeferred hK', ?_⟩⟩
    have hg := grownBy_putObj' ((W1.setCell ⟨w.heap.size, 0, none⟩ (.string ⟨#[]⟩)).setCell ⟨w.heap.size + 1, 0, none⟩ (.bool false)) Dd (.deferred none)
    have hL := hF.kept hg (fun k e => by cases e; exact ⟨Nat.le_trans hq hD, _, hK', rfl⟩)
    have k1 := hL.c0
    have k2 := hL.c1
    refine ⟨.tuple #[.string ⟨#[]⟩, .bool false], ?_, by rw [hFD.out]; rfl, hL.below⟩
    simp [results, Tryz.f35, go_sem, k1, k2]
  case stop =>
    rintro Dd cd pre W1 hD ⟨j, hj, rfl⟩ ⟨rfl, ini, last, e1, e2, e3, hT⟩ hK
    have hfind : (List.range b.size).find? (fun i => decide (rotB b i = a)) = some last.1 := find_upto b a j hj ini last e1 e2 e3
    have hFD := Aside0.mk hfind
    clear hfind hS hS1 hcell c6 c8 e1 e2 e3
    refine wpIn_wide.2 ?_
    go_wp2
    refine ⟨by simp, .inl ⟨_, _, rfl, run_takeDeferred hK, ?_⟩⟩
    have hg := grownBy_putObj' W1 Dd (.deferred none)
    have hL := hT.kept hg (fun k e => by cases e; exact ⟨Nat.le_trans hq hD, _, hK, rfl⟩)
    have k1 := hL.c0
    have k2 := hL.c1
    refine ⟨.tuple #[.string (R last.1), .bool true], ?_, by rw [hFD.out]; rfl, hL.below⟩
    simp [results, Tryz.f35, go_sem, k1, k2]
end Go.Proofs.YthiehmogphknlaaGreatDoor.Rot
