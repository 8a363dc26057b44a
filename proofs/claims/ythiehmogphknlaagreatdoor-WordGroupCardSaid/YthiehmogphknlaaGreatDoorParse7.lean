/- word.Parse: the deferred closure, and the whole. -/
import Derived.Test.YthiehmogphknlaaGreatDoorParse6
import Derived.Recover
import Derived.RegionTactic
import Derived.BigRegion
import Derived.Laws.Pointers
namespace Go.Proofs.YthiehmogphknlaaGreatDoor.Parse
open Go.RowKit Go.Proofs.YthiehmogphknlaaGreatDoor.G Go.Proofs.YthiehmogphknlaaGreatDoor.PA Go.Proofs.YthiehmogphknlaaGreatDoorW.PrintWords Go.Proofs.YthiehmogphknlaaGreatDoor.Free Go.Proofs.YthiehmogphknlaaGreatDoor.Pure1

theorem sum_all (k : Int) (hk0 : 1 ≤ k) (hk1 : k ≤ 8) : ∀ f : Nat, f ≤ 4611686018427387904 → SumC k (4611686018427387904 - f) (sumN k f) := by
  intro f
  induction f with
  | zero => intro _ g w l o d r _ _ _ _ _ _ hr; cases hr
  | succ f ih =>
    intro hf
    have := sum_step k hk0 hk1 (4611686018427387904 - f) (by omega) f (ih (by omega))
    rw [show (4611686018427387904 : Int) - f - 1 = 4611686018427387904 - ((f + 1 : Nat) : Int) by omega] at this
    exact this

set_option maxHeartbeats 1000000 in
theorem catch_idle (a b : Value) (w : World) :
    CallsD Tryz.prog 60 #[a, b] .returning w fun e u' w' => e = .returned (.tuple #[]) ∧ u' = .returning ∧ w' = w := by
  refine callsD_of_wpS Tryz.func60 rfl fun c₀ cs hu => ?_
  apply wpS_seq
  apply wpS_region
  simp [wpOpsS, go_sem, recoverD, hu, Tryz.ntmps60, Exit.thenS]
  refine wpS_of_wp ?_
  go_wp2
  cases c₀
  simp_all [bodyPostS, results, Tryz.results60]

set_option maxHeartbeats 4000000 in
set_option maxRecDepth 100000 in
theorem catch_bad (bw be B : Nat) (s : ByteArray) (q : Int) (w : World) (hb1 : B ≤ bw) (hb2 : B ≤ be) (hne : bw ≠ be) (hB : B ≤ w.heap.size) (hw : w.cell? ⟨bw, 0, none⟩ = some (.string s)) (hwf : w.frozen? ⟨bw, 0, none⟩ = false) (he : w.cell? ⟨be, 0, none⟩ = some (.int .i64 q)) (hef : w.frozen? ⟨be, 0, none⟩ = false) :
    CallsD Tryz.prog 60 #[.pointer (some ⟨bw, 0, none⟩), .pointer (some ⟨be, 0, none⟩)] (.panicking bad) w fun e u' w' =>
      e = .returned (.tuple #[]) ∧ u' = .panicking [{ v := .iface 71 (.agg #[.int .i64 4]), recovered := true }] ∧ w'.cell? ⟨bw, 0, none⟩ = some (.string ⟨#[]⟩) ∧ w'.cell? ⟨be, 0, none⟩ = some (.int .i64 4) ∧ Below B w w' := by
  refine callsD_of_wpS Tryz.func60 rfl fun c₀ cs hu => ?_
  unfold bad at hu
  simp only [Tryz.ntmps60, List.size_toArray, List.length_cons, List.length_nil, Nat.reduceAdd, Nat.reduceSub, Array.replicate_succ, Array.replicate_zero, List.push_toArray, List.append_toArray, List.nil_append, List.cons_append]
  apply wpS_seq
  apply wpS_region
  simp [wpOpsS, go_sem, recoverD, hu, Exit.thenS]
  refine wpS_of_wp ?_
  clear hu
  have hlt1 : bw < w.heap.size := World.block_lt_of_cell? w _ hw
  have hlt2 : be < w.heap.size := World.block_lt_of_cell? w _ he
  have hta : ∀ W : World, (Instr.typeAssert (.iface 71 (.agg #[.int .i64 4])) 20 71 true).run Tryz.prog W = .ok (.tuple #[.agg #[.int .i64 4], .bool true]) W := fun W => by kernel_rfl
  go_wp2
  have hbw : Below B w (w.alloc (.cells #[.int .i64 4] 71)) := (Below.refl _ _).alloc hB _
  have w1 : (w.alloc (.cells #[.int .i64 4] 71)).cell? ⟨bw, 0, none⟩ = some (.string s) := (World.cell?_of_block (w := w) (Below.heap_alloc w _ bw hlt1)).trans hw
  have w2 : (w.alloc (.cells #[.int .i64 4] 71)).cell? ⟨be, 0, none⟩ = some (.int .i64 q) := (World.cell?_of_block (w := w) (Below.heap_alloc w _ be hlt2)).trans he
  have w3 : (w.alloc (.cells #[.int .i64 4] 71)).frozen? ⟨bw, 0, none⟩ = false := (World.frozen?_of_block (w := w) (Below.heap_alloc w _ bw hlt1)).trans hwf
  have w4 : (w.alloc (.cells #[.int .i64 4] 71)).frozen? ⟨be, 0, none⟩ = false := (World.frozen?_of_block (w := w) (Below.heap_alloc w _ be hlt2)).trans hef
  have w5 : (w.alloc (.cells #[.int .i64 4] 71)).cell? ⟨w.heap.size, 0, none⟩ = some (.int .i64 4) := by simp
  obtain ⟨W, hW⟩ : ∃ W, w.alloc (.cells #[.int .i64 4] 71) = W := ⟨_, rfl⟩
  rw [hW] at hbw w1 w2 w3 w4 w5 ⊢
  clear hW hw he hwf hef
  have n1 : ¬ bw = w.heap.size := by omega
  have n2 : ¬ be = w.heap.size := by omega
  have n3 : ¬ w.heap.size = bw := by omega
  have n4 : ¬ w.heap.size = be := by omega
  have n5 : ¬ bw = be := hne
  have n6 : ¬ be = bw := fun h => hne h.symm
  have HBW := Aside0.mk hbw
  clear hbw
  go_region
  go_wp2
  have k1 : ((W.setCell ⟨bw, 0, none⟩ (.string ⟨#[]⟩)).setCell ⟨be, 0, none⟩ (.int .i64 4)).drew.cell? ⟨bw, 0, none⟩ = some (.string ⟨#[]⟩) := by
    refine (World.cell?_drew _ _).trans ?_
    refine (World.cell?_setCell_far _ _ _ _ (by exact n6)).trans ?_
    exact World.cell?_setCell_same _ _ _ w1
  have k2 : ((W.setCell ⟨bw, 0, none⟩ (.string ⟨#[]⟩)).setCell ⟨be, 0, none⟩ (.int .i64 4)).drew.cell? ⟨be, 0, none⟩ = some (.int .i64 4) := by
    refine (World.cell?_drew _ _).trans ?_
    exact World.cell?_setCell_same _ _ _ ((World.cell?_setCell_far _ _ _ _ (by exact n5)).trans w2)
  have k3 : Below B w ((W.setCell ⟨bw, 0, none⟩ (.string ⟨#[]⟩)).setCell ⟨be, 0, none⟩ (.int .i64 4)).drew := ((HBW.out.setCell (p := ⟨bw, 0, none⟩) hb1 _).setCell (p := ⟨be, 0, none⟩) hb2 _).drew
  exact ⟨rfl, _, rfl, .tuple #[], by simp [results, Tryz.results60], rfl, rfl, k1, k2, k3⟩

end Go.Proofs.YthiehmogphknlaaGreatDoor.Parse
