/- WordBasics: the plain law. -/
import Derived.Test.YthiehmogphknlaaGreatDoorRefBasics
import Derived.Test.YthiehmogphknlaaGreatDoorPBx1
namespace Go.Proofs.YthiehmogphknlaaGreatDoor.Laws
open Go.RowKit Go.Proofs.YthiehmogphknlaaGreatDoor.G Go.Proofs.YthiehmogphknlaaGreatDoor.PA Go.Proofs.YthiehmogphknlaaGreatDoor.PT Go.Proofs.YthiehmogphknlaaGreatDoor.PB Go.Proofs.YthiehmogphknlaaGreatDoorW.PrintWords Go.Proofs.YthiehmogphknlaaGreatDoor.Free Go.Proofs.YthiehmogphknlaaGreatDoor.Pure1

theorem basics_pure (kk n c : Int) (u v : ByteArray) (_ : (Lit.int .i64 kk).wf = true) (hn : (Lit.int .i64 n).wf = true) (hc : (Lit.int .u8 c).wf = true) (hu : u.size ≤ 140737488351232) (hv : v.size ≤ 140737488351232) :
    ∃ k, cayleylaw01_WordBasics.f k kk n c u v = some true := by
  have n0 : -9223372036854775808 ≤ n ∧ n ≤ 9223372036854775807 := by
    have h := (show IntKind.i64.min ≤ n ∧ n ≤ IntKind.i64.max by simpa [Lit.wf] using hn)
    exact h
  have c0 : 0 ≤ c ∧ c ≤ 255 := by
    have h := (show IntKind.u8.min ≤ c ∧ c ≤ IntKind.u8.max by simpa [Lit.wf] using hc)
    exact h
  refine Ev.rounds ?_
  unfold cayleylaw01_WordBasics.f
  have hsane : ∀ (g : Bool → Option Bool), cayleylaw01_sane.f.bind g = g true := fun _ => rfl
  simp only [hsane, if_true]
  refine Ev.bind (short_ev [u, v] (by simp)) ?_
  cases hS : [u, v].all fun s => decide (Sh s)
  case false => exact Ev.congr (f := fun _ => some true) (fun k => by rw [if_neg (by simp)]) (Ev.now _)
  simp only [if_true]
  have su : Sh u := by
    rw [List.all_cons, Bool.and_eq_true] at hS
    exact of_decide_eq_true hS.1
  clear hS
  rw [check_f kk u (by omega)]
  simp only [Option.bind_some]
  refine Ev.bind (rCheck_ev kk u (by omega)) ?_
  simp only [if_true]
  have ei : word_Index.f c = some (idx c) := by unfold word_Index.f; rw [if_pos c0]
  rw [ei]
  simp only [Option.bind_some]
  refine Ev.bind (rIndex_ev c c0.1 c0.2) ?_
  simp only [if_true]
  have el : word_Letter.f n = some (let_ n) := by unfold word_Letter.f; rw [if_pos n0]
  rw [el]
  simp only [Option.bind_some]
  refine Ev.bind (rLetter_ev n) ?_
  simp only [if_true]
  refine Ev.bind (Inverse_ev u (by omega)) (Ev.bind (rInverse_ev u (by omega)) ?_)
  simp only [if_true]
  refine Ev.bind (Reduce_ev u (by omega)) (Ev.bind (rReduce_ev u (by omega)) ?_)
  simp only [if_true]
  refine Ev.bind (Compare_ev u v (by omega) (by omega)) (Ev.bind (rCompare_ev u v (by omega) (by omega)) ?_)
  simp only [if_true]
  by_cases h : Wd u
  · refine Ev.bind (Text_ev (su.sw h)) (Ev.bind (rText_ev (su.sw h)) ?_)
    rw [beq_self_eq_true]
    exact Ev.now _
  · refine Ev.bind (Text_no (by omega) h) (Ev.bind (rText_no (by omega) h) ?_)
    rw [beq_self_eq_true]
    exact Ev.now _

end Go.Proofs.YthiehmogphknlaaGreatDoor.Laws
