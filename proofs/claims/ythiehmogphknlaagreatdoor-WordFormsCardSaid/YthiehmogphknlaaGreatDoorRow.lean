/- What the Word rows share: the laid variables give the tables; the witness's heap meets the condition. -/
import Derived.Test.YthiehmogphknlaaGreatDoorRows
import Derived.Test.YthiehmogphknlaaGreatDoorG
import Derived.ProofKit
import Derived.Lay
import Derived.LaidSub
import Derived.LaidHandle
import Derived.OpenShut
import Derived.Stop.LaidErr
namespace Go.Proofs.YthiehmogphknlaaGreatDoor.Row
open Go.ChangeShapes Go.WideShapes Go.ChangeAt Go.RowKit Go.Proofs.YthiehmogphknlaaGreatDoor.G
theorem own : ownKnob Tryz.prog.godebug = none := by kernel_rfl
def laid8 : List (String × DataW Unit) := [("math/bits.deBruijn32tab", Rows.laid_math_bits_deBruijn32tab), ("math/bits.deBruijn64tab", Rows.laid_math_bits_deBruijn64tab), ("internal/strconv.uint64pow10", Rows.laid_internal_strconv_uint64pow10), ("unicode/utf8.acceptRanges", Rows.laid_unicode_utf8_acceptRanges), ("strconv.ErrRange", Rows.laid_strconv_ErrRange), ("strconv.ErrSyntax", Rows.laid_strconv_ErrSyntax), ("cayley/word.letters", Rows.laid_cayley_word_letters), ("unicode/utf8.first", Rows.laid_unicode_utf8_first)]
theorem pick_letters : (laid8.filter fun x => x.1 == "cayley/word.letters") = [("cayley/word.letters", Lib.tabData .u8 lets)] := by kernel_rfl
theorem pick_pow10 : (laid8.filter fun x => x.1 == "internal/strconv.uint64pow10") = [("internal/strconv.uint64pow10", Lib.tabData .u64 Lib.pow10Tab)] := by kernel_rfl
theorem plainL : ([("cayley/word.letters", Lib.tabData .u8 lets)] : List (String × DataW Unit)).filter (fun x => x.2.handleName?.isNone) = [("cayley/word.letters", Lib.tabData .u8 lets)] := by kernel_rfl
theorem plainP : ([("internal/strconv.uint64pow10", Lib.tabData .u64 Lib.pow10Tab)] : List (String × DataW Unit)).filter (fun x => x.2.handleName?.isNone) = [("internal/strconv.uint64pow10", Lib.tabData .u64 Lib.pow10Tab)] := by kernel_rfl
theorem gL : Tryz.prog.globalNamed "cayley/word.letters" = some 0 := by kernel_rfl
theorem tL : (Tryz.prog.globals[0]?).map (·.type) = some 54 := by kernel_rfl
theorem gP : Tryz.prog.globalNamed "internal/strconv.uint64pow10" = some 1 := by kernel_rfl
theorem tP : (Tryz.prog.globals[1]?).map (·.type) = some 127 := by kernel_rfl
theorem gl_of_laid {W : World} (h : laidMetH Tryz.prog laid8 W) : GL W := by
  have h2 := h.filter fun x => x.1 == "cayley/word.letters"
  have h3 := h.filter fun x => x.1 == "internal/strconv.uint64pow10"
  rw [pick_letters] at h2
  rw [pick_pow10] at h3
  obtain ⟨h2, _⟩ := laidMetH_iff.1 h2
  obtain ⟨h3, _⟩ := laidMetH_iff.1 h3
  rw [plainL] at h2
  rw [plainP] at h3
  have t2 := Lib.tabIs_of_head gL tL Tryz.underlying54 Tryz.underlying5 (by kernel_rfl) (by kernel_rfl) h2
  have t3 := Lib.tabIs_of_head gP tP Tryz.underlying127 Tryz.underlying109 (by kernel_rfl) (by kernel_rfl) h3
  refine ⟨?_, t3⟩
  unfold Lib.TabIs World.var? at t2
  rw [gL] at t2
  simp only [Option.bind_some] at t2
  cases hh : W.heap[0]? with
  | none => rw [hh] at t2; cases t2
  | some o =>
    rw [hh] at t2
    cases o with
    | cells cs t fr =>
      simp only [Option.some.injEq] at t2
      subst t2
      exact ⟨t, fr, rfl⟩
    | _ => cases t2
/-- A start for the witness meets the condition. -/
theorem start_met (os : Os) (args : Array Value) : laidMetH Tryz.prog laid8 ((World.laidAll Tryz.prog os laid8).forCall (fun _ _ => 0) ⟨#[], args, []⟩).memory := by
  rw [MakeChecks.laidMetH_plain _ _ _ (by kernel_rfl)]
  exact laidMet_laidAll _ (by kernel_rfl) (by kernel_rfl)
end Go.Proofs.YthiehmogphknlaaGreatDoor.Row
