/- A datum of an argument gives the value that the printed contracts read: kind by kind. -/
import Derived.Test.YthiehmogphknlaaGreatDoorWWords
import Derived.Deep.Slices
import Derived.Deep.Fields
import Derived.ChangeSame
namespace Go.Proofs.YthiehmogphknlaaGreatDoor.Opens
open Go.RowKit Go.Proofs.YthiehmogphknlaaGreatDoorW.PrintWords Go.ChangeShapes Go.WideShapes

/-- Whatever cells a datum of type t is read from: they are a value of the kind d with the property Q. -/
def Opens {α : Type} (P : Program) (w : World) (t : TypeId) (d : Kd α) (Q : α → Prop) : Prop :=
  ∀ (H : Type) (enc : TypeId × Value → H) (base : Nat) (spare : Nat → Bool) (held : Bool) (fuel : Nat) (cs : List Value) (x : DataW H × List MemPlace),
    DataW.trod enc P w base spare held fuel t cs = some x → ∃ a, d.K w a cs ∧ Q a
section
variable {α β : Type} {P : Program} {w : World} {t e : TypeId} {d : Kd α} {Q : α → Prop}

theorem Opens.int {k : IntKind} (ht : P.underlying t = some (.int k)) : Opens P w t (Kd.int k) (fun a => (Lit.int k a).wf = true) := by
  intro H enc base spare held fuel cs x h
  obtain ⟨n, rfl, _, hw⟩ := DataW.trod_int ht h
  exact ⟨n, rfl, hw⟩
theorem Opens.bool (ht : P.underlying t = some .bool) : Opens P w t Kd.bool (fun _ => True) := by
  intro H enc base spare held fuel cs x h
  obtain ⟨n, rfl, _⟩ := DataW.trod_bool ht h
  exact ⟨n, rfl, trivial⟩
theorem Opens.string (ht : P.underlying t = some .string) : Opens P w t Kd.string (fun a => a.size ≤ maxLen) := by
  intro H enc base spare held fuel cs x h
  obtain ⟨n, rfl, _, hw⟩ := DataW.trod_string ht h
  exact ⟨n, rfl, hw⟩
theorem Opens.slice (ht : P.underlying t = some (.slice e)) (hC : P.cellsOf e = d.sz) (h : Opens P w e d Q) : Opens P w t (Kd.slice e d) (fun l => (∀ a ∈ l, Q a) ∧ l.length ≤ maxLen) := by
  intro H enc base spare held fuel cs x hx
  rcases Go.Deep.open_slice ht hx with ⟨rfl, _⟩ | ⟨a, len, cap, m, n, D, Pl, rfl, _, hl, hm, hmm, _, hi⟩
  · exact ⟨[], ⟨none, 0, rfl, Nat.le_refl _, rfl, by simp, fun h => by cases h⟩, (fun _ h => by cases h), by simp⟩
  · have hlm : len ≤ m := by rw [hmm]; split <;> omega
    have hall : ∀ i : Fin len, ∃ (cs' : List Value) (y : α), w.cells? base (a.add (i.1 * d.sz)) d.sz = some cs' ∧ d.K w y cs' ∧ Q y := by
      intro i
      obtain ⟨cs', hc, ht'⟩ := hi i.1 (by have := i.2; omega)
      rw [hC] at hc
      obtain ⟨y, hk, hq⟩ := h _ _ _ _ _ _ _ _ ht'
      exact ⟨cs', y, hc, hk, hq⟩
    have hml : len ≤ maxLen := Nat.le_trans hl hm
    have hlen : (List.ofFn fun i : Fin len => (hall i).choose_spec.choose).length = len := by simp
    refine ⟨List.ofFn fun i : Fin len => (hall i).choose_spec.choose, ⟨some a, cap, by rw [hlen], by rw [hlen]; exact hl, rfl, ?_, ?_⟩, ?_, by rw [hlen]; exact hml⟩
    · rw [hlen]; unfold maxLen at hml; omega
    · intro _
      refine ⟨a, rfl, ?_⟩
      intro j p hj
      have hjl : j < len := by have := (List.getElem?_eq_some_iff.1 hj).1; rwa [hlen] at this
      have hp : p = (hall ⟨j, hjl⟩).choose_spec.choose := by
        rw [List.getElem?_eq_getElem (by rw [hlen]; exact hjl)] at hj
        have := Option.some.inj hj
        rw [List.getElem_ofFn] at this
        exact this.symm
      obtain ⟨hc, hk, _⟩ := (hall ⟨j, hjl⟩).choose_spec.choose_spec
      obtain ⟨_, hcl, hat⟩ := World.cells?_some hc
      refine ⟨_, hcl, hp ▸ hk, ?_⟩
      intro i u hu
      have hil : i < d.sz := by
        have := (List.getElem?_eq_some_iff.1 hu).1
        omega
      have := hat i hil
      rw [Go.Deep.add_add] at this
      exact this.trans hu
    · intro y hy
      obtain ⟨i, rfl⟩ := List.mem_ofFn.1 hy
      exact (hall i).choose_spec.choose_spec.2.2
theorem Opens.iso (h : Opens P w t d Q) (f : β → α) (g : α → β) (hg : ∀ a, f (g a) = a) : Opens P w t (Kd.iso d f) (fun b => Q (f b)) := by
  intro H enc base spare held fuel cs x hx
  obtain ⟨a, hk, hq⟩ := h H enc base spare held fuel cs x hx
  refine ⟨g a, ?_, ?_⟩
  · show d.K w (f (g a)) cs
    rw [hg]; exact hk
  · show Q (f (g a))
    rw [hg]; exact hq
theorem Opens.imp {R : α → Prop} (h : Opens P w t d Q) (hr : ∀ a, Q a → R a) : Opens P w t d R := by
  intro H enc base spare held fuel cs x hx
  obtain ⟨a, hk, hq⟩ := h H enc base spare held fuel cs x hx
  exact ⟨a, hk, hr a hq⟩

/-- The fields of a struct, from one on. -/
def OpensRow {α : Type} (P : Program) (w : World) (fs : List Field) (off : Nat) (d : Kd α) (Q : α → Prop) : Prop :=
  ∀ (H : Type) (enc : TypeId × Value → H) (base : Nat) (spare : Nat → Bool) (held : Bool) (n : Nat) (cs : List Value), cs.length = off + d.sz →
    (∀ f ∈ fs, ∃ y, DataW.trod enc P w base spare held n f.type ((cs.drop f.offset).take (P.cellsOf f.type)) = some y) → ∃ a, d.K w a (cs.drop off) ∧ Q a
theorem OpensRow.one {f : Field} {off : Nat} (ho : f.offset = off) (hC : P.cellsOf f.type = d.sz) (h : Opens P w f.type d Q) : OpensRow P w [f] off d Q := by
  intro H enc base spare held n cs hl hf
  obtain ⟨y, hy⟩ := hf f (by simp)
  rw [ho, hC, List.take_of_length_le (by rw [List.length_drop]; omega)] at hy
  exact h H enc base spare held n _ y hy
theorem OpensRow.cons {d2 : Kd β} {Q2 : β → Prop} {f : Field} {fs : List Field} {off : Nat} (ho : f.offset = off) (hC : P.cellsOf f.type = d.sz) (h : Opens P w f.type d Q) (k : OpensRow P w fs (off + d.sz) d2 Q2) :
    OpensRow P w (f :: fs) off (Kd.pair d d2) (fun x => Q x.1 ∧ Q2 x.2) := by
  intro H enc base spare held n cs hl hf
  obtain ⟨y, hy⟩ := hf f (by simp)
  rw [ho, hC] at hy
  obtain ⟨a, ha, qa⟩ := h H enc base spare held n _ y hy
  obtain ⟨b, hb, qb⟩ := k H enc base spare held n cs (by rw [hl]; show off + (d.sz + d2.sz) = _; omega) (fun f' hf' => hf f' (List.mem_cons_of_mem _ hf'))
  refine ⟨(a, b), ⟨_, _, ?_, ha, hb⟩, qa, qb⟩
  rw [← List.drop_drop, List.take_append_drop]
theorem Opens.struct {fs : Array Field} (ht : P.underlying t = some (.struct fs)) (hC : P.cellsOf t = d.sz) (h : OpensRow P w fs.toList 0 d Q) : Opens P w t d Q := by
  intro H enc base spare held fuel cs x hx
  obtain ⟨xs, n, _, _, hl, hlen, hf⟩ := DataW.trod_struct ht hx
  refine h H enc base spare held n cs (by rw [hl, hC]; omega) ?_
  intro f hf'
  obtain ⟨i, hi, rfl⟩ := Array.mem_iff_getElem.1 (Array.mem_toList_iff.1 hf')
  have h1 := hf i _ (Array.getElem?_eq_getElem hi)
  have hi2 : i < xs.length := by rw [hlen]; exact hi
  exact ⟨xs[i], h1.trans (List.getElem?_eq_getElem hi2)⟩
end
end Go.Proofs.YthiehmogphknlaaGreatDoor.Opens
