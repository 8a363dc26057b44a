/-
  DERIVED. GIVEN WITH THE SEED: THE CARDS: each row of YthiehmogphknlaaGreatDoorRows.lean that lists a variable, with what it lists TIED to the program's text (the seventh form; the later family's looks); each row that meets fmt, with fmt's text TOLD by the authors' own Lean function (tested against real Go, not proved from fmt's source: count such statements apart). THE CARD IS WHAT COUNTS. Prove the row's statement (the work); the ties are given (YthiehmogphknlaaGreatDoorTie.lean); close each card by the builder's one call (the guide's Derived/Test/ToyasCard.lean, 'card_holds'). Laid BY PROGRAM, IN A SANDBOX (cutbox-door.mjs). By AI agents, Wed Nov 11 2026. No macro, syntax, notation, axiom, sorry.
-/
import Derived.Test.YthiehmogphknlaaGreatDoorRows
import GoSem.ClaimSeven
namespace Go.Proofs.YthiehmogphknlaaGreatDoor
namespace Rows

/-- THE TIED CARD OF 'cayleylaw01.WordBasics'. -/
def wordBasicsCard : Claim7 := { stood := { row := wordBasicsRow, standIns := [], harness := (true, "4f061b3d9de993570cfb948fb1686d4350bf1f2609d6c4aebc108aabbe09fb3c"), looks := true }, kinds := [], alts := [], laidByText := true, laidKinds := [.data, .data, .data, .data, .sentinel, .sentinel, .data, .pinned], laidTests := true, laidLooks := .later }
def WordBasicsCardSaid : Prop := Claim7.holds Tryz.pinned (.plain (OpenSpec.ofChange wordBasicsSpec)) wordBasicsCard

/-- THE TIED CARD OF 'cayleylaw01.WordForms'. -/
def wordFormsCard : Claim7 := { stood := { row := wordFormsRow, standIns := [], harness := (true, "4f061b3d9de993570cfb948fb1686d4350bf1f2609d6c4aebc108aabbe09fb3c"), looks := true }, kinds := [], alts := [], laidByText := true, laidKinds := [.data, .data, .data, .data, .sentinel, .sentinel, .data, .pinned], laidTests := true, laidLooks := .later }
def WordFormsCardSaid : Prop := Claim7.holds Tryz.pinned (.plain (OpenSpec.ofChange wordFormsSpec)) wordFormsCard

/-- THE TIED CARD OF 'cayleylaw01.WordUnique'. -/
def wordUniqueCard : Claim7 := { stood := { row := wordUniqueRow, standIns := [], harness := (true, "4f061b3d9de993570cfb948fb1686d4350bf1f2609d6c4aebc108aabbe09fb3c"), looks := true }, kinds := [], alts := [], laidByText := true, laidKinds := [.data, .data, .data, .data, .sentinel, .sentinel, .data, .pinned], laidTests := true, laidLooks := .later }
def WordUniqueCardSaid : Prop := Claim7.holds Tryz.pinned (.plain (OpenSpec.ofChange wordUniqueSpec)) wordUniqueCard

/-- THE TIED CARD OF 'cayleylaw01.WordGroup'. -/
def wordGroupCard : Claim7 := { stood := { row := wordGroupRow, standIns := [], harness := (true, "4f061b3d9de993570cfb948fb1686d4350bf1f2609d6c4aebc108aabbe09fb3c"), looks := true }, kinds := [], alts := [], laidByText := true, laidKinds := [.data, .data, .data, .data, .sentinel, .sentinel, .data, .pinned], laidTests := true, laidLooks := .later }
def WordGroupCardSaid : Prop := Claim7.holds Tryz.pinned (.plain (OpenSpec.ofChange wordGroupSpec)) wordGroupCard

/-- THE TIED CARD OF 'cayleylaw01.WordCommute'. -/
def wordCommuteCard : Claim7 := { stood := { row := wordCommuteRow, standIns := [], harness := (true, "4f061b3d9de993570cfb948fb1686d4350bf1f2609d6c4aebc108aabbe09fb3c"), looks := true }, kinds := [], alts := [], laidByText := true, laidKinds := [.data, .data, .data, .data, .sentinel, .sentinel, .data, .pinned], laidTests := true, laidLooks := .later }
def WordCommuteCardSaid : Prop := Claim7.holds Tryz.pinned (.plain (OpenSpec.ofChange wordCommuteSpec)) wordCommuteCard

/-- THE TIED CARD OF 'cayleylaw01.WordConjugacy'. -/
def wordConjugacyCard : Claim7 := { stood := { row := wordConjugacyRow, standIns := [], harness := (true, "4f061b3d9de993570cfb948fb1686d4350bf1f2609d6c4aebc108aabbe09fb3c"), looks := true }, kinds := [], alts := [], laidByText := true, laidKinds := [.data, .data, .data, .data, .sentinel, .sentinel, .data, .pinned], laidTests := true, laidLooks := .later }
def WordConjugacyCardSaid : Prop := Claim7.holds Tryz.pinned (.plain (OpenSpec.ofChange wordConjugacySpec)) wordConjugacyCard

/-- THE TIED CARD OF 'cayleylaw01.WordOrder'. -/
def wordOrderCard : Claim7 := { stood := { row := wordOrderRow, standIns := [], harness := (true, "4f061b3d9de993570cfb948fb1686d4350bf1f2609d6c4aebc108aabbe09fb3c"), looks := true }, kinds := [], alts := [], laidByText := true, laidKinds := [.data, .data, .data, .data, .sentinel, .sentinel, .data, .pinned], laidTests := true, laidLooks := .later }
def WordOrderCardSaid : Prop := Claim7.holds Tryz.pinned (.plain (OpenSpec.ofChange wordOrderSpec)) wordOrderCard

/-- THE TIED CARD OF 'cayleylaw01.WordBack'. -/
def wordBackCard : Claim7 := { stood := { row := wordBackRow, standIns := [], harness := (true, "4f061b3d9de993570cfb948fb1686d4350bf1f2609d6c4aebc108aabbe09fb3c"), looks := true }, kinds := [], alts := [], laidByText := true, laidKinds := [.data, .data, .data, .data, .sentinel, .sentinel, .data, .pinned], laidTests := true, laidLooks := .later }
def WordBackCardSaid : Prop := Claim7.holds Tryz.pinned (.plain (OpenSpec.ofChange wordBackSpec)) wordBackCard

/-- THE SECOND FORM's CARD OF 'cayleylaw01.WordBasics'. -/
def wordBasicsUptoCard : Claim7 := { stood := { row := wordBasicsUptoRow, standIns := [], harness := (true, "4f061b3d9de993570cfb948fb1686d4350bf1f2609d6c4aebc108aabbe09fb3c"), looks := true }, kinds := [], alts := [], laidByText := true, laidKinds := [.data, .data, .data, .data, .sentinel, .sentinel, .data, .pinned], laidTests := true, laidLooks := .later }
def WordBasicsUptoCardSaid : Prop := Claim7.holds Tryz.pinned (.plain (OpenSpec.upto wordBasicsSpec)) wordBasicsUptoCard

/-- THE SECOND FORM's CARD OF 'cayleylaw01.WordForms'. -/
def wordFormsUptoCard : Claim7 := { stood := { row := wordFormsUptoRow, standIns := [], harness := (true, "4f061b3d9de993570cfb948fb1686d4350bf1f2609d6c4aebc108aabbe09fb3c"), looks := true }, kinds := [], alts := [], laidByText := true, laidKinds := [.data, .data, .data, .data, .sentinel, .sentinel, .data, .pinned], laidTests := true, laidLooks := .later }
def WordFormsUptoCardSaid : Prop := Claim7.holds Tryz.pinned (.plain (OpenSpec.upto wordFormsSpec)) wordFormsUptoCard

/-- THE SECOND FORM's CARD OF 'cayleylaw01.WordUnique'. -/
def wordUniqueUptoCard : Claim7 := { stood := { row := wordUniqueUptoRow, standIns := [], harness := (true, "4f061b3d9de993570cfb948fb1686d4350bf1f2609d6c4aebc108aabbe09fb3c"), looks := true }, kinds := [], alts := [], laidByText := true, laidKinds := [.data, .data, .data, .data, .sentinel, .sentinel, .data, .pinned], laidTests := true, laidLooks := .later }
def WordUniqueUptoCardSaid : Prop := Claim7.holds Tryz.pinned (.plain (OpenSpec.upto wordUniqueSpec)) wordUniqueUptoCard

/-- THE SECOND FORM's CARD OF 'cayleylaw01.WordGroup'. -/
def wordGroupUptoCard : Claim7 := { stood := { row := wordGroupUptoRow, standIns := [], harness := (true, "4f061b3d9de993570cfb948fb1686d4350bf1f2609d6c4aebc108aabbe09fb3c"), looks := true }, kinds := [], alts := [], laidByText := true, laidKinds := [.data, .data, .data, .data, .sentinel, .sentinel, .data, .pinned], laidTests := true, laidLooks := .later }
def WordGroupUptoCardSaid : Prop := Claim7.holds Tryz.pinned (.plain (OpenSpec.upto wordGroupSpec)) wordGroupUptoCard

/-- THE SECOND FORM's CARD OF 'cayleylaw01.WordCommute'. -/
def wordCommuteUptoCard : Claim7 := { stood := { row := wordCommuteUptoRow, standIns := [], harness := (true, "4f061b3d9de993570cfb948fb1686d4350bf1f2609d6c4aebc108aabbe09fb3c"), looks := true }, kinds := [], alts := [], laidByText := true, laidKinds := [.data, .data, .data, .data, .sentinel, .sentinel, .data, .pinned], laidTests := true, laidLooks := .later }
def WordCommuteUptoCardSaid : Prop := Claim7.holds Tryz.pinned (.plain (OpenSpec.upto wordCommuteSpec)) wordCommuteUptoCard

/-- THE SECOND FORM's CARD OF 'cayleylaw01.WordConjugacy'. -/
def wordConjugacyUptoCard : Claim7 := { stood := { row := wordConjugacyUptoRow, standIns := [], harness := (true, "4f061b3d9de993570cfb948fb1686d4350bf1f2609d6c4aebc108aabbe09fb3c"), looks := true }, kinds := [], alts := [], laidByText := true, laidKinds := [.data, .data, .data, .data, .sentinel, .sentinel, .data, .pinned], laidTests := true, laidLooks := .later }
def WordConjugacyUptoCardSaid : Prop := Claim7.holds Tryz.pinned (.plain (OpenSpec.upto wordConjugacySpec)) wordConjugacyUptoCard

/-- THE SECOND FORM's CARD OF 'cayleylaw01.WordOrder'. -/
def wordOrderUptoCard : Claim7 := { stood := { row := wordOrderUptoRow, standIns := [], harness := (true, "4f061b3d9de993570cfb948fb1686d4350bf1f2609d6c4aebc108aabbe09fb3c"), looks := true }, kinds := [], alts := [], laidByText := true, laidKinds := [.data, .data, .data, .data, .sentinel, .sentinel, .data, .pinned], laidTests := true, laidLooks := .later }
def WordOrderUptoCardSaid : Prop := Claim7.holds Tryz.pinned (.plain (OpenSpec.upto wordOrderSpec)) wordOrderUptoCard

/-- THE SECOND FORM's CARD OF 'cayleylaw01.WordBack'. -/
def wordBackUptoCard : Claim7 := { stood := { row := wordBackUptoRow, standIns := [], harness := (true, "4f061b3d9de993570cfb948fb1686d4350bf1f2609d6c4aebc108aabbe09fb3c"), looks := true }, kinds := [], alts := [], laidByText := true, laidKinds := [.data, .data, .data, .data, .sentinel, .sentinel, .data, .pinned], laidTests := true, laidLooks := .later }
def WordBackUptoCardSaid : Prop := Claim7.holds Tryz.pinned (.plain (OpenSpec.upto wordBackSpec)) wordBackUptoCard
end Rows
end Go.Proofs.YthiehmogphknlaaGreatDoor
