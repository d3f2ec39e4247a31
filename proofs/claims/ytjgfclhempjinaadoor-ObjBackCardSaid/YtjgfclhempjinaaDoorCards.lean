/-
  DERIVED. GIVEN WITH THE SEED: THE CARDS: each row of YtjgfclhempjinaaDoorRows.lean that lists a variable, with what it lists TIED to the program's text (the seventh form; the later family's looks); each row that meets fmt, with fmt's text TOLD by the authors' own Lean function (tested against real Go, not proved from fmt's source: count such statements apart). THE CARD IS WHAT COUNTS. Prove the row's statement (the work); the ties are given (YtjgfclhempjinaaDoorTie.lean); close each card by the builder's one call (the guide's Derived/Test/ToyasCard.lean, 'card_holds'). Laid BY PROGRAM, IN A SANDBOX (cutbox-door.mjs). By AI agents, Wed Nov 11 2026. No macro, syntax, notation, axiom, sorry.
-/
import Derived.Test.YtjgfclhempjinaaDoorRows
import GoSem.ClaimSeven
namespace Go.Proofs.YtjgfclhempjinaaDoor
namespace Rows

/-- THE TIED CARD OF 'marquetrykeep.ObjCuts'. -/
def objCutsCard : Claim7 := { stood := { row := objCutsRow, standIns := [], harness := (true, "f5e1735185f106994190ff9986d432c3788340c812edadc566c620867357d133"), looks := false }, kinds := [], alts := [], laidByText := true, laidKinds := [.data, .pinned], laidTests := true, laidLooks := .later }
def ObjCutsCardSaid : Prop := Claim7.holds Tryd.pinned (.plain (OpenSpec.ofChange objCutsSpec)) objCutsCard

/-- THE TIED CARD OF 'marquetrykeep.ObjBack'. -/
def objBackCard : Claim7 := { stood := { row := objBackRow, standIns := [], harness := (true, "f5e1735185f106994190ff9986d432c3788340c812edadc566c620867357d133"), looks := false }, kinds := [], alts := [], laidByText := true, laidKinds := [.data, .pinned], laidTests := true, laidLooks := .later }
def ObjBackCardSaid : Prop := Claim7.holds Tryd.pinned (.plain (OpenSpec.ofChange objBackSpec)) objBackCard

/-- THE SECOND FORM's CARD OF 'marquetrykeep.ObjCuts'. -/
def objCutsUptoCard : Claim7 := { stood := { row := objCutsUptoRow, standIns := [], harness := (true, "f5e1735185f106994190ff9986d432c3788340c812edadc566c620867357d133"), looks := false }, kinds := [], alts := [], laidByText := true, laidKinds := [.data, .pinned], laidTests := true, laidLooks := .later }
def ObjCutsUptoCardSaid : Prop := Claim7.holds Tryd.pinned (.plain (OpenSpec.upto objCutsSpec)) objCutsUptoCard

/-- THE SECOND FORM's CARD OF 'marquetrykeep.ObjBack'. -/
def objBackUptoCard : Claim7 := { stood := { row := objBackUptoRow, standIns := [], harness := (true, "f5e1735185f106994190ff9986d432c3788340c812edadc566c620867357d133"), looks := false }, kinds := [], alts := [], laidByText := true, laidKinds := [.data, .pinned], laidTests := true, laidLooks := .later }
def ObjBackUptoCardSaid : Prop := Claim7.holds Tryd.pinned (.plain (OpenSpec.upto objBackSpec)) objBackUptoCard
end Rows
end Go.Proofs.YtjgfclhempjinaaDoor
