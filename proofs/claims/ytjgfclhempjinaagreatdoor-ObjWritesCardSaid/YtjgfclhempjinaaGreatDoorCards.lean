/-
  DERIVED. GIVEN WITH THE SEED: THE CARDS: each row of YtjgfclhempjinaaGreatDoorRows.lean that lists a variable, with what it lists TIED to the program's text (the seventh form; the later family's looks); each row that meets fmt, with fmt's text TOLD by the authors' own Lean function (tested against real Go, not proved from fmt's source: count such statements apart). THE CARD IS WHAT COUNTS. Prove the row's statement (the work); the ties are given (YtjgfclhempjinaaGreatDoorTie.lean); close each card by the builder's one call (the guide's Derived/Test/ToyasCard.lean, 'card_holds'). Laid BY PROGRAM, IN A SANDBOX (cutbox-door.mjs). By AI agents, Wed Nov 11 2026. No macro, syntax, notation, axiom, sorry.
-/
import Derived.Test.YtjgfclhempjinaaGreatDoorRows
import GoSem.ClaimSeven
namespace Go.Proofs.YtjgfclhempjinaaGreatDoor
namespace Rows

/-- THE TIED CARD OF 'marquetrylaw.ObjWrites'. -/
def objWritesCard : Claim7 := { stood := { row := objWritesRow, standIns := [], harness := (true, "d246c9ac9403fe283ed6ccdbb5eec86a48a061882339c81d09119645facdad5c"), looks := true }, kinds := [], alts := [], laidByText := true, laidKinds := [.data, .handle, .pinned], laidTests := true, laidLooks := .later }
def ObjWritesCardSaid : Prop := Claim7.holds Tryz.pinned (.plain (OpenSpec.ofChange objWritesSpec)) objWritesCard

/-- THE SECOND FORM's CARD OF 'marquetrylaw.ObjWrites'. -/
def objWritesUptoCard : Claim7 := { stood := { row := objWritesUptoRow, standIns := [], harness := (true, "d246c9ac9403fe283ed6ccdbb5eec86a48a061882339c81d09119645facdad5c"), looks := true }, kinds := [], alts := [], laidByText := true, laidKinds := [.data, .handle, .pinned], laidTests := true, laidLooks := .later }
def ObjWritesUptoCardSaid : Prop := Claim7.holds Tryz.pinned (.plain (OpenSpec.upto objWritesSpec)) objWritesUptoCard
end Rows
end Go.Proofs.YtjgfclhempjinaaGreatDoor
