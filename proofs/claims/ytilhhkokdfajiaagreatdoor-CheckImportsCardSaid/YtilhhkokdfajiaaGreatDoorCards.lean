/-
  DERIVED. GIVEN WITH THE SEED: THE CARDS: each row of YtilhhkokdfajiaaGreatDoorRows.lean that lists a variable, with what it lists TIED to the program's text (the seventh form; the later family's looks); each row that meets fmt, with fmt's text TOLD by the authors' own Lean function (tested against real Go, not proved from fmt's source: count such statements apart). THE CARD IS WHAT COUNTS. Prove the row's statement (the work); the ties are given (YtilhhkokdfajiaaGreatDoorTie.lean); close each card by the builder's one call (the guide's Derived/Test/ToyasCard.lean, 'card_holds'). Laid BY PROGRAM, IN A SANDBOX (cutbox-door.mjs). By AI agents, Wed Nov 11 2026. No macro, syntax, notation, axiom, sorry.
-/
import Derived.Test.YtilhhkokdfajiaaGreatDoorRows
import GoSem.ClaimSeven
namespace Go.Proofs.YtilhhkokdfajiaaGreatDoor
namespace Rows

/-- THE TIED CARD OF 'marquetrykeep.CheckImports'. -/
def checkImportsCard : Claim7 := { stood := { row := checkImportsRow, standIns := [], harness := (true, "c6f5867b8113aff3657b7ffae9120d7d920a98653f863e195c8e31d9cc380cdf"), looks := true }, kinds := [], alts := [], laidByText := true, laidKinds := [.data, .data, .data, .handle, .sentinel, .sentinel, .data, .widerDeep], laidTests := true, laidLooks := .later }
def CheckImportsCardSaid : Prop := Claim7.holds Tryz.pinned (.plain (OpenSpec.ofChange checkImportsSpec)) checkImportsCard

/-- THE SECOND FORM's CARD OF 'marquetrykeep.CheckImports'. -/
def checkImportsUptoCard : Claim7 := { stood := { row := checkImportsUptoRow, standIns := [], harness := (true, "c6f5867b8113aff3657b7ffae9120d7d920a98653f863e195c8e31d9cc380cdf"), looks := true }, kinds := [], alts := [], laidByText := true, laidKinds := [.data, .data, .data, .handle, .sentinel, .sentinel, .data, .widerDeep], laidTests := true, laidLooks := .later }
def CheckImportsUptoCardSaid : Prop := Claim7.holds Tryz.pinned (.plain (OpenSpec.upto checkImportsSpec)) checkImportsUptoCard
end Rows
end Go.Proofs.YtilhhkokdfajiaaGreatDoor
