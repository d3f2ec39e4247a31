/-
  DERIVED. GIVEN WITH THE SEED: THE CARDS: each row of YtgnfhognbpifiaaGreatDoorRows.lean that lists a variable, with what it lists TIED to the program's text (the seventh form; the later family's looks); each row that meets fmt, with fmt's text TOLD by the authors' own Lean function (tested against real Go, not proved from fmt's source: count such statements apart). THE CARD IS WHAT COUNTS. Prove the row's statement (the work); the ties are given (YtgnfhognbpifiaaGreatDoorTie.lean); close each card by the builder's one call (the guide's Derived/Test/ToyasCard.lean, 'card_holds'). Laid BY PROGRAM, IN A SANDBOX (cutbox-door.mjs). By AI agents, Wed Nov 11 2026. No macro, syntax, notation, axiom, sorry.
-/
import Derived.Test.YtgnfhognbpifiaaGreatDoorRows
import GoSem.ClaimSeven
namespace Go.Proofs.YtgnfhognbpifiaaGreatDoor
namespace Rows

/-- THE TIED CARD OF 'marquetrykeep.PlanRounds'. -/
def planRoundsCard : Claim7 := { stood := { row := planRoundsRow, standIns := [], harness := (true, "2b730a8d6d9bf4f753a2c1317ed51039c3ea49228cc187e13c52db12f90d9d51"), looks := true }, kinds := [], alts := [], laidByText := true, laidKinds := [.data, .data, .data, .handle, .sentinel, .sentinel, .data, .widerDeep], laidTests := true, laidLooks := .later }
def PlanRoundsCardSaid : Prop := Claim7.holds Tryz.pinned (.plain (OpenSpec.ofChange planRoundsSpec)) planRoundsCard

/-- THE TIED CARD OF 'marquetrykeep.PlanStale'. -/
def planStaleCard : Claim7 := { stood := { row := planStaleRow, standIns := [], harness := (true, "2b730a8d6d9bf4f753a2c1317ed51039c3ea49228cc187e13c52db12f90d9d51"), looks := true }, kinds := [], alts := [], laidByText := true, laidKinds := [.data, .data, .data, .handle, .sentinel, .sentinel, .data, .widerDeep], laidTests := true, laidLooks := .later }
def PlanStaleCardSaid : Prop := Claim7.holds Tryz.pinned (.plain (OpenSpec.ofChange planStaleSpec)) planStaleCard

/-- THE SECOND FORM's CARD OF 'marquetrykeep.PlanRounds'. -/
def planRoundsUptoCard : Claim7 := { stood := { row := planRoundsUptoRow, standIns := [], harness := (true, "2b730a8d6d9bf4f753a2c1317ed51039c3ea49228cc187e13c52db12f90d9d51"), looks := true }, kinds := [], alts := [], laidByText := true, laidKinds := [.data, .data, .data, .handle, .sentinel, .sentinel, .data, .widerDeep], laidTests := true, laidLooks := .later }
def PlanRoundsUptoCardSaid : Prop := Claim7.holds Tryz.pinned (.plain (OpenSpec.upto planRoundsSpec)) planRoundsUptoCard

/-- THE SECOND FORM's CARD OF 'marquetrykeep.PlanStale'. -/
def planStaleUptoCard : Claim7 := { stood := { row := planStaleUptoRow, standIns := [], harness := (true, "2b730a8d6d9bf4f753a2c1317ed51039c3ea49228cc187e13c52db12f90d9d51"), looks := true }, kinds := [], alts := [], laidByText := true, laidKinds := [.data, .data, .data, .handle, .sentinel, .sentinel, .data, .widerDeep], laidTests := true, laidLooks := .later }
def PlanStaleUptoCardSaid : Prop := Claim7.holds Tryz.pinned (.plain (OpenSpec.upto planStaleSpec)) planStaleUptoCard
end Rows
end Go.Proofs.YtgnfhognbpifiaaGreatDoor
