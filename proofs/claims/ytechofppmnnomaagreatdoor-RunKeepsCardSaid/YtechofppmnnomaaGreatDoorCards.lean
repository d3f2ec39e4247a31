/-
  DERIVED. GIVEN WITH THE SEED: THE CARDS: each row of YtechofppmnnomaaGreatDoorRows.lean that lists a variable, with what it lists TIED to the program's text (the seventh form; the later family's looks); each row that meets fmt, with fmt's text TOLD by the authors' own Lean function (tested against real Go, not proved from fmt's source: count such statements apart). THE CARD IS WHAT COUNTS. Prove the row's statement (the work); the ties are given (YtechofppmnnomaaGreatDoorTie.lean); close each card by the builder's one call (the guide's Derived/Test/ToyasCard.lean, 'card_holds'). Laid BY PROGRAM, IN A SANDBOX (cutbox-door.mjs). By AI agents, Wed Nov 11 2026. No macro, syntax, notation, axiom, sorry.
-/
import Derived.Test.YtechofppmnnomaaGreatDoorRows
import GoSem.ClaimSeven
namespace Go.Proofs.YtechofppmnnomaaGreatDoor
namespace Rows

/-- THE TIED CARD OF 'marquetrykeep.RunBoth'. -/
def runBothCard : Claim7 := { stood := { row := runBothRow, standIns := [], harness := (true, "a4bc02af82da0dc69a5f78fc8cc7bad01a0b618a30472dffb32134f54d5c49f5"), looks := true }, kinds := [], alts := [], laidByText := true, laidKinds := [.data, .data, .data, .sentinel, .sentinel, .data, .widerDeep], laidTests := true, laidLooks := .later }
def RunBothCardSaid : Prop := Claim7.holds Tryz.pinned (.plain (OpenSpec.ofChange runBothSpec)) runBothCard

/-- THE TIED CARD OF 'marquetrykeep.RunRests'. -/
def runRestsCard : Claim7 := { stood := { row := runRestsRow, standIns := [], harness := (true, "a4bc02af82da0dc69a5f78fc8cc7bad01a0b618a30472dffb32134f54d5c49f5"), looks := true }, kinds := [], alts := [], laidByText := true, laidKinds := [.data, .data, .data, .handle, .sentinel, .sentinel, .data, .widerDeep], laidTests := true, laidLooks := .later }
def RunRestsCardSaid : Prop := Claim7.holds Tryz.pinned (.plain (OpenSpec.ofChange runRestsSpec)) runRestsCard

/-- THE TIED CARD OF 'marquetrykeep.RunAlone'. -/
def runAloneCard : Claim7 := { stood := { row := runAloneRow, standIns := [], harness := (true, "a4bc02af82da0dc69a5f78fc8cc7bad01a0b618a30472dffb32134f54d5c49f5"), looks := true }, kinds := [], alts := [], laidByText := true, laidKinds := [.data, .data, .data, .handle, .sentinel, .sentinel, .data, .widerDeep], laidTests := true, laidLooks := .later }
def RunAloneCardSaid : Prop := Claim7.holds Tryz.pinned (.plain (OpenSpec.ofChange runAloneSpec)) runAloneCard

/-- THE TIED CARD OF 'marquetrykeep.RunKeeps'. -/
def runKeepsCard : Claim7 := { stood := { row := runKeepsRow, standIns := [], harness := (true, "a4bc02af82da0dc69a5f78fc8cc7bad01a0b618a30472dffb32134f54d5c49f5"), looks := true }, kinds := [], alts := [], laidByText := true, laidKinds := [.data, .data, .data, .handle, .sentinel, .sentinel, .data, .widerDeep], laidTests := true, laidLooks := .later }
def RunKeepsCardSaid : Prop := Claim7.holds Tryz.pinned (.plain (OpenSpec.ofChange runKeepsSpec)) runKeepsCard

/-- THE TIED CARD OF 'marquetrykeep.RunRefuses'. -/
def runRefusesCard : Claim7 := { stood := { row := runRefusesRow, standIns := [], harness := (true, "a4bc02af82da0dc69a5f78fc8cc7bad01a0b618a30472dffb32134f54d5c49f5"), looks := true }, kinds := [], alts := [], laidByText := true, laidKinds := [.data, .data, .data, .handle, .sentinel, .sentinel, .data, .widerDeep], laidTests := true, laidLooks := .later }
def RunRefusesCardSaid : Prop := Claim7.holds Tryz.pinned (.plain (OpenSpec.ofChange runRefusesSpec)) runRefusesCard

/-- THE TIED CARD OF 'marquetrykeep.RunPrinted'. -/
def runPrintedCard : Claim7 := { stood := { row := runPrintedRow, standIns := [], harness := (true, "a4bc02af82da0dc69a5f78fc8cc7bad01a0b618a30472dffb32134f54d5c49f5"), looks := true }, kinds := [], alts := [], laidByText := true, laidKinds := [.data, .data, .data, .handle, .sentinel, .sentinel, .data, .widerDeep], laidTests := true, laidLooks := .later }
def RunPrintedCardSaid : Prop := Claim7.holds Tryz.pinned (.plain (OpenSpec.ofChange runPrintedSpec)) runPrintedCard

/-- THE SECOND FORM's CARD OF 'marquetrykeep.RunBoth'. -/
def runBothUptoCard : Claim7 := { stood := { row := runBothUptoRow, standIns := [], harness := (true, "a4bc02af82da0dc69a5f78fc8cc7bad01a0b618a30472dffb32134f54d5c49f5"), looks := true }, kinds := [], alts := [], laidByText := true, laidKinds := [.data, .data, .data, .sentinel, .sentinel, .data, .widerDeep], laidTests := true, laidLooks := .later }
def RunBothUptoCardSaid : Prop := Claim7.holds Tryz.pinned (.plain (OpenSpec.upto runBothSpec)) runBothUptoCard

/-- THE SECOND FORM's CARD OF 'marquetrykeep.RunRests'. -/
def runRestsUptoCard : Claim7 := { stood := { row := runRestsUptoRow, standIns := [], harness := (true, "a4bc02af82da0dc69a5f78fc8cc7bad01a0b618a30472dffb32134f54d5c49f5"), looks := true }, kinds := [], alts := [], laidByText := true, laidKinds := [.data, .data, .data, .handle, .sentinel, .sentinel, .data, .widerDeep], laidTests := true, laidLooks := .later }
def RunRestsUptoCardSaid : Prop := Claim7.holds Tryz.pinned (.plain (OpenSpec.upto runRestsSpec)) runRestsUptoCard

/-- THE SECOND FORM's CARD OF 'marquetrykeep.RunAlone'. -/
def runAloneUptoCard : Claim7 := { stood := { row := runAloneUptoRow, standIns := [], harness := (true, "a4bc02af82da0dc69a5f78fc8cc7bad01a0b618a30472dffb32134f54d5c49f5"), looks := true }, kinds := [], alts := [], laidByText := true, laidKinds := [.data, .data, .data, .handle, .sentinel, .sentinel, .data, .widerDeep], laidTests := true, laidLooks := .later }
def RunAloneUptoCardSaid : Prop := Claim7.holds Tryz.pinned (.plain (OpenSpec.upto runAloneSpec)) runAloneUptoCard

/-- THE SECOND FORM's CARD OF 'marquetrykeep.RunKeeps'. -/
def runKeepsUptoCard : Claim7 := { stood := { row := runKeepsUptoRow, standIns := [], harness := (true, "a4bc02af82da0dc69a5f78fc8cc7bad01a0b618a30472dffb32134f54d5c49f5"), looks := true }, kinds := [], alts := [], laidByText := true, laidKinds := [.data, .data, .data, .handle, .sentinel, .sentinel, .data, .widerDeep], laidTests := true, laidLooks := .later }
def RunKeepsUptoCardSaid : Prop := Claim7.holds Tryz.pinned (.plain (OpenSpec.upto runKeepsSpec)) runKeepsUptoCard

/-- THE SECOND FORM's CARD OF 'marquetrykeep.RunRefuses'. -/
def runRefusesUptoCard : Claim7 := { stood := { row := runRefusesUptoRow, standIns := [], harness := (true, "a4bc02af82da0dc69a5f78fc8cc7bad01a0b618a30472dffb32134f54d5c49f5"), looks := true }, kinds := [], alts := [], laidByText := true, laidKinds := [.data, .data, .data, .handle, .sentinel, .sentinel, .data, .widerDeep], laidTests := true, laidLooks := .later }
def RunRefusesUptoCardSaid : Prop := Claim7.holds Tryz.pinned (.plain (OpenSpec.upto runRefusesSpec)) runRefusesUptoCard

/-- THE SECOND FORM's CARD OF 'marquetrykeep.RunPrinted'. -/
def runPrintedUptoCard : Claim7 := { stood := { row := runPrintedUptoRow, standIns := [], harness := (true, "a4bc02af82da0dc69a5f78fc8cc7bad01a0b618a30472dffb32134f54d5c49f5"), looks := true }, kinds := [], alts := [], laidByText := true, laidKinds := [.data, .data, .data, .handle, .sentinel, .sentinel, .data, .widerDeep], laidTests := true, laidLooks := .later }
def RunPrintedUptoCardSaid : Prop := Claim7.holds Tryz.pinned (.plain (OpenSpec.upto runPrintedSpec)) runPrintedUptoCard
end Rows
end Go.Proofs.YtechofppmnnomaaGreatDoor
