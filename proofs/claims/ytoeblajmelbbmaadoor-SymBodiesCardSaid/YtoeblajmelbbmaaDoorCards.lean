/-
  DERIVED. GIVEN WITH THE SEED: THE CARDS: each row of YtoeblajmelbbmaaDoorRows.lean that lists a variable, with what it lists TIED to the program's text (the seventh form; the later family's looks); each row that meets fmt, with fmt's text TOLD by the authors' own Lean function (tested against real Go, not proved from fmt's source: count such statements apart). THE CARD IS WHAT COUNTS. Prove the row's statement (the work); the ties are given (YtoeblajmelbbmaaDoorTie.lean); close each card by the builder's one call (the guide's Derived/Test/ToyasCard.lean, 'card_holds'). Laid BY PROGRAM, IN A SANDBOX (cutbox-door.mjs). By AI agents, Wed Nov 11 2026. No macro, syntax, notation, axiom, sorry.
-/
import Derived.Test.YtoeblajmelbbmaaDoorRows
import GoSem.ClaimSeven
namespace Go.Proofs.YtoeblajmelbbmaaDoor
namespace Rows

/-- THE TIED CARD OF 'marquetrykeep.SymBodies'. -/
def symBodiesCard : Claim7 := { stood := { row := symBodiesRow, standIns := [], harness := (true, "df64c1209f774a9b0874bdfd3dd9e410f3eaa9414908453b811dfb265792e30a"), looks := true }, kinds := [], alts := [], laidByText := true, laidKinds := [.data, .data, .data, .sentinel, .sentinel, .data, .widerDeep], laidTests := true, laidLooks := .later }
def SymBodiesCardSaid : Prop := Claim7.holds Tryd.pinned (.plain (OpenSpec.ofChange symBodiesSpec)) symBodiesCard

/-- THE TIED CARD OF 'marquetrykeep.SymNeeds'. -/
def symNeedsCard : Claim7 := { stood := { row := symNeedsRow, standIns := [], harness := (true, "df64c1209f774a9b0874bdfd3dd9e410f3eaa9414908453b811dfb265792e30a"), looks := true }, kinds := [], alts := [], laidByText := true, laidKinds := [.data, .data, .data, .sentinel, .sentinel, .data, .widerDeep], laidTests := true, laidLooks := .later }
def SymNeedsCardSaid : Prop := Claim7.holds Tryd.pinned (.plain (OpenSpec.ofChange symNeedsSpec)) symNeedsCard

/-- THE SECOND FORM's CARD OF 'marquetrykeep.SymBodies'. -/
def symBodiesUptoCard : Claim7 := { stood := { row := symBodiesUptoRow, standIns := [], harness := (true, "df64c1209f774a9b0874bdfd3dd9e410f3eaa9414908453b811dfb265792e30a"), looks := true }, kinds := [], alts := [], laidByText := true, laidKinds := [.data, .data, .data, .sentinel, .sentinel, .data, .widerDeep], laidTests := true, laidLooks := .later }
def SymBodiesUptoCardSaid : Prop := Claim7.holds Tryd.pinned (.plain (OpenSpec.upto symBodiesSpec)) symBodiesUptoCard

/-- THE SECOND FORM's CARD OF 'marquetrykeep.SymNeeds'. -/
def symNeedsUptoCard : Claim7 := { stood := { row := symNeedsUptoRow, standIns := [], harness := (true, "df64c1209f774a9b0874bdfd3dd9e410f3eaa9414908453b811dfb265792e30a"), looks := true }, kinds := [], alts := [], laidByText := true, laidKinds := [.data, .data, .data, .sentinel, .sentinel, .data, .widerDeep], laidTests := true, laidLooks := .later }
def SymNeedsUptoCardSaid : Prop := Claim7.holds Tryd.pinned (.plain (OpenSpec.upto symNeedsSpec)) symNeedsUptoCard
end Rows
end Go.Proofs.YtoeblajmelbbmaaDoor
