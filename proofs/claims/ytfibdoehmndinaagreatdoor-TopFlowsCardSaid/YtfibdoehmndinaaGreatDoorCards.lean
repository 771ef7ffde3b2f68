/-
  DERIVED. GIVEN WITH THE SEED: THE CARDS: each row of YtfibdoehmndinaaGreatDoorRows.lean that lists a variable, with what it lists TIED to the program's text (the seventh form; the later family's looks); each row that meets fmt, with fmt's text TOLD by the authors' own Lean function (tested against real Go, not proved from fmt's source: count such statements apart). THE CARD IS WHAT COUNTS. Prove the row's statement (the work); the ties are given (YtfibdoehmndinaaGreatDoorTie.lean); close each card by the builder's one call (the guide's Derived/Test/ToyasCard.lean, 'card_holds'). Laid BY PROGRAM, IN A SANDBOX (cutbox-door.mjs). By AI agents, Wed Nov 11 2026. No macro, syntax, notation, axiom, sorry.
-/
import Derived.Test.YtfibdoehmndinaaGreatDoorRows
import GoSem.ClaimSeven
namespace Go.Proofs.YtfibdoehmndinaaGreatDoor
namespace Rows

/-- THE TIED CARD OF 'hauberktop.TopFlows'. -/
def topFlowsCard : Claim7 := { stood := { row := topFlowsRow, standIns := [], harness := (true, "c7702989a5d59874689979001e7a08c7f522123a40085db84c5553904af3d4f8"), looks := true }, kinds := [], alts := [], laidByText := true, laidKinds := [.data, .data, .data, .listed, .data], laidTests := true, laidLooks := .later }
def TopFlowsCardSaid : Prop := Claim7.holds Tryz.pinned (.plain (OpenSpec.ofChange topFlowsSpec)) topFlowsCard

/-- THE SECOND FORM's CARD OF 'hauberktop.TopFlows'. -/
def topFlowsUptoCard : Claim7 := { stood := { row := topFlowsUptoRow, standIns := [], harness := (true, "c7702989a5d59874689979001e7a08c7f522123a40085db84c5553904af3d4f8"), looks := true }, kinds := [], alts := [], laidByText := true, laidKinds := [.data, .data, .data, .listed, .data], laidTests := true, laidLooks := .later }
def TopFlowsUptoCardSaid : Prop := Claim7.holds Tryz.pinned (.plain (OpenSpec.upto topFlowsSpec)) topFlowsUptoCard
end Rows
end Go.Proofs.YtfibdoehmndinaaGreatDoor
