/-
  DERIVED. GIVEN WITH THE SEED: THE CARDS: each row of YthcpbojmalgdbaaGreatDoorRows.lean that lists a variable, with what it lists TIED to the program's text (the seventh form; the later family's looks); each row that meets fmt, with fmt's text TOLD by the authors' own Lean function (tested against real Go, not proved from fmt's source: count such statements apart). THE CARD IS WHAT COUNTS. Prove the row's statement (the work); the ties are given (YthcpbojmalgdbaaGreatDoorTie.lean); close each card by the builder's one call (the guide's Derived/Test/ToyasCard.lean, 'card_holds'). Laid BY PROGRAM, IN A SANDBOX (cutbox-door.mjs). By AI agents, Wed Nov 11 2026. No macro, syntax, notation, axiom, sorry.
-/
import Derived.Test.YthcpbojmalgdbaaGreatDoorRows
import GoSem.ClaimSeven
namespace Go.Proofs.YthcpbojmalgdbaaGreatDoor
namespace Rows

/-- THE TIED CARD OF 'laws.FnExactFlowSession'. -/
def fnExactFlowSessionCard : Claim7 := { stood := { row := fnExactFlowSessionRow, standIns := [], harness := (true, "2cbafd4be78026ee0735cdcda50029190180006e5af0a1692705fd80788c9876"), looks := true }, kinds := [], alts := [], laidByText := true, laidKinds := [.data, .data, .data, .data, .sentinel, .sentinel, .pinned], laidTests := true, laidLooks := .later }
def FnExactFlowSessionCardSaid : Prop := Claim7.holds Tryz.pinned (.plain (OpenSpec.ofChange fnExactFlowSessionSpec)) fnExactFlowSessionCard

/-- THE TIED CARD OF 'laws.FnLines'. -/
def fnLinesCard : Claim7 := { stood := { row := fnLinesRow, standIns := [], harness := (true, "2cbafd4be78026ee0735cdcda50029190180006e5af0a1692705fd80788c9876"), looks := true }, kinds := [], alts := [], laidByText := true, laidKinds := [.data, .data, .data, .data, .sentinel, .sentinel, .pinned], laidTests := true, laidLooks := .later }
def FnLinesCardSaid : Prop := Claim7.holds Tryz.pinned (.plain (OpenSpec.ofChange fnLinesSpec)) fnLinesCard

/-- THE SECOND FORM's CARD OF 'laws.FnExactFlowSession'. -/
def fnExactFlowSessionUptoCard : Claim7 := { stood := { row := fnExactFlowSessionUptoRow, standIns := [], harness := (true, "2cbafd4be78026ee0735cdcda50029190180006e5af0a1692705fd80788c9876"), looks := true }, kinds := [], alts := [], laidByText := true, laidKinds := [.data, .data, .data, .data, .sentinel, .sentinel, .pinned], laidTests := true, laidLooks := .later }
def FnExactFlowSessionUptoCardSaid : Prop := Claim7.holds Tryz.pinned (.plain (OpenSpec.upto fnExactFlowSessionSpec)) fnExactFlowSessionUptoCard

/-- THE SECOND FORM's CARD OF 'laws.FnLines'. -/
def fnLinesUptoCard : Claim7 := { stood := { row := fnLinesUptoRow, standIns := [], harness := (true, "2cbafd4be78026ee0735cdcda50029190180006e5af0a1692705fd80788c9876"), looks := true }, kinds := [], alts := [], laidByText := true, laidKinds := [.data, .data, .data, .data, .sentinel, .sentinel, .pinned], laidTests := true, laidLooks := .later }
def FnLinesUptoCardSaid : Prop := Claim7.holds Tryz.pinned (.plain (OpenSpec.upto fnLinesSpec)) fnLinesUptoCard
end Rows
end Go.Proofs.YthcpbojmalgdbaaGreatDoor
