/-
  DERIVED. GIVEN WITH THE SEED: THE CARDS: each row of YtbgnfioggmkdeaaGreatDoorRows.lean that lists a variable, with what it lists TIED to the program's text (the seventh form; the later family's looks); each row that meets fmt, with fmt's text TOLD by the authors' own Lean function (tested against real Go, not proved from fmt's source: count such statements apart). THE CARD IS WHAT COUNTS. Prove the row's statement (the work); the ties are given (YtbgnfioggmkdeaaGreatDoorTie.lean); close each card by the builder's one call (the guide's Derived/Test/ToyasCard.lean, 'card_holds'). Laid BY PROGRAM, IN A SANDBOX (cutbox-door.mjs). By AI agents, Wed Nov 11 2026. No macro, syntax, notation, axiom, sorry.
-/
import Derived.Test.YtbgnfioggmkdeaaGreatDoorRows
import GoSem.ClaimSeven
namespace Go.Proofs.YtbgnfioggmkdeaaGreatDoor
namespace Rows

/-- THE TIED CARD OF 'courierbaglaw24.AgentShape'. -/
def agentShapeCard : Claim7 := { stood := { row := agentShapeRow, standIns := [], harness := (true, "9b04b00e3e242b0dc7372e7c12fcdaf0e0aa796ee57a7d65c2078a46e47af70d"), looks := false }, kinds := [], alts := [], laidByText := true, laidKinds := [.data, .data, .data], laidTests := true, laidLooks := .later }
def AgentShapeCardSaid : Prop := Claim7.holds Tryz.pinned (.plain (OpenSpec.ofChange agentShapeSpec)) agentShapeCard

/-- THE TIED CARD OF 'courierbaglaw24.AgentQueues'. -/
def agentQueuesCard : Claim7 := { stood := { row := agentQueuesRow, standIns := [], harness := (true, "9b04b00e3e242b0dc7372e7c12fcdaf0e0aa796ee57a7d65c2078a46e47af70d"), looks := false }, kinds := [], alts := [], laidByText := true, laidKinds := [.data, .data, .data], laidTests := true, laidLooks := .later }
def AgentQueuesCardSaid : Prop := Claim7.holds Tryz.pinned (.plain (OpenSpec.ofChange agentQueuesSpec)) agentQueuesCard

/-- THE TIED CARD OF 'courierbaglaw24.AgentPairs'. -/
def agentPairsCard : Claim7 := { stood := { row := agentPairsRow, standIns := [], harness := (true, "9b04b00e3e242b0dc7372e7c12fcdaf0e0aa796ee57a7d65c2078a46e47af70d"), looks := false }, kinds := [], alts := [], laidByText := true, laidKinds := [.data, .data, .data], laidTests := true, laidLooks := .later }
def AgentPairsCardSaid : Prop := Claim7.holds Tryz.pinned (.plain (OpenSpec.ofChange agentPairsSpec)) agentPairsCard

/-- THE TIED CARD OF 'courierbaglaw24.AgentPlays'. -/
def agentPlaysCard : Claim7 := { stood := { row := agentPlaysRow, standIns := [], harness := (true, "9b04b00e3e242b0dc7372e7c12fcdaf0e0aa796ee57a7d65c2078a46e47af70d"), looks := false }, kinds := [], alts := [], laidByText := true, laidKinds := [.data, .data, .data], laidTests := true, laidLooks := .later }
def AgentPlaysCardSaid : Prop := Claim7.holds Tryz.pinned (.plain (OpenSpec.ofChange agentPlaysSpec)) agentPlaysCard

/-- THE TIED CARD OF 'courierbaglaw24.AgentStops'. -/
def agentStopsCard : Claim7 := { stood := { row := agentStopsRow, standIns := [], harness := (true, "9b04b00e3e242b0dc7372e7c12fcdaf0e0aa796ee57a7d65c2078a46e47af70d"), looks := false }, kinds := [], alts := [], laidByText := true, laidKinds := [.data, .data, .data], laidTests := true, laidLooks := .later }
def AgentStopsCardSaid : Prop := Claim7.holds Tryz.pinned (.plain (OpenSpec.ofChange agentStopsSpec)) agentStopsCard

/-- THE SECOND FORM's CARD OF 'courierbaglaw24.AgentShape'. -/
def agentShapeUptoCard : Claim7 := { stood := { row := agentShapeUptoRow, standIns := [], harness := (true, "9b04b00e3e242b0dc7372e7c12fcdaf0e0aa796ee57a7d65c2078a46e47af70d"), looks := false }, kinds := [], alts := [], laidByText := true, laidKinds := [.data, .data, .data], laidTests := true, laidLooks := .later }
def AgentShapeUptoCardSaid : Prop := Claim7.holds Tryz.pinned (.plain (OpenSpec.upto agentShapeSpec)) agentShapeUptoCard

/-- THE SECOND FORM's CARD OF 'courierbaglaw24.AgentQueues'. -/
def agentQueuesUptoCard : Claim7 := { stood := { row := agentQueuesUptoRow, standIns := [], harness := (true, "9b04b00e3e242b0dc7372e7c12fcdaf0e0aa796ee57a7d65c2078a46e47af70d"), looks := false }, kinds := [], alts := [], laidByText := true, laidKinds := [.data, .data, .data], laidTests := true, laidLooks := .later }
def AgentQueuesUptoCardSaid : Prop := Claim7.holds Tryz.pinned (.plain (OpenSpec.upto agentQueuesSpec)) agentQueuesUptoCard

/-- THE SECOND FORM's CARD OF 'courierbaglaw24.AgentPairs'. -/
def agentPairsUptoCard : Claim7 := { stood := { row := agentPairsUptoRow, standIns := [], harness := (true, "9b04b00e3e242b0dc7372e7c12fcdaf0e0aa796ee57a7d65c2078a46e47af70d"), looks := false }, kinds := [], alts := [], laidByText := true, laidKinds := [.data, .data, .data], laidTests := true, laidLooks := .later }
def AgentPairsUptoCardSaid : Prop := Claim7.holds Tryz.pinned (.plain (OpenSpec.upto agentPairsSpec)) agentPairsUptoCard

/-- THE SECOND FORM's CARD OF 'courierbaglaw24.AgentPlays'. -/
def agentPlaysUptoCard : Claim7 := { stood := { row := agentPlaysUptoRow, standIns := [], harness := (true, "9b04b00e3e242b0dc7372e7c12fcdaf0e0aa796ee57a7d65c2078a46e47af70d"), looks := false }, kinds := [], alts := [], laidByText := true, laidKinds := [.data, .data, .data], laidTests := true, laidLooks := .later }
def AgentPlaysUptoCardSaid : Prop := Claim7.holds Tryz.pinned (.plain (OpenSpec.upto agentPlaysSpec)) agentPlaysUptoCard

/-- THE SECOND FORM's CARD OF 'courierbaglaw24.AgentStops'. -/
def agentStopsUptoCard : Claim7 := { stood := { row := agentStopsUptoRow, standIns := [], harness := (true, "9b04b00e3e242b0dc7372e7c12fcdaf0e0aa796ee57a7d65c2078a46e47af70d"), looks := false }, kinds := [], alts := [], laidByText := true, laidKinds := [.data, .data, .data], laidTests := true, laidLooks := .later }
def AgentStopsUptoCardSaid : Prop := Claim7.holds Tryz.pinned (.plain (OpenSpec.upto agentStopsSpec)) agentStopsUptoCard
end Rows
end Go.Proofs.YtbgnfioggmkdeaaGreatDoor
