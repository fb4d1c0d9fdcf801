/-
  DERIVED. GIVEN WITH THE SEED: THE CARDS: each row of YtngkjngfiakmaaaDoorRows.lean that lists a variable, with what it lists TIED to the program's text (the seventh form; the later family's looks); each row that meets fmt, with fmt's text TOLD by the authors' own Lean function (tested against real Go, not proved from fmt's source: count such statements apart). THE CARD IS WHAT COUNTS. Prove the row's statement (the work); the ties are given (YtngkjngfiakmaaaDoorTie.lean); close each card by the builder's one call (the guide's Derived/Test/ToyasCard.lean, 'card_holds'). Laid BY PROGRAM, IN A SANDBOX (cutbox-door.mjs). By AI agents, Wed Nov 11 2026. No macro, syntax, notation, axiom, sorry.
-/
import Derived.Test.YtngkjngfiakmaaaDoorRows
import GoSem.ClaimSeven
namespace Go.Proofs.YtngkjngfiakmaaaDoor
namespace Rows

/-- THE TIED CARD OF 'courierbaglaw16.KeysMake'. -/
def keysMakeCard : Claim7 := { stood := { row := keysMakeRow, standIns := [], harness := (true, "36b6399c55f54518e1717bc63026830a5e9926a669170ec6f24c8ff9e2491ab7"), looks := false }, kinds := [], alts := [], laidByText := true, laidKinds := [.data, .data, .data], laidTests := true, laidLooks := .later }
def KeysMakeCardSaid : Prop := Claim7.holds Tryd.pinned (.plain (OpenSpec.ofChange keysMakeSpec)) keysMakeCard

/-- THE TIED CARD OF 'courierbaglaw16.KeysTurned'. -/
def keysTurnedCard : Claim7 := { stood := { row := keysTurnedRow, standIns := [], harness := (true, "36b6399c55f54518e1717bc63026830a5e9926a669170ec6f24c8ff9e2491ab7"), looks := false }, kinds := [], alts := [], laidByText := true, laidKinds := [.data, .data, .data], laidTests := true, laidLooks := .later }
def KeysTurnedCardSaid : Prop := Claim7.holds Tryd.pinned (.plain (OpenSpec.ofChange keysTurnedSpec)) keysTurnedCard

/-- THE TIED CARD OF 'courierbaglaw16.KeysShared'. -/
def keysSharedCard : Claim7 := { stood := { row := keysSharedRow, standIns := [], harness := (true, "36b6399c55f54518e1717bc63026830a5e9926a669170ec6f24c8ff9e2491ab7"), looks := false }, kinds := [], alts := [], laidByText := true, laidKinds := [.data, .data, .data], laidTests := true, laidLooks := .later }
def KeysSharedCardSaid : Prop := Claim7.holds Tryd.pinned (.plain (OpenSpec.ofChange keysSharedSpec)) keysSharedCard

/-- THE TIED CARD OF 'courierbaglaw16.KeysTell'. -/
def keysTellCard : Claim7 := { stood := { row := keysTellRow, standIns := [], harness := (true, "36b6399c55f54518e1717bc63026830a5e9926a669170ec6f24c8ff9e2491ab7"), looks := false }, kinds := [], alts := [], laidByText := true, laidKinds := [.data, .data, .data], laidTests := true, laidLooks := .later }
def KeysTellCardSaid : Prop := Claim7.holds Tryd.pinned (.plain (OpenSpec.ofChange keysTellSpec)) keysTellCard

/-- THE TIED CARD OF 'courierbaglaw16.KeysCheck'. -/
def keysCheckCard : Claim7 := { stood := { row := keysCheckRow, standIns := [], harness := (true, "36b6399c55f54518e1717bc63026830a5e9926a669170ec6f24c8ff9e2491ab7"), looks := false }, kinds := [], alts := [], laidByText := true, laidKinds := [.data, .data, .data], laidTests := true, laidLooks := .later }
def KeysCheckCardSaid : Prop := Claim7.holds Tryd.pinned (.plain (OpenSpec.ofChange keysCheckSpec)) keysCheckCard

/-- THE TIED CARD OF 'courierbaglaw16.KeysInner'. -/
def keysInnerCard : Claim7 := { stood := { row := keysInnerRow, standIns := [], harness := (true, "36b6399c55f54518e1717bc63026830a5e9926a669170ec6f24c8ff9e2491ab7"), looks := false }, kinds := [], alts := [], laidByText := true, laidKinds := [.data, .data, .data], laidTests := true, laidLooks := .later }
def KeysInnerCardSaid : Prop := Claim7.holds Tryd.pinned (.plain (OpenSpec.ofChange keysInnerSpec)) keysInnerCard

/-- THE SECOND FORM's CARD OF 'courierbaglaw16.KeysMake'. -/
def keysMakeUptoCard : Claim7 := { stood := { row := keysMakeUptoRow, standIns := [], harness := (true, "36b6399c55f54518e1717bc63026830a5e9926a669170ec6f24c8ff9e2491ab7"), looks := false }, kinds := [], alts := [], laidByText := true, laidKinds := [.data, .data, .data], laidTests := true, laidLooks := .later }
def KeysMakeUptoCardSaid : Prop := Claim7.holds Tryd.pinned (.plain (OpenSpec.upto keysMakeSpec)) keysMakeUptoCard

/-- THE SECOND FORM's CARD OF 'courierbaglaw16.KeysTurned'. -/
def keysTurnedUptoCard : Claim7 := { stood := { row := keysTurnedUptoRow, standIns := [], harness := (true, "36b6399c55f54518e1717bc63026830a5e9926a669170ec6f24c8ff9e2491ab7"), looks := false }, kinds := [], alts := [], laidByText := true, laidKinds := [.data, .data, .data], laidTests := true, laidLooks := .later }
def KeysTurnedUptoCardSaid : Prop := Claim7.holds Tryd.pinned (.plain (OpenSpec.upto keysTurnedSpec)) keysTurnedUptoCard

/-- THE SECOND FORM's CARD OF 'courierbaglaw16.KeysShared'. -/
def keysSharedUptoCard : Claim7 := { stood := { row := keysSharedUptoRow, standIns := [], harness := (true, "36b6399c55f54518e1717bc63026830a5e9926a669170ec6f24c8ff9e2491ab7"), looks := false }, kinds := [], alts := [], laidByText := true, laidKinds := [.data, .data, .data], laidTests := true, laidLooks := .later }
def KeysSharedUptoCardSaid : Prop := Claim7.holds Tryd.pinned (.plain (OpenSpec.upto keysSharedSpec)) keysSharedUptoCard

/-- THE SECOND FORM's CARD OF 'courierbaglaw16.KeysTell'. -/
def keysTellUptoCard : Claim7 := { stood := { row := keysTellUptoRow, standIns := [], harness := (true, "36b6399c55f54518e1717bc63026830a5e9926a669170ec6f24c8ff9e2491ab7"), looks := false }, kinds := [], alts := [], laidByText := true, laidKinds := [.data, .data, .data], laidTests := true, laidLooks := .later }
def KeysTellUptoCardSaid : Prop := Claim7.holds Tryd.pinned (.plain (OpenSpec.upto keysTellSpec)) keysTellUptoCard

/-- THE SECOND FORM's CARD OF 'courierbaglaw16.KeysCheck'. -/
def keysCheckUptoCard : Claim7 := { stood := { row := keysCheckUptoRow, standIns := [], harness := (true, "36b6399c55f54518e1717bc63026830a5e9926a669170ec6f24c8ff9e2491ab7"), looks := false }, kinds := [], alts := [], laidByText := true, laidKinds := [.data, .data, .data], laidTests := true, laidLooks := .later }
def KeysCheckUptoCardSaid : Prop := Claim7.holds Tryd.pinned (.plain (OpenSpec.upto keysCheckSpec)) keysCheckUptoCard

/-- THE SECOND FORM's CARD OF 'courierbaglaw16.KeysInner'. -/
def keysInnerUptoCard : Claim7 := { stood := { row := keysInnerUptoRow, standIns := [], harness := (true, "36b6399c55f54518e1717bc63026830a5e9926a669170ec6f24c8ff9e2491ab7"), looks := false }, kinds := [], alts := [], laidByText := true, laidKinds := [.data, .data, .data], laidTests := true, laidLooks := .later }
def KeysInnerUptoCardSaid : Prop := Claim7.holds Tryd.pinned (.plain (OpenSpec.upto keysInnerSpec)) keysInnerUptoCard
end Rows
end Go.Proofs.YtngkjngfiakmaaaDoor
