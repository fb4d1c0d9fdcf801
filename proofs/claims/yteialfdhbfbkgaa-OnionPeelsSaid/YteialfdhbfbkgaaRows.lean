/-
  No cell of these rows narrows 'for every input' (looked for: loops, veiled, ifaces, maps, wideKeys, modest, calm, conditions, laid).
  DERIVED. THE GIVEN ROWS OF THIS SEAT. 12 by the template 'for every input the law returns true; each argument reads behind the call as it read before'; 0 by the template 'total and deterministic' (their statements: YteialfdhbfbkgaaTotals.lean).
  GIVEN WITH THE SEED: the statements are not yours to turn. If you find one false, say at which input.
  Laid BY PROGRAM, IN A SANDBOX (cutbox-rows.mjs): the forced cells as the released guide's own fill.sh prints them over the translation 6b751a66f8086e76… (all of the seat's roots in one cut). By AI agents, Wed Nov 11 2026. No macro, syntax, notation, axiom, sorry.
-/
import Derived.Test.YteialfdhbfbkgaaChecked
import GoSem.Claim
import GoSem.ClaimJoined
import GoSem.ClaimMapViews
import Derived.JoinedTies
import Derived.KernelRfl
namespace Go.Proofs.Yteialfdhbfbkgaa
/- THE CELL 'sum', in the pinned program and in every row, IS THE sha256 OF THE DUMP (.gsa) THAT YteialfdhbfbkgaaProg.lean LOADS. Nothing in Lean hashes anything: it is a label: what it is worth is what the hold of that sum in a sandbox is worth. -/
noncomputable def Try.pinned : Pinned := { name := "yteialfdhbfbkgaa", sum := "6b751a66f8086e762ff326f4e86806c4e97e2f6a7d28a22b0b75888b52d3cf0f", checked := Try.checked }
namespace Rows
def none {H : Type} : Left H := { results := [], args := [] }

/-- 'courierbaglaw18.OnionWraps': WHATEVER THE INPUT: true; the input reads as it did. -/
def onionWrapsSpec : ChangeSpec := { name := "onionWraps", fn := fun _ => fun
  | [d1, d2, d3, d4, d5] => { results := [.lit (.bool true)], args := [d1, d2, d3, d4, d5] }
  | _ => none }
def onionWrapsRow : OpenClaim := { program := "yteialfdhbfbkgaa", sum := "6b751a66f8086e762ff326f4e86806c4e97e2f6a7d28a22b0b75888b52d3cf0f", func := "courierbag/courierbaglaw18.OnionWraps", spec := "onionWraps", recurses := true, apart := false }
def OnionWrapsSaid : Prop := onionWrapsRow.holds Try.pinned (OpenSpec.ofChange onionWrapsSpec)

/-- ITS FALSE NEIGHBOUR: 'it returns false'. Refute it at one input. -/
def onionWrapsWrong : ChangeSpec := { name := "onionWraps", fn := fun _ => fun
  | [d1, d2, d3, d4, d5] => { results := [.lit (.bool false)], args := [d1, d2, d3, d4, d5] }
  | _ => none }
def OnionWrapsWrongFalsely : Prop := onionWrapsRow.holds Try.pinned (OpenSpec.ofChange onionWrapsWrong)

/-- 'courierbaglaw18.OnionLong': WHATEVER THE INPUT: true; the input reads as it did. -/
def onionLongSpec : ChangeSpec := { name := "onionLong", fn := fun _ => fun
  | [d1, d2, d3, d4] => { results := [.lit (.bool true)], args := [d1, d2, d3, d4] }
  | _ => none }
def onionLongRow : OpenClaim := { program := "yteialfdhbfbkgaa", sum := "6b751a66f8086e762ff326f4e86806c4e97e2f6a7d28a22b0b75888b52d3cf0f", func := "courierbag/courierbaglaw18.OnionLong", spec := "onionLong", recurses := true, apart := false }
def OnionLongSaid : Prop := onionLongRow.holds Try.pinned (OpenSpec.ofChange onionLongSpec)

/-- ITS FALSE NEIGHBOUR: 'it returns false'. Refute it at one input. -/
def onionLongWrong : ChangeSpec := { name := "onionLong", fn := fun _ => fun
  | [d1, d2, d3, d4] => { results := [.lit (.bool false)], args := [d1, d2, d3, d4] }
  | _ => none }
def OnionLongWrongFalsely : Prop := onionLongRow.holds Try.pinned (OpenSpec.ofChange onionLongWrong)

/-- 'courierbaglaw18.OnionPeels': WHATEVER THE INPUT: true; the input reads as it did. -/
def onionPeelsSpec : ChangeSpec := { name := "onionPeels", fn := fun _ => fun
  | [d1, d2, d3, d4] => { results := [.lit (.bool true)], args := [d1, d2, d3, d4] }
  | _ => none }
def onionPeelsRow : OpenClaim := { program := "yteialfdhbfbkgaa", sum := "6b751a66f8086e762ff326f4e86806c4e97e2f6a7d28a22b0b75888b52d3cf0f", func := "courierbag/courierbaglaw18.OnionPeels", spec := "onionPeels", recurses := true, apart := false }
def OnionPeelsSaid : Prop := onionPeelsRow.holds Try.pinned (OpenSpec.ofChange onionPeelsSpec)

/-- ITS FALSE NEIGHBOUR: 'it returns false'. Refute it at one input. -/
def onionPeelsWrong : ChangeSpec := { name := "onionPeels", fn := fun _ => fun
  | [d1, d2, d3, d4] => { results := [.lit (.bool false)], args := [d1, d2, d3, d4] }
  | _ => none }
def OnionPeelsWrongFalsely : Prop := onionPeelsRow.holds Try.pinned (OpenSpec.ofChange onionPeelsWrong)

/-- 'courierbaglaw9.ProofDraws': WHATEVER THE INPUT: true; the input reads as it did. -/
def proofDrawsSpec : ChangeSpec := { name := "proofDraws", fn := fun _ => fun
  | [d1, d2, d3, d4, d5] => { results := [.lit (.bool true)], args := [d1, d2, d3, d4, d5] }
  | _ => none }
def proofDrawsRow : OpenClaim := { program := "yteialfdhbfbkgaa", sum := "6b751a66f8086e762ff326f4e86806c4e97e2f6a7d28a22b0b75888b52d3cf0f", func := "courierbag/courierbaglaw9.ProofDraws", spec := "proofDraws", named := ["math/bits.divideError", "math/bits.overflowError"], apart := false }
def ProofDrawsSaid : Prop := proofDrawsRow.holds Try.pinned (OpenSpec.ofChange proofDrawsSpec)

/-- ITS FALSE NEIGHBOUR: 'it returns false'. Refute it at one input. -/
def proofDrawsWrong : ChangeSpec := { name := "proofDraws", fn := fun _ => fun
  | [d1, d2, d3, d4, d5] => { results := [.lit (.bool false)], args := [d1, d2, d3, d4, d5] }
  | _ => none }
def ProofDrawsWrongFalsely : Prop := proofDrawsRow.holds Try.pinned (OpenSpec.ofChange proofDrawsWrong)

/-- 'courierbaglaw9.ProofTells': WHATEVER THE INPUT: true; the input reads as it did. -/
def proofTellsSpec : ChangeSpec := { name := "proofTells", fn := fun _ => fun
  | [d1, d2, d3, d4, d5, d6, d7, d8] => { results := [.lit (.bool true)], args := [d1, d2, d3, d4, d5, d6, d7, d8] }
  | _ => none }
def proofTellsRow : OpenClaim := { program := "yteialfdhbfbkgaa", sum := "6b751a66f8086e762ff326f4e86806c4e97e2f6a7d28a22b0b75888b52d3cf0f", func := "courierbag/courierbaglaw9.ProofTells", spec := "proofTells", named := ["math/bits.divideError", "math/bits.overflowError"], apart := false }
def ProofTellsSaid : Prop := proofTellsRow.holds Try.pinned (OpenSpec.ofChange proofTellsSpec)

/-- ITS FALSE NEIGHBOUR: 'it returns false'. Refute it at one input. -/
def proofTellsWrong : ChangeSpec := { name := "proofTells", fn := fun _ => fun
  | [d1, d2, d3, d4, d5, d6, d7, d8] => { results := [.lit (.bool false)], args := [d1, d2, d3, d4, d5, d6, d7, d8] }
  | _ => none }
def ProofTellsWrongFalsely : Prop := proofTellsRow.holds Try.pinned (OpenSpec.ofChange proofTellsWrong)

/-- 'courierbaglaw9.ProofChecks': WHATEVER THE INPUT: true; the input reads as it did. -/
def proofChecksSpec : ChangeSpec := { name := "proofChecks", fn := fun _ => fun
  | [d1, d2, d3, d4, d5] => { results := [.lit (.bool true)], args := [d1, d2, d3, d4, d5] }
  | _ => none }
def proofChecksRow : OpenClaim := { program := "yteialfdhbfbkgaa", sum := "6b751a66f8086e762ff326f4e86806c4e97e2f6a7d28a22b0b75888b52d3cf0f", func := "courierbag/courierbaglaw9.ProofChecks", spec := "proofChecks", named := ["math/bits.divideError", "math/bits.overflowError"], apart := false }
def ProofChecksSaid : Prop := proofChecksRow.holds Try.pinned (OpenSpec.ofChange proofChecksSpec)

/-- ITS FALSE NEIGHBOUR: 'it returns false'. Refute it at one input. -/
def proofChecksWrong : ChangeSpec := { name := "proofChecks", fn := fun _ => fun
  | [d1, d2, d3, d4, d5] => { results := [.lit (.bool false)], args := [d1, d2, d3, d4, d5] }
  | _ => none }
def ProofChecksWrongFalsely : Prop := proofChecksRow.holds Try.pinned (OpenSpec.ofChange proofChecksWrong)

/-- 'courierbaglaw9.ProofHolds': WHATEVER THE INPUT: true; the input reads as it did. -/
def proofHoldsSpec : ChangeSpec := { name := "proofHolds", fn := fun _ => fun
  | [d1, d2, d3, d4] => { results := [.lit (.bool true)], args := [d1, d2, d3, d4] }
  | _ => none }
def proofHoldsRow : OpenClaim := { program := "yteialfdhbfbkgaa", sum := "6b751a66f8086e762ff326f4e86806c4e97e2f6a7d28a22b0b75888b52d3cf0f", func := "courierbag/courierbaglaw9.ProofHolds", spec := "proofHolds", named := ["math/bits.divideError", "math/bits.overflowError"], apart := false }
def ProofHoldsSaid : Prop := proofHoldsRow.holds Try.pinned (OpenSpec.ofChange proofHoldsSpec)

/-- ITS FALSE NEIGHBOUR: 'it returns false'. Refute it at one input. -/
def proofHoldsWrong : ChangeSpec := { name := "proofHolds", fn := fun _ => fun
  | [d1, d2, d3, d4] => { results := [.lit (.bool false)], args := [d1, d2, d3, d4] }
  | _ => none }
def ProofHoldsWrongFalsely : Prop := proofHoldsRow.holds Try.pinned (OpenSpec.ofChange proofHoldsWrong)

/-- 'courierbaglaw9.ProofTurned': WHATEVER THE INPUT: true; the input reads as it did. -/
def proofTurnedSpec : ChangeSpec := { name := "proofTurned", fn := fun _ => fun
  | [d1, d2, d3, d4, d5, d6] => { results := [.lit (.bool true)], args := [d1, d2, d3, d4, d5, d6] }
  | _ => none }
def proofTurnedRow : OpenClaim := { program := "yteialfdhbfbkgaa", sum := "6b751a66f8086e762ff326f4e86806c4e97e2f6a7d28a22b0b75888b52d3cf0f", func := "courierbag/courierbaglaw9.ProofTurned", spec := "proofTurned", named := ["math/bits.divideError", "math/bits.overflowError"], apart := false }
def ProofTurnedSaid : Prop := proofTurnedRow.holds Try.pinned (OpenSpec.ofChange proofTurnedSpec)

/-- ITS FALSE NEIGHBOUR: 'it returns false'. Refute it at one input. -/
def proofTurnedWrong : ChangeSpec := { name := "proofTurned", fn := fun _ => fun
  | [d1, d2, d3, d4, d5, d6] => { results := [.lit (.bool false)], args := [d1, d2, d3, d4, d5, d6] }
  | _ => none }
def ProofTurnedWrongFalsely : Prop := proofTurnedRow.holds Try.pinned (OpenSpec.ofChange proofTurnedWrong)

/-- 'courierbaglaw10.SignTurned': WHATEVER THE INPUT: true; the input reads as it did. -/
def signTurnedSpec : ChangeSpec := { name := "signTurned", fn := fun _ => fun
  | [d1, d2, d3, d4] => { results := [.lit (.bool true)], args := [d1, d2, d3, d4] }
  | _ => none }
def signTurnedRow : OpenClaim := { program := "yteialfdhbfbkgaa", sum := "6b751a66f8086e762ff326f4e86806c4e97e2f6a7d28a22b0b75888b52d3cf0f", func := "courierbag/courierbaglaw10.SignTurned", spec := "signTurned", named := ["math/bits.divideError", "math/bits.overflowError"], apart := false }
def SignTurnedSaid : Prop := signTurnedRow.holds Try.pinned (OpenSpec.ofChange signTurnedSpec)

/-- ITS FALSE NEIGHBOUR: 'it returns false'. Refute it at one input. -/
def signTurnedWrong : ChangeSpec := { name := "signTurned", fn := fun _ => fun
  | [d1, d2, d3, d4] => { results := [.lit (.bool false)], args := [d1, d2, d3, d4] }
  | _ => none }
def SignTurnedWrongFalsely : Prop := signTurnedRow.holds Try.pinned (OpenSpec.ofChange signTurnedWrong)

/-- 'courierbaglaw10.SignAgain': WHATEVER THE INPUT: true; the input reads as it did. -/
def signAgainSpec : ChangeSpec := { name := "signAgain", fn := fun _ => fun
  | [d1, d2, d3] => { results := [.lit (.bool true)], args := [d1, d2, d3] }
  | _ => none }
def signAgainRow : OpenClaim := { program := "yteialfdhbfbkgaa", sum := "6b751a66f8086e762ff326f4e86806c4e97e2f6a7d28a22b0b75888b52d3cf0f", func := "courierbag/courierbaglaw10.SignAgain", spec := "signAgain", named := ["math/bits.divideError", "math/bits.overflowError"], apart := false }
def SignAgainSaid : Prop := signAgainRow.holds Try.pinned (OpenSpec.ofChange signAgainSpec)

/-- ITS FALSE NEIGHBOUR: 'it returns false'. Refute it at one input. -/
def signAgainWrong : ChangeSpec := { name := "signAgain", fn := fun _ => fun
  | [d1, d2, d3] => { results := [.lit (.bool false)], args := [d1, d2, d3] }
  | _ => none }
def SignAgainWrongFalsely : Prop := signAgainRow.holds Try.pinned (OpenSpec.ofChange signAgainWrong)

/-- 'courierbaglaw10.SignSigns': WHATEVER THE INPUT: true; the input reads as it did. -/
def signSignsSpec : ChangeSpec := { name := "signSigns", fn := fun _ => fun
  | [d1, d2] => { results := [.lit (.bool true)], args := [d1, d2] }
  | _ => none }
def signSignsRow : OpenClaim := { program := "yteialfdhbfbkgaa", sum := "6b751a66f8086e762ff326f4e86806c4e97e2f6a7d28a22b0b75888b52d3cf0f", func := "courierbag/courierbaglaw10.SignSigns", spec := "signSigns", named := ["math/bits.divideError", "math/bits.overflowError"], apart := false }
def SignSignsSaid : Prop := signSignsRow.holds Try.pinned (OpenSpec.ofChange signSignsSpec)

/-- ITS FALSE NEIGHBOUR: 'it returns false'. Refute it at one input. -/
def signSignsWrong : ChangeSpec := { name := "signSigns", fn := fun _ => fun
  | [d1, d2] => { results := [.lit (.bool false)], args := [d1, d2] }
  | _ => none }
def SignSignsWrongFalsely : Prop := signSignsRow.holds Try.pinned (OpenSpec.ofChange signSignsWrong)

/-- 'courierbaglaw10.SignChecks': WHATEVER THE INPUT: true; the input reads as it did. -/
def signChecksSpec : ChangeSpec := { name := "signChecks", fn := fun _ => fun
  | [d1, d2, d3] => { results := [.lit (.bool true)], args := [d1, d2, d3] }
  | _ => none }
def signChecksRow : OpenClaim := { program := "yteialfdhbfbkgaa", sum := "6b751a66f8086e762ff326f4e86806c4e97e2f6a7d28a22b0b75888b52d3cf0f", func := "courierbag/courierbaglaw10.SignChecks", spec := "signChecks", named := ["math/bits.divideError", "math/bits.overflowError"], apart := false }
def SignChecksSaid : Prop := signChecksRow.holds Try.pinned (OpenSpec.ofChange signChecksSpec)

/-- ITS FALSE NEIGHBOUR: 'it returns false'. Refute it at one input. -/
def signChecksWrong : ChangeSpec := { name := "signChecks", fn := fun _ => fun
  | [d1, d2, d3] => { results := [.lit (.bool false)], args := [d1, d2, d3] }
  | _ => none }
def SignChecksWrongFalsely : Prop := signChecksRow.holds Try.pinned (OpenSpec.ofChange signChecksWrong)

/- THE SECOND FORM. 'bulk': how many values and letters a reading holds, each counted each time it is reached (what is shared counts as often as it is met; a slice's spare places count too). A statement '..UptoSaid' is the law's where the arguments, and the package variables that the reading takes, are together of bulk at most 1048576: NARROWER than '..Said'. Prove '..Said' where nothing that the law and all that it calls make is longer than what came in: it says more and counts as full. Else prove '..UptoSaid'. A law counts once. -/
mutual
def uptoBulk {H : Type} : DataW H → Nat
  | .lit (.string bytes) => bytes.length + 1
  | .lit _ => 1
  | .nil => 1
  | .ptr d => uptoBulk d + 1
  | .slice elems spare => uptoBulkAll elems + uptoBulkAll spare + 1
  | .agg parts => uptoBulkAll parts + 1
  | .iface _ d => uptoBulk d + 1
  | .map entries => uptoBulkEntries entries + 1
  | .held _ => 1
def uptoBulkAll {H : Type} : List (DataW H) → Nat
  | [] => 0
  | d :: r => uptoBulk d + uptoBulkAll r
def uptoBulkEntries {H : Type} : List (Lit × DataW H) → Nat
  | [] => 0
  | x :: r => uptoBulkEntry x + uptoBulkEntries r
def uptoBulkEntry {H : Type} : Lit × DataW H → Nat
  | (.string bytes, d) => bytes.length + uptoBulk d + 1
  | (_, d) => uptoBulk d + 1
 end
def uptoSmall : (H : Type) → List (DataW H) → Bool := fun _ ds => decide (uptoBulkAll ds ≤ 1048576)
def OpenSpec.upto (s : _root_.Go.ChangeSpec) : _root_.Go.OpenSpec := { _root_.Go.OpenSpec.ofChange s with cond := some uptoSmall }

/-- 'courierbaglaw18.OnionWraps', WHERE WHAT IT READS IS OF BULK AT MOST 1048576: true; the input reads as it did. -/
def onionWrapsUptoRow : OpenClaim := { program := "yteialfdhbfbkgaa", sum := "6b751a66f8086e762ff326f4e86806c4e97e2f6a7d28a22b0b75888b52d3cf0f", func := "courierbag/courierbaglaw18.OnionWraps", spec := "onionWraps", recurses := true, apart := false, narrowed := true }
def OnionWrapsUptoSaid : Prop := onionWrapsUptoRow.holds Try.pinned (OpenSpec.upto onionWrapsSpec)

/-- 'courierbaglaw18.OnionLong', WHERE WHAT IT READS IS OF BULK AT MOST 1048576: true; the input reads as it did. -/
def onionLongUptoRow : OpenClaim := { program := "yteialfdhbfbkgaa", sum := "6b751a66f8086e762ff326f4e86806c4e97e2f6a7d28a22b0b75888b52d3cf0f", func := "courierbag/courierbaglaw18.OnionLong", spec := "onionLong", recurses := true, apart := false, narrowed := true }
def OnionLongUptoSaid : Prop := onionLongUptoRow.holds Try.pinned (OpenSpec.upto onionLongSpec)

/-- 'courierbaglaw18.OnionPeels', WHERE WHAT IT READS IS OF BULK AT MOST 1048576: true; the input reads as it did. -/
def onionPeelsUptoRow : OpenClaim := { program := "yteialfdhbfbkgaa", sum := "6b751a66f8086e762ff326f4e86806c4e97e2f6a7d28a22b0b75888b52d3cf0f", func := "courierbag/courierbaglaw18.OnionPeels", spec := "onionPeels", recurses := true, apart := false, narrowed := true }
def OnionPeelsUptoSaid : Prop := onionPeelsUptoRow.holds Try.pinned (OpenSpec.upto onionPeelsSpec)

/-- 'courierbaglaw9.ProofDraws', WHERE WHAT IT READS IS OF BULK AT MOST 1048576: true; the input reads as it did. -/
def proofDrawsUptoRow : OpenClaim := { program := "yteialfdhbfbkgaa", sum := "6b751a66f8086e762ff326f4e86806c4e97e2f6a7d28a22b0b75888b52d3cf0f", func := "courierbag/courierbaglaw9.ProofDraws", spec := "proofDraws", named := ["math/bits.divideError", "math/bits.overflowError"], apart := false, narrowed := true }
def ProofDrawsUptoSaid : Prop := proofDrawsUptoRow.holds Try.pinned (OpenSpec.upto proofDrawsSpec)

/-- 'courierbaglaw9.ProofTells', WHERE WHAT IT READS IS OF BULK AT MOST 1048576: true; the input reads as it did. -/
def proofTellsUptoRow : OpenClaim := { program := "yteialfdhbfbkgaa", sum := "6b751a66f8086e762ff326f4e86806c4e97e2f6a7d28a22b0b75888b52d3cf0f", func := "courierbag/courierbaglaw9.ProofTells", spec := "proofTells", named := ["math/bits.divideError", "math/bits.overflowError"], apart := false, narrowed := true }
def ProofTellsUptoSaid : Prop := proofTellsUptoRow.holds Try.pinned (OpenSpec.upto proofTellsSpec)

/-- 'courierbaglaw9.ProofChecks', WHERE WHAT IT READS IS OF BULK AT MOST 1048576: true; the input reads as it did. -/
def proofChecksUptoRow : OpenClaim := { program := "yteialfdhbfbkgaa", sum := "6b751a66f8086e762ff326f4e86806c4e97e2f6a7d28a22b0b75888b52d3cf0f", func := "courierbag/courierbaglaw9.ProofChecks", spec := "proofChecks", named := ["math/bits.divideError", "math/bits.overflowError"], apart := false, narrowed := true }
def ProofChecksUptoSaid : Prop := proofChecksUptoRow.holds Try.pinned (OpenSpec.upto proofChecksSpec)

/-- 'courierbaglaw9.ProofHolds', WHERE WHAT IT READS IS OF BULK AT MOST 1048576: true; the input reads as it did. -/
def proofHoldsUptoRow : OpenClaim := { program := "yteialfdhbfbkgaa", sum := "6b751a66f8086e762ff326f4e86806c4e97e2f6a7d28a22b0b75888b52d3cf0f", func := "courierbag/courierbaglaw9.ProofHolds", spec := "proofHolds", named := ["math/bits.divideError", "math/bits.overflowError"], apart := false, narrowed := true }
def ProofHoldsUptoSaid : Prop := proofHoldsUptoRow.holds Try.pinned (OpenSpec.upto proofHoldsSpec)

/-- 'courierbaglaw9.ProofTurned', WHERE WHAT IT READS IS OF BULK AT MOST 1048576: true; the input reads as it did. -/
def proofTurnedUptoRow : OpenClaim := { program := "yteialfdhbfbkgaa", sum := "6b751a66f8086e762ff326f4e86806c4e97e2f6a7d28a22b0b75888b52d3cf0f", func := "courierbag/courierbaglaw9.ProofTurned", spec := "proofTurned", named := ["math/bits.divideError", "math/bits.overflowError"], apart := false, narrowed := true }
def ProofTurnedUptoSaid : Prop := proofTurnedUptoRow.holds Try.pinned (OpenSpec.upto proofTurnedSpec)

/-- 'courierbaglaw10.SignTurned', WHERE WHAT IT READS IS OF BULK AT MOST 1048576: true; the input reads as it did. -/
def signTurnedUptoRow : OpenClaim := { program := "yteialfdhbfbkgaa", sum := "6b751a66f8086e762ff326f4e86806c4e97e2f6a7d28a22b0b75888b52d3cf0f", func := "courierbag/courierbaglaw10.SignTurned", spec := "signTurned", named := ["math/bits.divideError", "math/bits.overflowError"], apart := false, narrowed := true }
def SignTurnedUptoSaid : Prop := signTurnedUptoRow.holds Try.pinned (OpenSpec.upto signTurnedSpec)

/-- 'courierbaglaw10.SignAgain', WHERE WHAT IT READS IS OF BULK AT MOST 1048576: true; the input reads as it did. -/
def signAgainUptoRow : OpenClaim := { program := "yteialfdhbfbkgaa", sum := "6b751a66f8086e762ff326f4e86806c4e97e2f6a7d28a22b0b75888b52d3cf0f", func := "courierbag/courierbaglaw10.SignAgain", spec := "signAgain", named := ["math/bits.divideError", "math/bits.overflowError"], apart := false, narrowed := true }
def SignAgainUptoSaid : Prop := signAgainUptoRow.holds Try.pinned (OpenSpec.upto signAgainSpec)

/-- 'courierbaglaw10.SignSigns', WHERE WHAT IT READS IS OF BULK AT MOST 1048576: true; the input reads as it did. -/
def signSignsUptoRow : OpenClaim := { program := "yteialfdhbfbkgaa", sum := "6b751a66f8086e762ff326f4e86806c4e97e2f6a7d28a22b0b75888b52d3cf0f", func := "courierbag/courierbaglaw10.SignSigns", spec := "signSigns", named := ["math/bits.divideError", "math/bits.overflowError"], apart := false, narrowed := true }
def SignSignsUptoSaid : Prop := signSignsUptoRow.holds Try.pinned (OpenSpec.upto signSignsSpec)

/-- 'courierbaglaw10.SignChecks', WHERE WHAT IT READS IS OF BULK AT MOST 1048576: true; the input reads as it did. -/
def signChecksUptoRow : OpenClaim := { program := "yteialfdhbfbkgaa", sum := "6b751a66f8086e762ff326f4e86806c4e97e2f6a7d28a22b0b75888b52d3cf0f", func := "courierbag/courierbaglaw10.SignChecks", spec := "signChecks", named := ["math/bits.divideError", "math/bits.overflowError"], apart := false, narrowed := true }
def SignChecksUptoSaid : Prop := signChecksUptoRow.holds Try.pinned (OpenSpec.upto signChecksSpec)

end Rows
end Go.Proofs.Yteialfdhbfbkgaa
