/-
  No cell of these rows narrows 'for every input' (looked for: loops, veiled, ifaces, maps, wideKeys, modest, calm, conditions, laid).
  DERIVED. THE GIVEN ROWS OF THIS SEAT. 4 by the template 'for every input the law returns true; each argument reads behind the call as it read before'; 0 by the template 'total and deterministic' (their statements: YtnmniblaefjekaaTotals.lean).
  GIVEN WITH THE SEED: the statements are not yours to turn. If you find one false, say at which input.
  Laid BY PROGRAM, IN A SANDBOX (cutbox-rows.mjs): the forced cells as the released guide's own fill.sh prints them over the translation 581c24bab6c629a0… (all of the seat's roots in one cut). By AI agents, Wed Nov 11 2026. No macro, syntax, notation, axiom, sorry.
-/
import Derived.Test.YtnmniblaefjekaaChecked
import GoSem.Claim
import GoSem.ClaimJoined
import GoSem.ClaimMapViews
import Derived.JoinedTies
import Derived.KernelRfl
namespace Go.Proofs.Ytnmniblaefjekaa
/- THE CELL 'sum', in the pinned program and in every row, IS THE sha256 OF THE DUMP (.gsa) THAT YtnmniblaefjekaaProg.lean LOADS. Nothing in Lean hashes anything: it is a label: what it is worth is what the hold of that sum in a sandbox is worth. -/
noncomputable def Try.pinned : Pinned := { name := "ytnmniblaefjekaa", sum := "581c24bab6c629a0e538a778424616e10ca8a0f631cc1242a173cd950d22ce00", checked := Try.checked }
namespace Rows
def none {H : Type} : Left H := { results := [], args := [] }

/-- 'courierbaglaw18.OnionChecks': WHATEVER THE INPUT: true; the input reads as it did. -/
def onionChecksSpec : ChangeSpec := { name := "onionChecks", fn := fun _ => fun
  | [d1, d2, d3, d4, d5] => { results := [.lit (.bool true)], args := [d1, d2, d3, d4, d5] }
  | _ => none }
def onionChecksRow : OpenClaim := { program := "ytnmniblaefjekaa", sum := "581c24bab6c629a0e538a778424616e10ca8a0f631cc1242a173cd950d22ce00", func := "courierbag/courierbaglaw18.OnionChecks", spec := "onionChecks", named := ["math/bits.divideError", "math/bits.overflowError"], apart := false }
def OnionChecksSaid : Prop := onionChecksRow.holds Try.pinned (OpenSpec.ofChange onionChecksSpec)

/-- ITS FALSE NEIGHBOUR: 'it returns false'. Refute it at one input. -/
def onionChecksWrong : ChangeSpec := { name := "onionChecks", fn := fun _ => fun
  | [d1, d2, d3, d4, d5] => { results := [.lit (.bool false)], args := [d1, d2, d3, d4, d5] }
  | _ => none }
def OnionChecksWrongFalsely : Prop := onionChecksRow.holds Try.pinned (OpenSpec.ofChange onionChecksWrong)

/-- 'courierbaglaw20.BlameJudges': WHATEVER THE INPUT: true; the input reads as it did. -/
def blameJudgesSpec : ChangeSpec := { name := "blameJudges", fn := fun _ => fun
  | [d1, d2, d3, d4, d5] => { results := [.lit (.bool true)], args := [d1, d2, d3, d4, d5] }
  | _ => none }
def blameJudgesRow : OpenClaim := { program := "ytnmniblaefjekaa", sum := "581c24bab6c629a0e538a778424616e10ca8a0f631cc1242a173cd950d22ce00", func := "courierbag/courierbaglaw20.BlameJudges", spec := "blameJudges", named := ["math/bits.divideError", "math/bits.overflowError"], apart := false }
def BlameJudgesSaid : Prop := blameJudgesRow.holds Try.pinned (OpenSpec.ofChange blameJudgesSpec)

/-- ITS FALSE NEIGHBOUR: 'it returns false'. Refute it at one input. -/
def blameJudgesWrong : ChangeSpec := { name := "blameJudges", fn := fun _ => fun
  | [d1, d2, d3, d4, d5] => { results := [.lit (.bool false)], args := [d1, d2, d3, d4, d5] }
  | _ => none }
def BlameJudgesWrongFalsely : Prop := blameJudgesRow.holds Try.pinned (OpenSpec.ofChange blameJudgesWrong)

/-- 'courierbaglaw20.BlameTraces': WHATEVER THE INPUT: true; the input reads as it did. -/
def blameTracesSpec : ChangeSpec := { name := "blameTraces", fn := fun _ => fun
  | [d1, d2, d3, d4] => { results := [.lit (.bool true)], args := [d1, d2, d3, d4] }
  | _ => none }
def blameTracesRow : OpenClaim := { program := "ytnmniblaefjekaa", sum := "581c24bab6c629a0e538a778424616e10ca8a0f631cc1242a173cd950d22ce00", func := "courierbag/courierbaglaw20.BlameTraces", spec := "blameTraces", named := ["math/bits.divideError", "math/bits.overflowError"], apart := false }
def BlameTracesSaid : Prop := blameTracesRow.holds Try.pinned (OpenSpec.ofChange blameTracesSpec)

/-- ITS FALSE NEIGHBOUR: 'it returns false'. Refute it at one input. -/
def blameTracesWrong : ChangeSpec := { name := "blameTraces", fn := fun _ => fun
  | [d1, d2, d3, d4] => { results := [.lit (.bool false)], args := [d1, d2, d3, d4] }
  | _ => none }
def BlameTracesWrongFalsely : Prop := blameTracesRow.holds Try.pinned (OpenSpec.ofChange blameTracesWrong)

/-- 'courierbaglaw20.BlameAnswers': WHATEVER THE INPUT: true; the input reads as it did. -/
def blameAnswersSpec : ChangeSpec := { name := "blameAnswers", fn := fun _ => fun
  | [d1, d2, d3, d4, d5, d6] => { results := [.lit (.bool true)], args := [d1, d2, d3, d4, d5, d6] }
  | _ => none }
def blameAnswersRow : OpenClaim := { program := "ytnmniblaefjekaa", sum := "581c24bab6c629a0e538a778424616e10ca8a0f631cc1242a173cd950d22ce00", func := "courierbag/courierbaglaw20.BlameAnswers", spec := "blameAnswers", named := ["math/bits.divideError", "math/bits.overflowError"], apart := false }
def BlameAnswersSaid : Prop := blameAnswersRow.holds Try.pinned (OpenSpec.ofChange blameAnswersSpec)

/-- ITS FALSE NEIGHBOUR: 'it returns false'. Refute it at one input. -/
def blameAnswersWrong : ChangeSpec := { name := "blameAnswers", fn := fun _ => fun
  | [d1, d2, d3, d4, d5, d6] => { results := [.lit (.bool false)], args := [d1, d2, d3, d4, d5, d6] }
  | _ => none }
def BlameAnswersWrongFalsely : Prop := blameAnswersRow.holds Try.pinned (OpenSpec.ofChange blameAnswersWrong)

/- THE SECOND FORM. 'bulk': how many values and letters a reading holds, each counted each time it is reached (what is shared counts as often as it is met; a slice's spare places count too). A statement '..UptoSaid' is the law's where the arguments, and the package variables that the reading takes, are together of bulk at most 1048576: NARROWER than '..Said'. Prove '..Said' where nothing that the law and all that it calls make is longer than what came in: it says more and counts as full. Else prove '..UptoSaid'. A law counts once. -/
mutual
def uptoBulk {H : Type} : DataW H → Nat
  | .lit (.string bytes) => bytes.length + 1
  | .lit _ => 1
  | .nil => 1
  | .ptr d => uptoBulk d + 1
  | .slice elems spare => uptoBulkAll elems + uptoBulkAll spare + 1
  | .agg parts => uptoBulkAll parts + 1
  | .iface _ d => uptoBulk d + 1
  | .map entries => uptoBulkEntries entries + 1
  | .held _ => 1
def uptoBulkAll {H : Type} : List (DataW H) → Nat
  | [] => 0
  | d :: r => uptoBulk d + uptoBulkAll r
def uptoBulkEntries {H : Type} : List (Lit × DataW H) → Nat
  | [] => 0
  | x :: r => uptoBulkEntry x + uptoBulkEntries r
def uptoBulkEntry {H : Type} : Lit × DataW H → Nat
  | (.string bytes, d) => bytes.length + uptoBulk d + 1
  | (_, d) => uptoBulk d + 1
 end
def uptoSmall : (H : Type) → List (DataW H) → Bool := fun _ ds => decide (uptoBulkAll ds ≤ 1048576)
def OpenSpec.upto (s : _root_.Go.ChangeSpec) : _root_.Go.OpenSpec := { _root_.Go.OpenSpec.ofChange s with cond := some uptoSmall }

/-- 'courierbaglaw18.OnionChecks', WHERE WHAT IT READS IS OF BULK AT MOST 1048576: true; the input reads as it did. -/
def onionChecksUptoRow : OpenClaim := { program := "ytnmniblaefjekaa", sum := "581c24bab6c629a0e538a778424616e10ca8a0f631cc1242a173cd950d22ce00", func := "courierbag/courierbaglaw18.OnionChecks", spec := "onionChecks", named := ["math/bits.divideError", "math/bits.overflowError"], apart := false, narrowed := true }
def OnionChecksUptoSaid : Prop := onionChecksUptoRow.holds Try.pinned (OpenSpec.upto onionChecksSpec)

/-- 'courierbaglaw20.BlameJudges', WHERE WHAT IT READS IS OF BULK AT MOST 1048576: true; the input reads as it did. -/
def blameJudgesUptoRow : OpenClaim := { program := "ytnmniblaefjekaa", sum := "581c24bab6c629a0e538a778424616e10ca8a0f631cc1242a173cd950d22ce00", func := "courierbag/courierbaglaw20.BlameJudges", spec := "blameJudges", named := ["math/bits.divideError", "math/bits.overflowError"], apart := false, narrowed := true }
def BlameJudgesUptoSaid : Prop := blameJudgesUptoRow.holds Try.pinned (OpenSpec.upto blameJudgesSpec)

/-- 'courierbaglaw20.BlameTraces', WHERE WHAT IT READS IS OF BULK AT MOST 1048576: true; the input reads as it did. -/
def blameTracesUptoRow : OpenClaim := { program := "ytnmniblaefjekaa", sum := "581c24bab6c629a0e538a778424616e10ca8a0f631cc1242a173cd950d22ce00", func := "courierbag/courierbaglaw20.BlameTraces", spec := "blameTraces", named := ["math/bits.divideError", "math/bits.overflowError"], apart := false, narrowed := true }
def BlameTracesUptoSaid : Prop := blameTracesUptoRow.holds Try.pinned (OpenSpec.upto blameTracesSpec)

/-- 'courierbaglaw20.BlameAnswers', WHERE WHAT IT READS IS OF BULK AT MOST 1048576: true; the input reads as it did. -/
def blameAnswersUptoRow : OpenClaim := { program := "ytnmniblaefjekaa", sum := "581c24bab6c629a0e538a778424616e10ca8a0f631cc1242a173cd950d22ce00", func := "courierbag/courierbaglaw20.BlameAnswers", spec := "blameAnswers", named := ["math/bits.divideError", "math/bits.overflowError"], apart := false, narrowed := true }
def BlameAnswersUptoSaid : Prop := blameAnswersUptoRow.holds Try.pinned (OpenSpec.upto blameAnswersSpec)

end Rows
end Go.Proofs.Ytnmniblaefjekaa
