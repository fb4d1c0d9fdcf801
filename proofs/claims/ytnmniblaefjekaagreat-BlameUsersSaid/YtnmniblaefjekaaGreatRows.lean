/-
  No cell of these rows narrows 'for every input' (looked for: loops, veiled, ifaces, maps, wideKeys, modest, calm, conditions, laid).
  DERIVED. THE GIVEN ROWS OF THIS SEAT. 6 by the template 'for every input the law returns true; each argument reads behind the call as it read before'; 0 by the template 'total and deterministic' (their statements: YtnmniblaefjekaaGreatTotals.lean).
  GIVEN WITH THE SEED: the statements are not yours to turn. If you find one false, say at which input.
  Laid BY PROGRAM, IN A SANDBOX (cutbox-rows.mjs): the forced cells as the released guide's own fill.sh prints them over the translation 93a3087178b09e4a… (all of the seat's roots in one cut). By AI agents, Wed Nov 11 2026. No macro, syntax, notation, axiom, sorry.
-/
import Derived.Test.YtnmniblaefjekaaGreatChecked
import GoSem.Claim
import GoSem.ClaimJoined
import GoSem.ClaimMapViews
import Derived.JoinedTies
import Derived.KernelRfl
namespace Go.Proofs.YtnmniblaefjekaaGreat
/- THE CELL 'sum', in the pinned program and in every row, IS THE sha256 OF THE DUMP (.gsa) THAT YtnmniblaefjekaaGreatProg.lean LOADS. Nothing in Lean hashes anything: it is a label: what it is worth is what the hold of that sum in a sandbox is worth. -/
noncomputable def Tryz.pinned : Pinned := { name := "ytnmniblaefjekaagreat", sum := "93a3087178b09e4a4dd6d07ba7dc78fec04fb50f352bb1553d2badbc125be66e", checked := Tryz.checked }
namespace Rows
def none {H : Type} : Left H := { results := [], args := [] }

/-- 'courierbaglaw18.OnionMakes': WHATEVER THE INPUT: true; the input reads as it did. -/
def onionMakesSpec : ChangeSpec := { name := "onionMakes", fn := fun _ => fun
  | [d1, d2, d3, d4, d5, d6, d7, d8] => { results := [.lit (.bool true)], args := [d1, d2, d3, d4, d5, d6, d7, d8] }
  | _ => none }
def onionMakesRow : OpenClaim := { program := "ytnmniblaefjekaagreat", sum := "93a3087178b09e4a4dd6d07ba7dc78fec04fb50f352bb1553d2badbc125be66e", func := "courierbag/courierbaglaw18.OnionMakes", spec := "onionMakes", recurses := true, named := ["math/bits.divideError", "math/bits.overflowError"], apart := false }
def OnionMakesSaid : Prop := onionMakesRow.holds Tryz.pinned (OpenSpec.ofChange onionMakesSpec)

/-- ITS FALSE NEIGHBOUR: 'it returns false'. Refute it at one input. -/
def onionMakesWrong : ChangeSpec := { name := "onionMakes", fn := fun _ => fun
  | [d1, d2, d3, d4, d5, d6, d7, d8] => { results := [.lit (.bool false)], args := [d1, d2, d3, d4, d5, d6, d7, d8] }
  | _ => none }
def OnionMakesWrongFalsely : Prop := onionMakesRow.holds Tryz.pinned (OpenSpec.ofChange onionMakesWrong)

/-- 'courierbaglaw18.OnionTurned': WHATEVER THE INPUT: true; the input reads as it did. -/
def onionTurnedSpec : ChangeSpec := { name := "onionTurned", fn := fun _ => fun
  | [d1, d2, d3, d4, d5, d6, d7] => { results := [.lit (.bool true)], args := [d1, d2, d3, d4, d5, d6, d7] }
  | _ => none }
def onionTurnedRow : OpenClaim := { program := "ytnmniblaefjekaagreat", sum := "93a3087178b09e4a4dd6d07ba7dc78fec04fb50f352bb1553d2badbc125be66e", func := "courierbag/courierbaglaw18.OnionTurned", spec := "onionTurned", recurses := true, named := ["math/bits.divideError", "math/bits.overflowError"], apart := false }
def OnionTurnedSaid : Prop := onionTurnedRow.holds Tryz.pinned (OpenSpec.ofChange onionTurnedSpec)

/-- ITS FALSE NEIGHBOUR: 'it returns false'. Refute it at one input. -/
def onionTurnedWrong : ChangeSpec := { name := "onionTurned", fn := fun _ => fun
  | [d1, d2, d3, d4, d5, d6, d7] => { results := [.lit (.bool false)], args := [d1, d2, d3, d4, d5, d6, d7] }
  | _ => none }
def OnionTurnedWrongFalsely : Prop := onionTurnedRow.holds Tryz.pinned (OpenSpec.ofChange onionTurnedWrong)

/-- 'courierbaglaw20.BlameUsers': WHATEVER THE INPUT: true; the input reads as it did. -/
def blameUsersSpec : ChangeSpec := { name := "blameUsers", fn := fun _ => fun
  | [d1, d2, d3, d4, d5, d6, d7] => { results := [.lit (.bool true)], args := [d1, d2, d3, d4, d5, d6, d7] }
  | _ => none }
def blameUsersRow : OpenClaim := { program := "ytnmniblaefjekaagreat", sum := "93a3087178b09e4a4dd6d07ba7dc78fec04fb50f352bb1553d2badbc125be66e", func := "courierbag/courierbaglaw20.BlameUsers", spec := "blameUsers", recurses := true, named := ["math/bits.divideError", "math/bits.overflowError"], apart := false }
def BlameUsersSaid : Prop := blameUsersRow.holds Tryz.pinned (OpenSpec.ofChange blameUsersSpec)

/-- ITS FALSE NEIGHBOUR: 'it returns false'. Refute it at one input. -/
def blameUsersWrong : ChangeSpec := { name := "blameUsers", fn := fun _ => fun
  | [d1, d2, d3, d4, d5, d6, d7] => { results := [.lit (.bool false)], args := [d1, d2, d3, d4, d5, d6, d7] }
  | _ => none }
def BlameUsersWrongFalsely : Prop := blameUsersRow.holds Tryz.pinned (OpenSpec.ofChange blameUsersWrong)

/-- 'courierbaglaw20.BlameHops': WHATEVER THE INPUT: true; the input reads as it did. -/
def blameHopsSpec : ChangeSpec := { name := "blameHops", fn := fun _ => fun
  | [d1, d2, d3, d4, d5, d6, d7] => { results := [.lit (.bool true)], args := [d1, d2, d3, d4, d5, d6, d7] }
  | _ => none }
def blameHopsRow : OpenClaim := { program := "ytnmniblaefjekaagreat", sum := "93a3087178b09e4a4dd6d07ba7dc78fec04fb50f352bb1553d2badbc125be66e", func := "courierbag/courierbaglaw20.BlameHops", spec := "blameHops", recurses := true, named := ["math/bits.divideError", "math/bits.overflowError"], apart := false }
def BlameHopsSaid : Prop := blameHopsRow.holds Tryz.pinned (OpenSpec.ofChange blameHopsSpec)

/-- ITS FALSE NEIGHBOUR: 'it returns false'. Refute it at one input. -/
def blameHopsWrong : ChangeSpec := { name := "blameHops", fn := fun _ => fun
  | [d1, d2, d3, d4, d5, d6, d7] => { results := [.lit (.bool false)], args := [d1, d2, d3, d4, d5, d6, d7] }
  | _ => none }
def BlameHopsWrongFalsely : Prop := blameHopsRow.holds Tryz.pinned (OpenSpec.ofChange blameHopsWrong)

/-- 'courierbaglaw20.BlameSpoilers': WHATEVER THE INPUT: true; the input reads as it did. -/
def blameSpoilersSpec : ChangeSpec := { name := "blameSpoilers", fn := fun _ => fun
  | [d1, d2, d3, d4, d5, d6] => { results := [.lit (.bool true)], args := [d1, d2, d3, d4, d5, d6] }
  | _ => none }
def blameSpoilersRow : OpenClaim := { program := "ytnmniblaefjekaagreat", sum := "93a3087178b09e4a4dd6d07ba7dc78fec04fb50f352bb1553d2badbc125be66e", func := "courierbag/courierbaglaw20.BlameSpoilers", spec := "blameSpoilers", recurses := true, named := ["math/bits.divideError", "math/bits.overflowError"], apart := false }
def BlameSpoilersSaid : Prop := blameSpoilersRow.holds Tryz.pinned (OpenSpec.ofChange blameSpoilersSpec)

/-- ITS FALSE NEIGHBOUR: 'it returns false'. Refute it at one input. -/
def blameSpoilersWrong : ChangeSpec := { name := "blameSpoilers", fn := fun _ => fun
  | [d1, d2, d3, d4, d5, d6] => { results := [.lit (.bool false)], args := [d1, d2, d3, d4, d5, d6] }
  | _ => none }
def BlameSpoilersWrongFalsely : Prop := blameSpoilersRow.holds Tryz.pinned (OpenSpec.ofChange blameSpoilersWrong)

/-- 'courierbaglaw20.BlameFair': WHATEVER THE INPUT: true; the input reads as it did. -/
def blameFairSpec : ChangeSpec := { name := "blameFair", fn := fun _ => fun
  | [d1, d2, d3, d4, d5, d6, d7, d8, d9] => { results := [.lit (.bool true)], args := [d1, d2, d3, d4, d5, d6, d7, d8, d9] }
  | _ => none }
def blameFairRow : OpenClaim := { program := "ytnmniblaefjekaagreat", sum := "93a3087178b09e4a4dd6d07ba7dc78fec04fb50f352bb1553d2badbc125be66e", func := "courierbag/courierbaglaw20.BlameFair", spec := "blameFair", recurses := true, named := ["math/bits.divideError", "math/bits.overflowError"], apart := false }
def BlameFairSaid : Prop := blameFairRow.holds Tryz.pinned (OpenSpec.ofChange blameFairSpec)

/-- ITS FALSE NEIGHBOUR: 'it returns false'. Refute it at one input. -/
def blameFairWrong : ChangeSpec := { name := "blameFair", fn := fun _ => fun
  | [d1, d2, d3, d4, d5, d6, d7, d8, d9] => { results := [.lit (.bool false)], args := [d1, d2, d3, d4, d5, d6, d7, d8, d9] }
  | _ => none }
def BlameFairWrongFalsely : Prop := blameFairRow.holds Tryz.pinned (OpenSpec.ofChange blameFairWrong)

/- THE SECOND FORM. 'bulk': how many values and letters a reading holds, each counted each time it is reached (what is shared counts as often as it is met; a slice's spare places count too). A statement '..UptoSaid' is the law's where the arguments, and the package variables that the reading takes, are together of bulk at most 1048576: NARROWER than '..Said'. Prove '..Said' where nothing that the law and all that it calls make is longer than what came in: it says more and counts as full. Else prove '..UptoSaid'. A law counts once. -/
mutual
def uptoBulk {H : Type} : DataW H → Nat
  | .lit (.string bytes) => bytes.length + 1
  | .lit _ => 1
  | .nil => 1
  | .ptr d => uptoBulk d + 1
  | .slice elems spare => uptoBulkAll elems + uptoBulkAll spare + 1
  | .agg parts => uptoBulkAll parts + 1
  | .iface _ d => uptoBulk d + 1
  | .map entries => uptoBulkEntries entries + 1
  | .held _ => 1
def uptoBulkAll {H : Type} : List (DataW H) → Nat
  | [] => 0
  | d :: r => uptoBulk d + uptoBulkAll r
def uptoBulkEntries {H : Type} : List (Lit × DataW H) → Nat
  | [] => 0
  | x :: r => uptoBulkEntry x + uptoBulkEntries r
def uptoBulkEntry {H : Type} : Lit × DataW H → Nat
  | (.string bytes, d) => bytes.length + uptoBulk d + 1
  | (_, d) => uptoBulk d + 1
 end
def uptoSmall : (H : Type) → List (DataW H) → Bool := fun _ ds => decide (uptoBulkAll ds ≤ 1048576)
def OpenSpec.upto (s : _root_.Go.ChangeSpec) : _root_.Go.OpenSpec := { _root_.Go.OpenSpec.ofChange s with cond := some uptoSmall }

/-- 'courierbaglaw18.OnionMakes', WHERE WHAT IT READS IS OF BULK AT MOST 1048576: true; the input reads as it did. -/
def onionMakesUptoRow : OpenClaim := { program := "ytnmniblaefjekaagreat", sum := "93a3087178b09e4a4dd6d07ba7dc78fec04fb50f352bb1553d2badbc125be66e", func := "courierbag/courierbaglaw18.OnionMakes", spec := "onionMakes", recurses := true, named := ["math/bits.divideError", "math/bits.overflowError"], apart := false, narrowed := true }
def OnionMakesUptoSaid : Prop := onionMakesUptoRow.holds Tryz.pinned (OpenSpec.upto onionMakesSpec)

/-- 'courierbaglaw18.OnionTurned', WHERE WHAT IT READS IS OF BULK AT MOST 1048576: true; the input reads as it did. -/
def onionTurnedUptoRow : OpenClaim := { program := "ytnmniblaefjekaagreat", sum := "93a3087178b09e4a4dd6d07ba7dc78fec04fb50f352bb1553d2badbc125be66e", func := "courierbag/courierbaglaw18.OnionTurned", spec := "onionTurned", recurses := true, named := ["math/bits.divideError", "math/bits.overflowError"], apart := false, narrowed := true }
def OnionTurnedUptoSaid : Prop := onionTurnedUptoRow.holds Tryz.pinned (OpenSpec.upto onionTurnedSpec)

/-- 'courierbaglaw20.BlameUsers', WHERE WHAT IT READS IS OF BULK AT MOST 1048576: true; the input reads as it did. -/
def blameUsersUptoRow : OpenClaim := { program := "ytnmniblaefjekaagreat", sum := "93a3087178b09e4a4dd6d07ba7dc78fec04fb50f352bb1553d2badbc125be66e", func := "courierbag/courierbaglaw20.BlameUsers", spec := "blameUsers", recurses := true, named := ["math/bits.divideError", "math/bits.overflowError"], apart := false, narrowed := true }
def BlameUsersUptoSaid : Prop := blameUsersUptoRow.holds Tryz.pinned (OpenSpec.upto blameUsersSpec)

/-- 'courierbaglaw20.BlameHops', WHERE WHAT IT READS IS OF BULK AT MOST 1048576: true; the input reads as it did. -/
def blameHopsUptoRow : OpenClaim := { program := "ytnmniblaefjekaagreat", sum := "93a3087178b09e4a4dd6d07ba7dc78fec04fb50f352bb1553d2badbc125be66e", func := "courierbag/courierbaglaw20.BlameHops", spec := "blameHops", recurses := true, named := ["math/bits.divideError", "math/bits.overflowError"], apart := false, narrowed := true }
def BlameHopsUptoSaid : Prop := blameHopsUptoRow.holds Tryz.pinned (OpenSpec.upto blameHopsSpec)

/-- 'courierbaglaw20.BlameSpoilers', WHERE WHAT IT READS IS OF BULK AT MOST 1048576: true; the input reads as it did. -/
def blameSpoilersUptoRow : OpenClaim := { program := "ytnmniblaefjekaagreat", sum := "93a3087178b09e4a4dd6d07ba7dc78fec04fb50f352bb1553d2badbc125be66e", func := "courierbag/courierbaglaw20.BlameSpoilers", spec := "blameSpoilers", recurses := true, named := ["math/bits.divideError", "math/bits.overflowError"], apart := false, narrowed := true }
def BlameSpoilersUptoSaid : Prop := blameSpoilersUptoRow.holds Tryz.pinned (OpenSpec.upto blameSpoilersSpec)

/-- 'courierbaglaw20.BlameFair', WHERE WHAT IT READS IS OF BULK AT MOST 1048576: true; the input reads as it did. -/
def blameFairUptoRow : OpenClaim := { program := "ytnmniblaefjekaagreat", sum := "93a3087178b09e4a4dd6d07ba7dc78fec04fb50f352bb1553d2badbc125be66e", func := "courierbag/courierbaglaw20.BlameFair", spec := "blameFair", recurses := true, named := ["math/bits.divideError", "math/bits.overflowError"], apart := false, narrowed := true }
def BlameFairUptoSaid : Prop := blameFairUptoRow.holds Tryz.pinned (OpenSpec.upto blameFairSpec)

end Rows
end Go.Proofs.YtnmniblaefjekaaGreat
