/-
  No cell of these rows narrows 'for every input' (looked for: loops, veiled, ifaces, maps, wideKeys, modest, calm, conditions, laid).
  DERIVED. THE GIVEN ROWS OF THIS SEAT. 3 by the template 'for every input the law returns true; each argument reads behind the call as it read before'; 0 by the template 'total and deterministic' (their statements: YtmbgcjfmfkddpaaGreatTotals.lean).
  GIVEN WITH THE SEED: the statements are not yours to turn. If you find one false, say at which input.
  Laid BY PROGRAM, IN A SANDBOX (cutbox-rows.mjs): the forced cells as the released guide's own fill.sh prints them over the translation 91e105ede2a3e99e… (all of the seat's roots in one cut). By AI agents, Wed Nov 11 2026. No macro, syntax, notation, axiom, sorry.
-/
import Derived.Test.YtmbgcjfmfkddpaaGreatChecked
import GoSem.Claim
import GoSem.ClaimJoined
import GoSem.ClaimMapViews
import Derived.JoinedTies
import Derived.KernelRfl
namespace Go.Proofs.YtmbgcjfmfkddpaaGreat
/- THE CELL 'sum', in the pinned program and in every row, IS THE sha256 OF THE DUMP (.gsa) THAT YtmbgcjfmfkddpaaGreatProg.lean LOADS. Nothing in Lean hashes anything: it is a label: what it is worth is what the hold of that sum in a sandbox is worth. -/
noncomputable def Tryz.pinned : Pinned := { name := "ytmbgcjfmfkddpaagreat", sum := "91e105ede2a3e99e39176604db558eec582990ef21eb0f5c7d5bcc18ef8c0791", checked := Tryz.checked }
namespace Rows
def none {H : Type} : Left H := { results := [], args := [] }

/-- 'courierbaglaw19.HopFails': WHATEVER THE INPUT: true; the input reads as it did. -/
def hopFailsSpec : ChangeSpec := { name := "hopFails", fn := fun _ => fun
  | [d1, d2, d3, d4] => { results := [.lit (.bool true)], args := [d1, d2, d3, d4] }
  | _ => none }
def hopFailsRow : OpenClaim := { program := "ytmbgcjfmfkddpaagreat", sum := "91e105ede2a3e99e39176604db558eec582990ef21eb0f5c7d5bcc18ef8c0791", func := "courierbag/courierbaglaw19.HopFails", spec := "hopFails", recurses := true, named := ["math/bits.divideError", "math/bits.overflowError"], apart := false }
def HopFailsSaid : Prop := hopFailsRow.holds Tryz.pinned (OpenSpec.ofChange hopFailsSpec)

/-- ITS FALSE NEIGHBOUR: 'it returns false'. Refute it at one input. -/
def hopFailsWrong : ChangeSpec := { name := "hopFails", fn := fun _ => fun
  | [d1, d2, d3, d4] => { results := [.lit (.bool false)], args := [d1, d2, d3, d4] }
  | _ => none }
def HopFailsWrongFalsely : Prop := hopFailsRow.holds Tryz.pinned (OpenSpec.ofChange hopFailsWrong)

/-- 'courierbaglaw19.HopOpens': WHATEVER THE INPUT: true; the input reads as it did. -/
def hopOpensSpec : ChangeSpec := { name := "hopOpens", fn := fun _ => fun
  | [d1, d2, d3, d4, d5] => { results := [.lit (.bool true)], args := [d1, d2, d3, d4, d5] }
  | _ => none }
def hopOpensRow : OpenClaim := { program := "ytmbgcjfmfkddpaagreat", sum := "91e105ede2a3e99e39176604db558eec582990ef21eb0f5c7d5bcc18ef8c0791", func := "courierbag/courierbaglaw19.HopOpens", spec := "hopOpens", recurses := true, named := ["math/bits.divideError", "math/bits.overflowError"], apart := false }
def HopOpensSaid : Prop := hopOpensRow.holds Tryz.pinned (OpenSpec.ofChange hopOpensSpec)

/-- ITS FALSE NEIGHBOUR: 'it returns false'. Refute it at one input. -/
def hopOpensWrong : ChangeSpec := { name := "hopOpens", fn := fun _ => fun
  | [d1, d2, d3, d4, d5] => { results := [.lit (.bool false)], args := [d1, d2, d3, d4, d5] }
  | _ => none }
def HopOpensWrongFalsely : Prop := hopOpensRow.holds Tryz.pinned (OpenSpec.ofChange hopOpensWrong)

/-- 'courierbaglaw19.HopTurned': WHATEVER THE INPUT: true; the input reads as it did. -/
def hopTurnedSpec : ChangeSpec := { name := "hopTurned", fn := fun _ => fun
  | [d1, d2, d3, d4, d5] => { results := [.lit (.bool true)], args := [d1, d2, d3, d4, d5] }
  | _ => none }
def hopTurnedRow : OpenClaim := { program := "ytmbgcjfmfkddpaagreat", sum := "91e105ede2a3e99e39176604db558eec582990ef21eb0f5c7d5bcc18ef8c0791", func := "courierbag/courierbaglaw19.HopTurned", spec := "hopTurned", recurses := true, named := ["math/bits.divideError", "math/bits.overflowError"], apart := false }
def HopTurnedSaid : Prop := hopTurnedRow.holds Tryz.pinned (OpenSpec.ofChange hopTurnedSpec)

/-- ITS FALSE NEIGHBOUR: 'it returns false'. Refute it at one input. -/
def hopTurnedWrong : ChangeSpec := { name := "hopTurned", fn := fun _ => fun
  | [d1, d2, d3, d4, d5] => { results := [.lit (.bool false)], args := [d1, d2, d3, d4, d5] }
  | _ => none }
def HopTurnedWrongFalsely : Prop := hopTurnedRow.holds Tryz.pinned (OpenSpec.ofChange hopTurnedWrong)

/- THE SECOND FORM. 'bulk': how many values and letters a reading holds, each counted each time it is reached (what is shared counts as often as it is met; a slice's spare places count too). A statement '..UptoSaid' is the law's where the arguments, and the package variables that the reading takes, are together of bulk at most 1048576: NARROWER than '..Said'. Prove '..Said' where nothing that the law and all that it calls make is longer than what came in: it says more and counts as full. Else prove '..UptoSaid'. A law counts once. -/
mutual
def uptoBulk {H : Type} : DataW H → Nat
  | .lit (.string bytes) => bytes.length + 1
  | .lit _ => 1
  | .nil => 1
  | .ptr d => uptoBulk d + 1
  | .slice elems spare => uptoBulkAll elems + uptoBulkAll spare + 1
  | .agg parts => uptoBulkAll parts + 1
  | .iface _ d => uptoBulk d + 1
  | .map entries => uptoBulkEntries entries + 1
  | .held _ => 1
def uptoBulkAll {H : Type} : List (DataW H) → Nat
  | [] => 0
  | d :: r => uptoBulk d + uptoBulkAll r
def uptoBulkEntries {H : Type} : List (Lit × DataW H) → Nat
  | [] => 0
  | x :: r => uptoBulkEntry x + uptoBulkEntries r
def uptoBulkEntry {H : Type} : Lit × DataW H → Nat
  | (.string bytes, d) => bytes.length + uptoBulk d + 1
  | (_, d) => uptoBulk d + 1
 end
def uptoSmall : (H : Type) → List (DataW H) → Bool := fun _ ds => decide (uptoBulkAll ds ≤ 1048576)
def OpenSpec.upto (s : _root_.Go.ChangeSpec) : _root_.Go.OpenSpec := { _root_.Go.OpenSpec.ofChange s with cond := some uptoSmall }

/-- 'courierbaglaw19.HopFails', WHERE WHAT IT READS IS OF BULK AT MOST 1048576: true; the input reads as it did. -/
def hopFailsUptoRow : OpenClaim := { program := "ytmbgcjfmfkddpaagreat", sum := "91e105ede2a3e99e39176604db558eec582990ef21eb0f5c7d5bcc18ef8c0791", func := "courierbag/courierbaglaw19.HopFails", spec := "hopFails", recurses := true, named := ["math/bits.divideError", "math/bits.overflowError"], apart := false, narrowed := true }
def HopFailsUptoSaid : Prop := hopFailsUptoRow.holds Tryz.pinned (OpenSpec.upto hopFailsSpec)

/-- 'courierbaglaw19.HopOpens', WHERE WHAT IT READS IS OF BULK AT MOST 1048576: true; the input reads as it did. -/
def hopOpensUptoRow : OpenClaim := { program := "ytmbgcjfmfkddpaagreat", sum := "91e105ede2a3e99e39176604db558eec582990ef21eb0f5c7d5bcc18ef8c0791", func := "courierbag/courierbaglaw19.HopOpens", spec := "hopOpens", recurses := true, named := ["math/bits.divideError", "math/bits.overflowError"], apart := false, narrowed := true }
def HopOpensUptoSaid : Prop := hopOpensUptoRow.holds Tryz.pinned (OpenSpec.upto hopOpensSpec)

/-- 'courierbaglaw19.HopTurned', WHERE WHAT IT READS IS OF BULK AT MOST 1048576: true; the input reads as it did. -/
def hopTurnedUptoRow : OpenClaim := { program := "ytmbgcjfmfkddpaagreat", sum := "91e105ede2a3e99e39176604db558eec582990ef21eb0f5c7d5bcc18ef8c0791", func := "courierbag/courierbaglaw19.HopTurned", spec := "hopTurned", recurses := true, named := ["math/bits.divideError", "math/bits.overflowError"], apart := false, narrowed := true }
def HopTurnedUptoSaid : Prop := hopTurnedUptoRow.holds Tryz.pinned (OpenSpec.upto hopTurnedSpec)

end Rows
end Go.Proofs.YtmbgcjfmfkddpaaGreat
