/-
  Arguments opened: lists of orders.
-/
import Derived.Test.YtmbgcjfmfkddpaaGreatOpenBl
import Derived.Test.YtmbgcjfmfkddpaaGreatBu2
namespace Go.Proofs.YtmbgcjfmfkddpaaGreat
set_option linter.unusedVariables false
set_option linter.unusedSimpArgs false
open Go Go.RowKit Go.ChangeShapes Go.WideShapes Go.ChangeAt

theorem rd_intss {w : World} {cs : List Value} (h : Rd Tryz.prog w 52 cs) : ∃ (v : Value) (l : List (List Int)), cs = [v] ∧ SlR intsR w.heap.size w v l := by
  obtain ⟨v, chs, h1, h2, h3⟩ := rd_slice Tryz.underlying52 (show Tryz.prog.cellsOf 33 = 1 from by kernel_rfl) (by decide) h
  obtain ⟨l, h5, h6, h7⟩ := slR_of (R := intsR) (q := fun _ => True) h2 (fun c hc => by
    obtain ⟨u, es, rfl, q1⟩ := rd_ints (h3 c hc).2
    exact ⟨es, ⟨u, rfl, q1⟩, trivial⟩)
  exact ⟨v, l, h1, h5⟩
section
variable {H : Type} {enc : TypeId × Value → H} {w : World} {v : Value} {d : DataW H} {p : List MemPlace} {base : Nat}
set_option maxRecDepth 100000 in
theorem openA_intss (hv : Value.okWide Tryz.prog w .any base 52 v) (h : DataW.Trod enc Tryz.prog w 0 (fun _ => true) true 52 v d p) : ∃ a, SlR intsR w.heap.size w v a := by
  obtain ⟨u, l, h1, h2⟩ := rd_intss (rd_of h)
  obtain rfl := cells_slice Tryz.underlying52 hv h1
  exact ⟨l, h2⟩
end
end Go.Proofs.YtmbgcjfmfkddpaaGreat
