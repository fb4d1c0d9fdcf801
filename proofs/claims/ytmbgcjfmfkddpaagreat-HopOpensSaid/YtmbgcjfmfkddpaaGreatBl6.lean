/-
  Who is to blame: both programs.
-/
import Derived.Test.YtmbgcjfmfkddpaaGreatBl5
namespace Go.Proofs.YtmbgcjfmfkddpaaGreat
set_option linter.unusedVariables false
set_option linter.unusedSimpArgs false
open Go Go.RowKit

def entsR : Rp (List Ent) := entR.sl 31
theorem slP_at {B : Nat} {w : World} {b o m c : Nat} {l : List Pub} (h : SlR pubR B w (.slice (some ⟨b, o, none⟩) m c) l) (i : Nat) (p : Pub) (hi : l[i]? = some p) : w.rangeAt b (o + i * 10) p.cells := by
  obtain ⟨ch, h1, _, hr⟩ := h.at i p hi
  have : ch = p.cells := h1
  rw [this] at hr; exact hr
theorem slL_at {B : Nat} {w : World} {b o m c : Nat} {l : List (List Ent)} (h : SlR entsR B w (.slice (some ⟨b, o, none⟩) m c) l) (i : Nat) (es : List Ent) (hi : l[i]? = some es) : ∃ v, w.cell? ⟨b, o + i, none⟩ = some v ∧ SlR entR B w v es := by
  obtain ⟨ch, ⟨v, rfl, hv⟩, _, hr⟩ := h.at i es hi
  exact ⟨v, by have := hr 0 v rfl; rwa [show entsR.sz = 1 from rfl, Nat.mul_one, Nat.add_zero] at this, hv⟩
abbrev VerC (a b : Int) : Array Value := #[.int .i64 a, .int .i64 b]
end Go.Proofs.YtmbgcjfmfkddpaaGreat
