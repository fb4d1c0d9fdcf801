/-
  Chains of keys checked, and their products: both programs.
-/
import Derived.Test.YtbgnfioggmkdeaaGreatDoorKc
namespace Go.Proofs.YtbgnfioggmkdeaaGreatDoor
set_option linter.unusedVariables false
set_option linter.unusedSimpArgs false
open Go Go.RowKit

theorem seesP_opn {w : World} {v : Value} {ps : List Pub} (h : SeesP w v ps) (hn : 0 < ps.length) : ∃ b o c, v = .slice (some ⟨b, o, none⟩) ps.length c := by
  obtain ⟨b, o, c, e, _⟩ := seesP_open h hn; exact ⟨b, o, c, e⟩
theorem pub_c {u : World} {g : Nat} {t : TypeId} {pa pb pm pn q1 q2 q3 q4 q5 q6 : Int} (h : Blk u g (PubC pa pb pm pn q1 q2 q3 q4 q5 q6) t) :
    u.cell? ⟨g, 0, none⟩ = some (.int .u64 pa) ∧ u.cell? ⟨g, 1, none⟩ = some (.int .u64 pb) ∧ u.cell? ⟨g, 2, none⟩ = some (.int .u64 pm) ∧ u.cell? ⟨g, 3, none⟩ = some (.int .u64 pn) :=
  ⟨by rw [h.cell]; rfl, by rw [h.cell]; rfl, by rw [h.cell]; rfl, by rw [h.cell]; rfl⟩
theorem pub_r {u : World} {g : Nat} {t : TypeId} {pa pb pm pn q1 q2 q3 q4 q5 q6 : Int} (h : Blk u g (PubC pa pb pm pn q1 q2 q3 q4 q5 q6) t) :
    u.rangeAt g 4 [.int .u64 q1, .int .u64 q2] ∧ u.rangeAt g 6 [.int .u64 q3, .int .u64 q4] ∧ u.rangeAt g 8 [.int .u64 q5, .int .u64 q6] :=
  ⟨blk_range h 4 _ (fun j u hj => by match j, hj with | 0, hj => exact hj | 1, hj => exact hj), blk_range h 6 _ (fun j u hj => by match j, hj with | 0, hj => exact hj | 1, hj => exact hj), blk_range h 8 _ (fun j u hj => by match j, hj with | 0, hj => exact hj | 1, hj => exact hj)⟩
theorem okAt_dec (b : Int) (p : Pub) : decide (okAt b p) = (decide (p.base = b) && (decide (knowOk b p.blind p.c1 p.s1) && (decide (knowOk b p.mix p.c2 p.s2) && decide (knowOk 37 p.inner p.c3 p.s3)))) := by
  by_cases h1 : p.base = b <;> by_cases h2 : knowOk b p.blind p.c1 p.s1 <;> by_cases h3 : knowOk b p.mix p.c2 p.s2 <;> by_cases h4 : knowOk 37 p.inner p.c3 p.s3 <;> simp [okAt, h1, h2, h3, h4]
def ChkRel (w : World) (l : List Pub) (g i : Value) (wr : World) : Prop :=
  ∃ (k : Nat) (b : Int), k ≤ l.length ∧ i = .int .i64 k ∧ g = .int .u64 b ∧ in64 b ∧ Hid (chkP l 37 = chkP (l.drop k) b) ∧ Ext w wr
end Go.Proofs.YtbgnfioggmkdeaaGreatDoor
