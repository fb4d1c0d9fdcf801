/-
  Names with numbers, and a server's secrets: the program.
-/
import Derived.Test.YtmbgcjfmfkddpaaDoorBeac
import Derived.Test.YtmbgcjfmfkddpaaDoorShelf
namespace Go.Proofs.YtmbgcjfmfkddpaaDoor
set_option linter.unusedVariables false
set_option linter.unusedSimpArgs false
open Go Go.RowKit

theorem dec_eq (u : Nat) : Lib.decDigits u = decN u := by
  induction u using Nat.strongRecOn with
  | _ u ih =>
    by_cases h : u < 10
    · rw [Lib.decDigits, dif_pos h, decN_small u h]; rfl
    · rw [Lib.decDigits, dif_neg h, decN_big u h, ih (u / 10) (by omega)]; rfl
theorem itoa_eq (n : Int) : Lib.itoa n = decI n := by
  unfold Lib.itoa decI
  split
  · rw [dec_eq]
  · rename_i h
    rw [dec_eq, show n.toNat = n.natAbs from by omega]
/-- Itoa answers, from here on. -/
def ItoaOk (w : World) (n : Int) : Prop := ∀ u, Ext w u → Calls Tryd.prog 16 #[.int .i64 n] u fun e u' => e = .returned (strL (decI n)) ∧ Ext u u'
theorem ItoaOk.mono {w w1 : World} {n : Int} (h : ItoaOk w n) (e : Ext w w1) : ItoaOk w1 n := fun u hu => h u (Ext.tr e hu)
theorem itoa_small (w : World) (n : Int) (h0 : 0 ≤ n) (h1 : n < 100) : ItoaOk w n := fun u _ => by
  obtain ⟨i, rfl⟩ := Int.eq_ofNat_of_zero_le h0
  refine (Tryd.strconv_Itoa_small i (by omega) u).mono ?_
  rintro e u' ⟨rfl, rfl⟩
  refine ⟨?_, Ext.refl _⟩
  rw [dec_eq, show decI (i : Int) = decN i from by unfold decI; rw [if_neg (by omega)]; rfl]
def NamRel (w : World) (s : List UInt8) (l : List Int) (sv i : Value) (wr : World) : Prop := ∃ k : Nat, k ≤ l.length ∧ i = .int .i64 k ∧ sv = strL (namesL s (l.take k)) ∧ Ext w wr
end Go.Proofs.YtmbgcjfmfkddpaaDoor
