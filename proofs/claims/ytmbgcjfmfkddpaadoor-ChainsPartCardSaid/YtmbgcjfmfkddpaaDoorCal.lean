/-
  One chain, whatever the arguments are.
-/
import Derived.Test.YtmbgcjfmfkddpaaDoorCho
namespace Go.Proofs.YtmbgcjfmfkddpaaDoor
set_option linter.unusedVariables false
set_option linter.unusedSimpArgs false
open Go Go.RowKit

instance (s c k : Int) : Decidable (OneOk s c k) := by unfold OneOk; infer_instance
/-- The chain, and the error. -/
def oneL (seed : List UInt8) (s c k : Int) : List Int := if OneOk s c k then match oneO seed s.toNat c with | some l => l.take k.toNat | none => [] else []
def oneE (seed : List UInt8) (s c k : Int) : Int := if OneOk s c k then errO (oneO seed s.toNat c) else 1
theorem oneL_ok {seed : List UInt8} {s c k : Int} (hs : ¬ (60 < s ∧ s ≤ 1000)) : InjL (oneL seed s c k) ∧ InR s.toNat (oneL seed s c k) := by
  have h0 : InjL [] ∧ InR s.toNat [] := ⟨fun i j x h => by simp at h, fun i x h => by simp at h⟩
  unfold oneL
  split
  · rename_i h
    unfold OneOk at h
    split
    · rename_i l e
      have := drawO_ok (n := s.toNat) (by omega) (by omega) e
      exact ⟨this.1.take _, this.2.take _⟩
    · exact h0
  · exact h0
theorem oneL_len {seed : List UInt8} {s c k : Int} (h : oneE seed s c k = 0) : OneOk s c k ∧ (oneL seed s c k).length = k.toNat := by
  unfold oneE at h
  unfold oneL
  split at h
  · rename_i hk
    refine ⟨hk, ?_⟩
    rw [if_pos hk]
    unfold OneOk at hk
    cases e : oneO seed s.toNat c with
    | none => rw [e] at h; cases h
    | some l =>
      have : l.length = s.toNat := drawO_len e
      show (l.take k.toNat).length = _
      rw [List.length_take]; omega
  · cases h
theorem oneE_rng (seed : List UInt8) (s c k : Int) : oneE seed s c k = 0 ∨ oneE seed s c k = 1 ∨ oneE seed s c k = 9 := by
  unfold oneE errO
  split
  · split <;> simp
  · simp
theorem oneE_nine {seed : List UInt8} {s c k : Int} (h : OneOk s c k) (h0 : oneE seed s c k ≠ 0) : oneE seed s c k = 9 := by
  unfold oneE errO at *
  rw [if_pos h] at *
  split at h0
  · exact absurd rfl h0
  · rfl
theorem oneL_zero {seed : List UInt8} {s c k : Int} (h : oneE seed s c k ≠ 0) : oneL seed s c k = [] := by
  unfold oneE at h
  unfold oneL
  split at h
  · rename_i hk
    rw [if_pos hk]
    cases e : oneO seed s.toNat c with
    | none => rfl
    | some l => rw [e] at h; exact absurd rfl h
  · rename_i hk; rw [if_neg hk]
theorem oneL_len_le (seed : List UInt8) (s c k : Int) : (oneL seed s c k).length ≤ 20 := by
  by_cases h : oneE seed s c k = 0
  · obtain ⟨h1, h2⟩ := oneL_len h; unfold OneOk at h1; omega
  · rw [oneL_zero h]; simp
/-- A shorter chain. -/
theorem oneE_less {seed : List UInt8} {s c k m : Int} (h : OneOk s c k) (h1 : 1 ≤ m) (h2 : m ≤ k) : oneE seed s c m = oneE seed s c k := by
  have hm : OneOk s c m := by unfold OneOk at *; omega
  unfold oneE; rw [if_pos h, if_pos hm]
theorem oneL_less {seed : List UInt8} {s c k m : Int} (h : OneOk s c k) (h1 : 1 ≤ m) (h2 : m ≤ k) : oneL seed s c m = (oneL seed s c k).take m.toNat := by
  have hm : OneOk s c m := by unfold OneOk at *; omega
  unfold oneL; rw [if_pos h, if_pos hm]
  cases oneO seed s.toNat c with
  | none => simp
  | some l =>
    show l.take m.toNat = (l.take k.toNat).take m.toNat
    rw [List.take_take, Nat.min_eq_left (by omega)]
def RetI (l : List Int) (e : Int) (w : World) (x : Ending) (w' : World) : Prop := ∃ v, x = .returned (.tuple #[v, .int .i64 e]) ∧ SlR intR 0 w' v l ∧ Below w.heap.size w w'
theorem One_all (seed : List UInt8) (s c k : Int) (w : World) (h32 : seed.length = 32) (hs : ¬ (60 < s ∧ s ≤ 1000)) (hci : inI c) (hit : ItoaOk w c) :
    Calls Tryd.prog 7 #[.agg (keyA seed), .int .i64 s, .int .i64 c, .int .i64 k] w (RetI (oneL seed s c k) (oneE seed s c k) w) := by
  by_cases h : OneOk s c k
  · have hk := h
    unfold OneOk at hk
    obtain ⟨S, rfl⟩ : ∃ S : Nat, s = S := ⟨s.toNat, by omega⟩
    obtain ⟨K, rfl⟩ : ∃ K : Nat, k = K := ⟨k.toNat, by omega⟩
    refine (One_any seed S K c w h32 (by omega) (by omega) (by omega) (by omega) (by omega) (by omega) hci hit).mono ?_
    rintro e w' ⟨v, rfl, hv, hb⟩
    refine ⟨v, ?_, ?_, hb⟩
    · unfold oneE; rw [if_pos h, Int.toNat_natCast]
    · unfold oneL; rw [if_pos h, Int.toNat_natCast, Int.toNat_natCast]
      cases e : oneO seed S c with
      | none => rw [e] at hv; rw [show v = .slice none 0 0 from hv]; exact SlR.nil _ _
      | some l => rw [e] at hv; exact hv
  · refine (One_bad (keyA seed) s c k w h).mono ?_
    rintro e w' ⟨rfl, hb⟩
    refine ⟨.slice none 0 0, ?_, ?_, hb⟩
    · unfold oneE; rw [if_neg h]
    · unfold oneL; rw [if_neg h]; exact SlR.nil _ _
theorem Oner_all (seed : List UInt8) (s c k : Int) (w : World) (h32 : seed.length = 32) (hs : ¬ (60 < s ∧ s ≤ 1000)) (hci : inI c)  :
    Calls Tryd.prog 8 #[.agg (keyA seed), .int .i64 s, .int .i64 c, .int .i64 k] w (RetI (oneL seed s c k) (oneE seed s c k) w) := by
  by_cases h : OneOk s c k
  · have hk := h
    unfold OneOk at hk
    obtain ⟨S, rfl⟩ : ∃ S : Nat, s = S := ⟨s.toNat, by omega⟩
    obtain ⟨K, rfl⟩ : ∃ K : Nat, k = K := ⟨k.toNat, by omega⟩
    refine (Oner_any seed S K c w h32 (by omega) (by omega) (by omega) (by omega) (by omega) (by omega) hci (by omega)).mono ?_
    rintro e w' ⟨v, rfl, hv, hb⟩
    refine ⟨v, ?_, ?_, hb⟩
    · unfold oneE; rw [if_pos h, Int.toNat_natCast]
    · unfold oneL; rw [if_pos h, Int.toNat_natCast, Int.toNat_natCast]
      cases e : oneO seed S c with
      | none => rw [e] at hv; rw [show v = .slice none 0 0 from hv]; exact SlR.nil _ _
      | some l => rw [e] at hv; exact hv
  · refine (Oner_bad (keyA seed) s c k w h).mono ?_
    rintro e w' ⟨rfl, hb⟩
    refine ⟨.slice none 0 0, ?_, ?_, hb⟩
    · unfold oneE; rw [if_neg h]
    · unfold oneL; rw [if_neg h]; exact SlR.nil _ _
end Go.Proofs.YtmbgcjfmfkddpaaDoor
