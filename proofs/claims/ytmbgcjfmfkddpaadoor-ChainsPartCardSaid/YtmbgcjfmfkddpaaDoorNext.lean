/-
  A number below another one, drawn: both programs.
-/
import Derived.Test.YtmbgcjfmfkddpaaDoorBeac
import Derived.Test.YtmbgcjfmfkddpaaDoorRem
namespace Go.Proofs.YtmbgcjfmfkddpaaDoor
set_option linter.unusedVariables false
set_option linter.unusedSimpArgs false
open Go Go.RowKit

/-- The number that is drawn with at most so many words from word i on, and the word behind. -/
def nextN (seed name : List UInt8) (n : Nat) : Nat → Int → Option Int × Int
  | 0, i => (none, i)
  | f + 1, i => if wordN seed name i ≤ 18446744073709551615 - (18446744073709551616 % (n : Int)) then (some (wordN seed name i % (n : Int)), i + 1) else nextN seed name n f (i + 1)
theorem nextN_le (seed name : List UInt8) (n : Nat) : ∀ (f : Nat) (i : Int), i ≤ (nextN seed name n f i).2 ∧ (nextN seed name n f i).2 ≤ i + f
  | 0, i => by unfold nextN; simp
  | f + 1, i => by
    unfold nextN
    split
    · simp; omega
    · have := nextN_le seed name n f (i + 1); omega
theorem nextN_lt (seed name : List UInt8) (n : Nat) (hn : 0 < n) : ∀ (f : Nat) (i : Int) (x : Int), (nextN seed name n f i).1 = some x → 0 ≤ x ∧ x < n
  | 0, i, x, h => by unfold nextN at h; cases h
  | f + 1, i, x, h => by
    unfold nextN at h
    split at h
    · cases h; exact ⟨Int.emod_nonneg _ (by omega), Int.emod_lt_of_pos _ (by omega)⟩
    · exact nextN_lt seed name n hn f (i + 1) x h
theorem flip60 : ∀ R : Int, 0 ≤ R → R < 60 → bits BinOp.xor IntKind.u64 (if IntKind.u64.signed = true then -1 else IntKind.u64.max) R = 18446744073709551615 - R := by
  intro R h0 h1
  have h : ∀ r : Fin 60, bits BinOp.xor IntKind.u64 (if IntKind.u64.signed = true then -1 else IntKind.u64.max) ((r.val : Nat) : Int) = 18446744073709551615 - ((r.val : Nat) : Int) := by decide
  have := h ⟨R.toNat, by omega⟩
  rwa [show ((R.toNat : Nat) : Int) = R from by omega] at this
theorem lim60 (n : Nat) (h2 : 2 ≤ n) (h60 : n ≤ 60) : IntKind.u64.wrap (18446744073709551615 - (IntKind.u64.wrap (18446744073709551615 % (n : Int) + 1)).tmod (n : Int)) = 18446744073709551615 - 18446744073709551616 % (n : Int) := by
  have h : ∀ r : Fin 61, 2 ≤ r.val → IntKind.u64.wrap (18446744073709551615 - (IntKind.u64.wrap (18446744073709551615 % ((r.val : Nat) : Int) + 1)).tmod ((r.val : Nat) : Int)) = 18446744073709551615 - 18446744073709551616 % ((r.val : Nat) : Int) := by decide
  exact h ⟨n, by omega⟩ h2
def errN (o : Option Int) : Int := match o with | some _ => 0 | none => 9
def NxRel (S : World → Int → Prop) (w : World) (g : Nat) (seed name : List UInt8) (n : Nat) (i0 : Int) (iv : Value) (wr : World) : Prop :=
  ∃ k : Nat, k ≤ 64 ∧ iv = .int .i64 k ∧ Hid (nextN seed name n 64 i0 = nextN seed name n (64 - k) (i0 + k)) ∧ S wr (i0 + k) ∧ w.grownBy wr (some g)
set_option maxRecDepth 100000 in
set_option maxHeartbeats 1000000 in
theorem BNext_any (g : Nat) (seed name : List UInt8) (i : Int) (n : Nat) (w : World) (hB : BB g seed name i w) (h32 : seed.length = 32) (hn : name.length ≤ 10000) (hi0 : 0 ≤ i) (hi : i ≤ 900000000) (h2 : 2 ≤ n) (h60 : n ≤ 60) :
    Calls Tryd.prog 20 #[.pointer (some ⟨g, 0, none⟩), .int .u64 (n : Int)] w fun e w' => e = .returned (.tuple #[.int .u64 ((nextN seed name n 64 i).1.getD 0), .int .i64 (errN (nextN seed name n 64 i).1)]) ∧ BB g seed name (nextN seed name n 64 i).2 w' ∧ w.grownBy w' (some g) := by
  have hz : ((n : Int) == 0) = false := beq_eq_false_iff_ne.2 (by omega)
  have hre := Rem64_small n h2 h60 w
  rw [show ((18446744073709551616 % n : Nat) : Int) = 18446744073709551616 % (n : Int) from by rw [Int.natCast_emod]; rfl] at hre
  obtain ⟨R, hR⟩ : ∃ R : Int, 18446744073709551616 % (n : Int) = R := ⟨_, rfl⟩
  have hR0 : 0 ≤ R := by rw [← hR]; exact Int.emod_nonneg _ (by omega)
  have hRn : R < n := by rw [← hR]; exact Int.emod_lt_of_pos _ (by omega)
  rw [hR] at hre
  have HRE := Lib.hid hre
  clear hre
  have HR := Lib.hid hR
  obtain ⟨D, hD⟩ : ∃ D, nextN seed name n 64 i = D := ⟨_, rfl⟩
  have HD := Lib.hid hD
  have HB := Lib.hid hB
  rw [hD]
  clear hD hB
  clear hR
  have hXR := Lib.hid (show bits BinOp.xor IntKind.u64 (if IntKind.u64.signed = true then -1 else IntKind.u64.max) R = 18446744073709551615 - R from (flip60 R hR0 (by omega)))
  go_enter Tryd.func20, Tryd.ntmps20
  go_wp2_with (go_at_call 23; refine HRE.out.mono ?_; rintro e w' ⟨rfl, rfl⟩)
  go_loopw [7, 12] (fun _ iv wr => NxRel (fun u j => BB g seed name j u) w g seed name n i iv wr) (fun _ iv _ => 64 - (intOf iv).toNat)
  case atStart => exact ⟨0, by omega, rfl, Lib.hid (by simp), by simpa using HB.out, ⟨rfl, rfl, rfl, Nat.le_refl _, fun _ _ _ => rfl⟩⟩
  case round =>
    obtain ⟨k, hk, rfl, hN, hS, hg⟩ := hrel
    by_cases hlt : k < 64
    · obtain ⟨f, hf⟩ : ∃ f, 64 - k = f + 1 := ⟨63 - k, by omega⟩
      have hN2 := HD.out.symm.trans hN.out
      rw [hf, nextN, HR.out] at hN2
      have HW := Lib.hid (BWord_any g seed name (i + k) wr hS h32 hn (by omega) (by omega))
      obtain ⟨z0, z1⟩ := wordN_in seed name (i + k)
      generalize wordN seed name (i + k) = X at *
      by_cases hc : X ≤ 18446744073709551615 - R
      · rw [if_pos hc] at hN2
        subst hN2
        clear hN
        have hcx : X ≤ bits BinOp.xor IntKind.u64 (if IntKind.u64.signed = true then -1 else IntKind.u64.max) R := by rw [hXR.out]; exact hc
        go_wp2_with (go_at_call 24; refine HW.out.mono ?_; rintro e x1 ⟨rfl, hs1, hg1⟩)
        go_ret2
        exact ⟨rfl, hs1, grownBy_tr hg hg1⟩
      · rw [if_neg hc] at hN2
        have HN2 := Lib.hid ((HD.out.trans hN2).trans (show _ = nextN seed name n (64 - (k + 1)) (i + ((k + 1 : Nat) : Int)) by rw [show 64 - (k + 1) = f from by omega, show i + ((k + 1 : Nat) : Int) = i + (k : Int) + 1 from by omega]))
        clear hN hN2
        have hcx : ¬ X ≤ bits BinOp.xor IntKind.u64 (if IntKind.u64.signed = true then -1 else IntKind.u64.max) R := by rw [hXR.out]; exact hc
        go_wp2_with (go_at_call 24; refine HW.out.mono ?_; rintro e x1 ⟨rfl, hs1, hg1⟩)
        go_roundw
        case rel => exact ⟨k + 1, by omega, by go_num, HN2, by rw [show i + ((k + 1 : Nat) : Int) = i + (k : Int) + 1 from by omega]; exact hs1, grownBy_tr hg hg1⟩
        case measure => simp [intOf]; omega
    · obtain rfl : k = 64 := by omega
      have hN2 := HD.out.symm.trans hN.out
      rw [show 64 - 64 = 0 from rfl, nextN] at hN2
      subst hN2
      go_wp2_with fail
      go_ret2
      exact ⟨rfl, hS, hg⟩
set_option maxRecDepth 100000 in
set_option maxHeartbeats 1000000 in
theorem RNext_any (g : Nat) (seed name : List UInt8) (i : Int) (n : Nat) (w : World) (hB : StrB g seed name i w) (h32 : seed.length = 32) (hn : name.length ≤ 10000) (hi0 : 0 ≤ i) (hi : i ≤ 900000000) (h2 : 2 ≤ n) (h60 : n ≤ 60) :
    Calls Tryd.prog 22 #[.pointer (some ⟨g, 0, none⟩), .int .u64 (n : Int)] w fun e w' => e = .returned (.tuple #[.int .u64 ((nextN seed name n 64 i).1.getD 0), .int .i64 (errN (nextN seed name n 64 i).1)]) ∧ StrB g seed name (nextN seed name n 64 i).2 w' ∧ w.grownBy w' (some g) := by
  have hz : ((n : Int) == 0) = false := beq_eq_false_iff_ne.2 (by omega)
  have hre := Rem64_small n h2 h60 w
  rw [show ((18446744073709551616 % n : Nat) : Int) = 18446744073709551616 % (n : Int) from by rw [Int.natCast_emod]; rfl] at hre
  obtain ⟨R, hR⟩ : ∃ R : Int, 18446744073709551616 % (n : Int) = R := ⟨_, rfl⟩
  have hR0 : 0 ≤ R := by rw [← hR]; exact Int.emod_nonneg _ (by omega)
  have hRn : R < n := by rw [← hR]; exact Int.emod_lt_of_pos _ (by omega)
  rw [hR] at hre
  have HRE := Lib.hid hre
  clear hre
  have HR := Lib.hid hR
  obtain ⟨D, hD⟩ : ∃ D, nextN seed name n 64 i = D := ⟨_, rfl⟩
  have HD := Lib.hid hD
  have HB := Lib.hid hB
  rw [hD]
  clear hD hB
  clear hR
  have hXR := Lib.hid (show IntKind.u64.wrap (18446744073709551615 - (IntKind.u64.wrap (18446744073709551615 % (n : Int) + 1)).tmod (n : Int)) = 18446744073709551615 - R from (by rw [← HR.out]; exact lim60 n h2 h60))
  go_enter Tryd.func22, Tryd.ntmps22
  go_wp2_with fail
  go_loopw [8, 9] (fun iv _ wr => NxRel (fun u j => StrB g seed name j u) w g seed name n i iv wr) (fun iv _ _ => 64 - (intOf iv).toNat)
  case atStart => exact ⟨0, by omega, rfl, Lib.hid (by simp), by simpa using HB.out, ⟨rfl, rfl, rfl, Nat.le_refl _, fun _ _ _ => rfl⟩⟩
  case round =>
    obtain ⟨k, hk, rfl, hN, hS, hg⟩ := hrel
    by_cases hlt : k < 64
    · obtain ⟨f, hf⟩ : ∃ f, 64 - k = f + 1 := ⟨63 - k, by omega⟩
      have hN2 := HD.out.symm.trans hN.out
      rw [hf, nextN, HR.out] at hN2
      have HW := Lib.hid (Wordr_any g seed name (i + k) wr hS h32 hn (by omega) (by omega))
      obtain ⟨z0, z1⟩ := wordN_in seed name (i + k)
      generalize wordN seed name (i + k) = X at *
      by_cases hc : X ≤ 18446744073709551615 - R
      · rw [if_pos hc] at hN2
        subst hN2
        clear hN
        have hcx : X ≤ IntKind.u64.wrap (18446744073709551615 - (IntKind.u64.wrap (18446744073709551615 % (n : Int) + 1)).tmod (n : Int)) := by rw [hXR.out]; exact hc
        go_wp2_with (go_at_call 26; refine HW.out.mono ?_; rintro e x1 ⟨rfl, hs1, hg1⟩)
        go_ret2
        exact ⟨rfl, hs1, grownBy_tr hg hg1⟩
      · rw [if_neg hc] at hN2
        have HN2 := Lib.hid ((HD.out.trans hN2).trans (show _ = nextN seed name n (64 - (k + 1)) (i + ((k + 1 : Nat) : Int)) by rw [show 64 - (k + 1) = f from by omega, show i + ((k + 1 : Nat) : Int) = i + (k : Int) + 1 from by omega]))
        clear hN hN2
        have hcx : ¬ X ≤ IntKind.u64.wrap (18446744073709551615 - (IntKind.u64.wrap (18446744073709551615 % (n : Int) + 1)).tmod (n : Int)) := by rw [hXR.out]; exact hc
        go_wp2_with (go_at_call 26; refine HW.out.mono ?_; rintro e x1 ⟨rfl, hs1, hg1⟩)
        go_roundw
        case rel => exact ⟨k + 1, by omega, by go_num, HN2, by rw [show i + ((k + 1 : Nat) : Int) = i + (k : Int) + 1 from by omega]; exact hs1, grownBy_tr hg hg1⟩
        case measure => simp [intOf]; omega
    · obtain rfl : k = 64 := by omega
      have hN2 := HD.out.symm.trans hN.out
      rw [show 64 - 64 = 0 from rfl, nextN] at hN2
      subst hN2
      go_wp2_with fail
      go_ret2
      exact ⟨rfl, hS, hg⟩
end Go.Proofs.YtmbgcjfmfkddpaaDoor
