/-
  ChainsPart: walked.
-/
import Derived.Test.YtmbgcjfmfkddpaaDoorChl
namespace Go.Proofs.YtmbgcjfmfkddpaaDoor
set_option linter.unusedVariables false
set_option linter.unusedSimpArgs false
open Go Go.RowKit

set_option maxRecDepth 100000 in
set_option maxHeartbeats 8000000 in
theorem ChainsPart_any (seed : List UInt8) (s n k m : Int) (w : World) (h32 : seed.length = 32) :
    Calls Tryd.prog 5 #[.agg (keyA seed), .int .i64 s, .int .i64 n, .int .i64 k, .int .i64 m] w fun e w' => e = .returned (.bool true) ∧ Below w.heap.size w w' := by
  have HK := Lib.hid h32
  have hk0 := Lib.hid (Blk.new w (keyA seed) 23)
  have hb0 := Lib.hid (show Below w.heap.size w (w.alloc (.cells (keyA seed) 23)) by go_grown)
  by_cases hr : (1 ≤ s ∧ s ≤ 40) ∧ (1 ≤ n ∧ n ≤ 12) ∧ (1 ≤ k ∧ k ≤ 20 ∧ k ≤ s) ∧ 1 ≤ m ∧ m ≤ k
  · obtain ⟨⟨s1, s2⟩, ⟨n1, n2⟩, ⟨k1, k2, k3⟩, m1, m2⟩ := hr
    obtain ⟨N, rfl⟩ : ∃ N : Nat, n = N := ⟨n.toNat, by omega⟩
    obtain ⟨K, rfl⟩ : ∃ K : Nat, k = K := ⟨k.toNat, by omega⟩
    obtain ⟨M, rfl⟩ : ∃ M : Nat, m = M := ⟨m.toNat, by omega⟩
    have q1 : ¬ s < 1 := by omega
    have q2 : ¬ 40 < s := by omega
    have q3 : ¬ (N : Int) < 1 := by omega
    have q4 : ¬ (12 : Int) < N := by omega
    have q5 : ¬ (K : Int) < 1 := by omega
    have q6 : ¬ (20 : Int) < K := by omega
    have q7 : ¬ s < (K : Int) := by omega
    have q8 : ¬ (M : Int) < 1 := by omega
    have q9 : ¬ (K : Int) < M := by omega
    have HP := Lib.hid fun (u : World) => Form_any seed s N K u h32 (by omega) (by omega)
    have HO := Lib.hid fun (u : World) (c : Nat) (hc : c < N) => One_all seed s c M u h32 (by omega) ⟨by omega, by omega⟩ (itoa_small u c (by omega) (by omega))
    have HFS : formS seed s N K = formF seed s K N := by unfold formS; rw [if_pos (by omega), Int.toNat_natCast]
    rw [HFS] at HP
    clear HFS
    unfold RetII at HP
    unfold RetI at HO
    have HOK := Lib.hid fun (c : Nat) => (show OneOk s c K from by unfold OneOk; omega)
    have HLS := Lib.hid fun (c : Nat) (h : oneE seed s c K = 0) => (show oneE seed s c M = 0 ∧ (oneL seed s c K).length = K ∧ oneL seed s c M = (oneL seed s c K).take M from by
      have h1 := oneE_less (seed := seed) (c := (c : Int)) (m := (M : Int)) (HOK.out c) (by omega) (by omega)
      have h2 := oneL_less (seed := seed) (c := (c : Int)) (m := (M : Int)) (HOK.out c) (by omega) (by omega)
      exact ⟨h1.trans h, by rw [(oneL_len h).2, Int.toNat_natCast], by rw [h2, Int.toNat_natCast]⟩)
    have HFL := Lib.hid fun (ls : List (List Int)) (h : formF seed s K N = (ls, 0)) => formF_len h
    have HFN := Lib.hid fun (h : (formF seed s K N).2 ≠ 0) => (show (formF seed s K N).2 = 9 from by
      obtain ⟨-, c, -, e⟩ := formF_nil h
      rw [e]; rw [e] at h; exact oneE_nine (HOK.out c) h)
    clear h32 HOK
    generalize formF seed s K N = FS at *
    obtain ⟨ls, E⟩ := FS
    by_cases hE : E = 0
    · subst hE
      obtain ⟨hl, hat⟩ := HFL.out ls rfl
      have HLN := Lib.hid hl; have HAT := Lib.hid hat
      clear hl hat HFL HFN
      go_enter Tryd.func5, Tryd.ntmps5
      go_wp2_with (first
        | (go_at_call 6; refine (alive14_any _).mono ?_; rintro e w1 ⟨rfl, hb1⟩; have hkey1 := hk0.out.below hb1; have e1 : Ext w w1 := hb0.out.trans (hb1.mono hb0.out.size); clear hb1)
        | (refine wpList_load_row rfl 23 _ rfl w.heap.size rfl _ (keyA seed) (0, 0) _ hkey1 under_key rfl (by rw [keyA_size, HK.out]; exact info_key) ?_)
        | (go_at_call 11; refine (HP.out _).mono ?_; rintro e w2 ⟨v2, rfl, hv2, hb2⟩; obtain ⟨a2, c2, rfl, -, -⟩ := hv2.form; have e2 : Ext w w2 := Ext.tr e1 hb2; have hkey2 := hkey1.below hb2; have HV2 := Lib.hid hv2; clear hv2 hb2 hkey1; rw [HLN.out] at HV2 ⊢)
        | (go_at_call 10; refine (num14_any _ _).mono ?_; rintro e w5 ⟨rfl, rfl⟩))
      go_loopw [14, 15, 16] (fun iv _ _ wr => ∃ i : Nat, iv = .int .i64 i ∧ i ≤ N ∧ Ext w wr ∧ Ext w2 wr) (fun iv _ _ _ => N - (intOf iv).toNat)
      case atStart => exact ⟨0, rfl, Nat.zero_le _, e2, Ext.refl _⟩
      case round =>
        obtain ⟨i, rfl, hi, hX, hX2⟩ := hrel
        have HX := Lib.hid hX; have HX2 := Lib.hid hX2
        clear hX hX2
        by_cases hlt : i < N
        · obtain ⟨hz, hli⟩ := HAT.out i hlt
          obtain ⟨h3, h4, h5⟩ := HLS.out i hz
          have hoa := HO.out
          have HOA := Lib.hid fun (u : World) => HO.out u i hlt
          rw [h3, h5] at HOA
          clear hoa h3 h5 hz
          generalize oneL seed s i K = L at *
          subst h4
          obtain ⟨b, o, c', e0, -, -⟩ := HV2.out.sl.open (by rw [HLN.out]; omega)
          obtain ⟨rfl, rfl⟩ : a2 = some ⟨b, o, none⟩ ∧ c2 = c' := by injection e0 with e0 _ e9; exact ⟨e0, e9⟩
          clear e0
          have hkb := hkey2.below HX2.out
          obtain ⟨v5, hc5, hs5⟩ := slL_atI HV2.out.sl i L hli
          obtain ⟨a5, c5, rfl, hc5a, hc5b⟩ := hs5.form
          have HC5 := Lib.hid hc5; have HS5 := Lib.hid hs5
          clear hc5 hs5 hli
          have HML := Lib.hid (show (L.take M).length = M from by rw [List.length_take]; omega)
          have hml : M ≤ L.length := by omega
          go_wp2_with (first
            | (refine wpList_load_row rfl 23 _ rfl w.heap.size rfl _ (keyA seed) (0, 0) _ hkb under_key rfl (by rw [keyA_size, HK.out]; exact info_key) ?_)
            | (go_at_call 7; refine (HOA.out _).mono ?_; rintro e w6 ⟨v6, rfl, hv6, hb6⟩; obtain ⟨a6, c6, rfl, -, -⟩ := hv6.form; have e6 : Ext wr w6 := hb6; have HV6 := Lib.hid (show SlR intR 0 w6 (.slice a6 M c6) (L.take M) from by have h := hv6; rw [HML.out] at h; exact h); have hc6 := (Below.cell (Ext.tr HX2.out e6) (World.block_lt_of_cell? _ _ HC5.out)).trans HC5.out; clear hv6 hb6)
            | (go_at_call 10; refine (num14_any _ _).mono ?_; rintro e w7 ⟨rfl, rfl⟩)
            | (go_at_call 9; refine (SameRefl_any (L.take M) 0 _ _ _ HV6.out ((HS5.out.ext (Ext.tr HX2.out e6)).take M c5 hml (by omega) (Nat.le_refl _)) (by have := HML.out; omega)).mono ?_; rintro e w8 ⟨rfl, hb8⟩; have e8 : Ext wr w8 := Ext.tr e6 hb8))
          go_roundw
          case rel => exact ⟨i + 1, rfl, by omega, Ext.tr HX.out e8, Ext.tr HX2.out e8⟩
          case measure => (simp [intOf] <;> omega)
        · obtain rfl : N = i := by omega
          go_wp2_with fail
          go_ret
          exact ⟨rfl, HX.out⟩
    · have h9 : E = 9 := HFN.out hE
      subst h9
      clear HFL HFN HLS HO
      go_enter Tryd.func5, Tryd.ntmps5
      go_wp2_with (first
        | (go_at_call 6; refine (alive14_any _).mono ?_; rintro e w1 ⟨rfl, hb1⟩; have hkey1 := hk0.out.below hb1; have e1 : Ext w w1 := hb0.out.trans (hb1.mono hb0.out.size); clear hb1)
        | (refine wpList_load_row rfl 23 _ rfl w.heap.size rfl _ (keyA seed) (0, 0) _ hkey1 under_key rfl (by rw [keyA_size, HK.out]; exact info_key) ?_)
        | (go_at_call 11; refine (HP.out _).mono ?_; rintro e w2 ⟨v2, rfl, -, hb2⟩; have e2 : Ext w w2 := Ext.tr e1 hb2)
        | (go_at_call 10; refine (num14_any _ _).mono ?_; rintro e w5 ⟨rfl, rfl⟩))
      go_ret
      exact ⟨rfl, e2⟩
  · have HR := Lib.hid hr
    clear hr
    have HQ := Lib.hid h32
    clear h32
    go_enter Tryd.func5, Tryd.ntmps5
    go_wp2_with (go_at_call 6; refine (alive14_any _).mono ?_; rintro e w1 ⟨rfl, hb1⟩; have e1 : Ext w w1 := hb0.out.trans (hb1.mono hb0.out.size); clear hb1)
    all_goals (first | (exfalso; have := HR.out; omega) | (go_ret; exact ⟨rfl, e1⟩))
end Go.Proofs.YtmbgcjfmfkddpaaDoor
