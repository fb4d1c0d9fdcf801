/-
  OnionWraps: walked.
-/
import Derived.Test.YteialfdhbfbkgaaWr2
namespace Go.Proofs.Yteialfdhbfbkgaa
set_option linter.unusedVariables false
set_option linter.unusedSimpArgs false
open Go Go.RowKit

set_option maxRecDepth 100000 in
set_option maxHeartbeats 2000000 in
theorem OnionWraps_any (seed : List UInt8) (k x : Int) (inside : List UInt8) (ls : List Pub) (v vl : Value) (w : World) (h32 : seed.length = 32) (hk : inI k) (hx : in64 x) (hv : SeesB w v inside) (hvl : SeesP w vl ls) (hol : ∀ p ∈ ls, p.ok) :
    Calls Try.prog 3 #[.agg (keyA seed), .int .i64 k, .int .u64 x, v, vl] w fun e w' => e = .returned (.bool true) ∧ Below w.heap.size w w' := by
  have HK := Lib.hid h32; clear h32
  have HKI := Lib.hid hk
  obtain ⟨a0, c0, rfl, hac0, hc0⟩ := sees_form hv
  obtain ⟨al, cl, rfl, hacl, hcl⟩ := sees_form hvl
  obtain ⟨k0, k1⟩ := hk
  have hk0 := Lib.hid (Blk.new w (keyA seed) 23)
  have hb0 := Lib.hid (show Below w.heap.size w (w.alloc (.cells (keyA seed) 23)) by go_grown)
  have HV := Lib.hid hv; clear hv
  have HVL := Lib.hid hvl; clear hvl
  by_cases hr : 1 ≤ k ∧ k ≤ 6
  · have HD := Lib.hid (decide_eq_true hr)
    by_cases hlen : inside.length ≤ 200 ∧ ls.length ≤ 8
    · obtain ⟨N, rfl⟩ : ∃ N : Nat, k = N := ⟨k.toNat, by omega⟩
      have hN : N ≤ 6 := by omega
      have hd : ¬ (200 : Int) < (inside.length : Int) := by omega
      have hd2 : ¬ (8 : Int) < (ls.length : Int) := by omega
      have hL := length_keysP seed 3 4 (N : Int).toNat
      rw [Int.toNat_natCast] at hL
      have hO : ∀ p ∈ keysP seed 3 4 (N : Int).toNat, p.ok := chainN_ok _ _ _
      have HR := fun w' => LChain_any seed N w' HK.out HKI.out
      unfold RetC at HR
      rw [Int.toNat_natCast] at HR hO
      generalize keysP seed 3 4 N = ps at *
      have hWA := fun (w' : World) (u i : Value) (h1 : SeesP w' u ps) (h2 : SeesB w' i inside) => Wrap_any ps x inside u i w' h1 hO hx h2 (by omega) (by omega)
      have hWB := fun (w' : World) (u i : Value) (h1 : SeesP w' u ps) (h2 : SeesB w' i inside) => Wrapr_any ps x inside u i w' h1 hO hx h2 (by omega) (by omega)
      have hWC := fun (w' : World) (u i : Value) (h1 : SeesP w' u ls) (h2 : SeesB w' i inside) => Wrap_any ls x inside u i w' h1 hol hx h2 (by omega) (by omega)
      have hWD := fun (w' : World) (u i : Value) (h1 : SeesP w' u ls) (h2 : SeesB w' i inside) => Wrapr_any ls x inside u i w' h1 hol hx h2 (by omega) (by omega)
      generalize timesP 37 x = tx at *
      generalize boxL ps x inside (-1) = bp at *
      generalize boxL ls x inside (-1) = bl at *
      have HA := Lib.hid hWA; have HB := Lib.hid hWB; have HC := Lib.hid hWC; have HDD := Lib.hid hWD; have HRR := Lib.hid HR
      have HIL := Lib.hid hlen.1
      clear hWA hWB hWC hWD HR hL hO
      go_enter Try.func3, Try.ntmps3
      go_wp2_with (first
        | (go_at_call 15; refine (alive18_any _).mono ?_; rintro e w1 ⟨rfl, hb1⟩; have hkey1 := hk0.out.below hb1; have hbel1 := hb0.out.trans (hb1.mono hb0.out.size))
        | (refine wpList_load_row rfl 23 _ rfl w.heap.size rfl _ (keyA seed) (0, 0) _ hkey1 under_key rfl (by rw [keyA_size, HK.out]; exact info_key) ?_)
        | (go_at_call 16; refine (HRR.out _).mono ?_; rintro e w2 ⟨v2, u2, rfl, hok2, hb2⟩; rw [HD.out]
           have hbel2 := hbel1.trans (hb2.mono hbel1.size)
           have hP2 : SeesP w2 u2 ps := sees_of_owns (hok2 hr).2
           obtain ⟨a2, c2, rfl, -, -⟩ := sees_form hP2
           clear hok2)
        | (at_builtin; refine appB (W := w) rfl _ _ rfl (.slice none 0 0) [] rfl (ownB_nil _ _) _ inside rfl (HV.out.below hbel2 (by decide)) (by rw [List.length_nil]; have := HIL.out; omega) hbel2 ?_; intro v3 w3 hown3 hg3 hbel3; rw [List.nil_append] at hown3
           have hb3 : Below w2.heap.size w2 w3 := ext_none hg3
           obtain ⟨a3, c3, rfl, -, -⟩ := owns_form hown3
           clear hg3)
        | (go_at_call 18; (with_reducible refine (HA.out w3 (.slice a2 ps.length c2) (.slice a3 inside.length c3) (hP2.below hb3 (by decide)) (sees_of_owns hown3)).mono ?_); rintro e w4 ⟨v4, rfl, hown4, hb4⟩; obtain ⟨a4, c4, rfl, -, -⟩ := owns_form hown4; have hbel4 := hbel3.trans (hb4.mono hbel3.size); have hP4 := (hP2.below hb3 (by decide)).below hb4 (by decide))
        | (go_at_call 19; (with_reducible refine (HB.out w4 (.slice a2 ps.length c2) (.slice a0 inside.length c0) hP4 (HV.out.below hbel4 (by decide))).mono ?_); rintro e w5 ⟨v5, rfl, hown5, hb5⟩; obtain ⟨a5, c5, rfl, -, -⟩ := owns_form hown5; have hbel5 := hbel4.trans (hb5.mono hbel4.size); have hE5 := (sees_of_owns hown4).below hb5 (by decide))
        | (go_at_call 17; (with_reducible refine (SameEntry_any tx bp (.slice a4 bp.length c4) (.slice a5 bp.length c5) w5 hE5 (sees_of_owns hown5)).mono ?_); rintro e w6 ⟨rfl, hb6⟩; have hbel6 := hbel5.trans (hb6.mono hbel5.size))
        | (go_at_call 18; (with_reducible refine (HC.out w6 (.slice al ls.length cl) (.slice a0 inside.length c0) (HVL.out.below hbel6 (by decide)) (HV.out.below hbel6 (by decide))).mono ?_); rintro e w7 ⟨v7, rfl, hown7, hb7⟩; obtain ⟨a7, c7, rfl, -, -⟩ := owns_form hown7; have hbel7 := hbel6.trans (hb7.mono hbel6.size))
        | (go_at_call 19; (with_reducible refine (HDD.out w7 (.slice al ls.length cl) (.slice a0 inside.length c0) (HVL.out.below hbel7 (by decide)) (HV.out.below hbel7 (by decide))).mono ?_); rintro e w8 ⟨v8, rfl, hown8, hb8⟩; obtain ⟨a8, c8, rfl, -, -⟩ := owns_form hown8; have hbel8 := hbel7.trans (hb8.mono hbel7.size); have hE8 := (sees_of_owns hown7).below hb8 (by decide))
        | (go_at_call 17; (with_reducible refine (SameEntry_any tx bl (.slice a7 bl.length c7) (.slice a8 bl.length c8) w8 hE8 (sees_of_owns hown8)).mono ?_); rintro e w9 ⟨rfl, hb9⟩; have hbel9 := hbel8.trans (hb9.mono hbel8.size)))
      go_ret
      exact ⟨rfl, hbel9⟩
    · by_cases h2 : inside.length ≤ 200
      · have hd : ¬ (200 : Int) < (inside.length : Int) := by omega
        have hd2 : (8 : Int) < (ls.length : Int) := by omega
        go_enter Try.func3, Try.ntmps3
        go_wp2_with (first
          | (go_at_call 15; refine (alive18_any _).mono ?_; rintro e w1 ⟨rfl, hb1⟩; have hkey1 := hk0.out.below hb1; have hbel1 := hb0.out.trans (hb1.mono hb0.out.size))
          | (refine wpList_load_row rfl 23 _ rfl w.heap.size rfl _ (keyA seed) (0, 0) _ hkey1 under_key rfl (by rw [keyA_size, HK.out]; exact info_key) ?_)
          | (go_at_call 16; refine (LChain_any seed k _ HK.out HKI.out).mono ?_; rintro e w2 ⟨v2, u2, rfl, hok2, hb2⟩; rw [HD.out]; have hbel2 := hbel1.trans (hb2.mono hbel1.size)))
        go_ret
        exact ⟨rfl, hbel2⟩
      · have hd : (200 : Int) < (inside.length : Int) := by omega
        go_enter Try.func3, Try.ntmps3
        go_wp2_with (first
          | (go_at_call 15; refine (alive18_any _).mono ?_; rintro e w1 ⟨rfl, hb1⟩; have hkey1 := hk0.out.below hb1; have hbel1 := hb0.out.trans (hb1.mono hb0.out.size))
          | (refine wpList_load_row rfl 23 _ rfl w.heap.size rfl _ (keyA seed) (0, 0) _ hkey1 under_key rfl (by rw [keyA_size, HK.out]; exact info_key) ?_)
          | (go_at_call 16; refine (LChain_any seed k _ HK.out HKI.out).mono ?_; rintro e w2 ⟨v2, u2, rfl, hok2, hb2⟩; rw [HD.out]; have hbel2 := hbel1.trans (hb2.mono hbel1.size)))
        go_ret
        exact ⟨rfl, hbel2⟩
  · have HD := Lib.hid (decide_eq_false hr)
    go_enter Try.func3, Try.ntmps3
    go_wp2_with (first
      | (go_at_call 15; refine (alive18_any _).mono ?_; rintro e w1 ⟨rfl, hb1⟩; have hkey1 := hk0.out.below hb1; have hbel1 := hb0.out.trans (hb1.mono hb0.out.size))
      | (refine wpList_load_row rfl 23 _ rfl w.heap.size rfl _ (keyA seed) (0, 0) _ hkey1 under_key rfl (by rw [keyA_size, HK.out]; exact info_key) ?_)
      | (go_at_call 16; refine (LChain_any seed k _ HK.out HKI.out).mono ?_; rintro e w2 ⟨v2, u2, rfl, hok2, hb2⟩; rw [HD.out]; have hbel2 := hbel1.trans (hb2.mono hbel1.size)))
    go_ret
    exact ⟨rfl, hbel2⟩
end Go.Proofs.Yteialfdhbfbkgaa
