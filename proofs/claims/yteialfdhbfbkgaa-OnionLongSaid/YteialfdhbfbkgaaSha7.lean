/-
  The sum of parts: the first program.
-/
import Derived.Test.YteialfdhbfbkgaaSha6
namespace Go.Proofs.Yteialfdhbfbkgaa
set_option linter.unusedVariables false
set_option linter.unusedSimpArgs false
open Go Go.RowKit

def PartsRel (w : World) (ll : List (List UInt8)) (i v : Value) (wr : World) : Prop :=
  ∃ k : Nat, k ≤ ll.length ∧ i = .int .i64 k ∧ SeesB wr v (flatP (ll.take k)) ∧ (∃ z, Blk wr w.heap.size z 23 ∧ z.size = 32) ∧ Below w.heap.size w wr

set_option maxRecDepth 100000 in
set_option maxHeartbeats 1000000 in
theorem Parts_any (w : World) (v : Value) (ll : List (List UInt8)) (hv : SeesBB w v ll) (hl : (flatP ll).length ≤ 70368744177000) :
    Calls Try.prog 57 #[v] w fun e w' => e = .returned (.agg (keyA (parts ll))) ∧ Below w.heap.size w w' := by
  have HV := Lib.hid hv
  obtain ⟨vs, hvs, hel⟩ := hv
  obtain ⟨a0, c0, rfl, hac0, hc0⟩ := sees_form hvs
  have HE := Lib.hid hel; clear hel
  go_enter Try.func57, Try.ntmps57
  go_wp2_with fail
  go_loopw [8, 3] (fun i v wr => PartsRel w ll i v wr) (fun i _ _ => ll.length - (intOf i).toNat)
  case atStart => exact ⟨0, by omega, rfl, Sees.nil _ _, ⟨_, Blk.new w _ _, rfl⟩, by go_grown⟩
  case round =>
    obtain ⟨k, hk, rfl, hb, ⟨z, hz, hzs⟩, hbel⟩ := hrel
    by_cases hlt : k < ll.length
    · obtain ⟨hl1, a1, c1, he1, hn1, hm1, hnc1, hcellx⟩ := hvs.below hbel (by decide)
      cases he1
      obtain ⟨b, o, rfl, hcell⟩ := hcellx (by omega)
      clear hcellx
      have hx : vs[k]? = some (vs[k]'(by omega)) := List.getElem?_eq_getElem _
      have hcx := hcell k _ hx
      have hsx := (HE.out k (ll[k]) _ (List.getElem?_eq_getElem hlt) hx).below hbel (by decide)
      clear hcell
      have HX := Lib.hid hx; clear hx
      generalize vs[k]'(by omega) = vx at hcx hsx
      obtain ⟨ax, cx, rfl, hacx, hcx2⟩ := sees_form hsx
      have hsn : flatP (ll.take (k + 1)) = flatP (ll.take k) ++ put64 (ll[k]).length ++ ll[k] := by
        rw [List.take_succ_eq_append_getElem hlt, flatP_snoc]
      have hle := flatP_take_le ll (k + 1)
      rw [hsn] at hle; simp only [List.length_append, length_put64] at hle
      have HSN := Lib.hid hsn; clear hsn
      go_wp2_with (first
        | (go_at_call 66; refine (Put64_any _ _ (flatP (ll.take k)) _ hb (by omega) (by omega) (by omega)).mono ?_; rintro e w5 ⟨v6, rfl, hown6, hb6⟩)
        | (at_builtin; refine appB (W := wr) rfl _ _ rfl v6 _ rfl hown6 _ (ll[k]) rfl (hsx.below hb6 (by decide)) (by simp only [List.length_append, length_put64]; omega) hb6 ?_; intro v7 w7 hown7 hgr7 hb7))
      go_roundw
      case rel =>
        refine ⟨k + 1, by omega, by go_num, ?_, ⟨z, hz.below hb7, hzs⟩, hbel.trans (hb7.mono hbel.size)⟩
        rw [HSN.out]
        have := sees_of_owns hown7
        rwa [show ((ll[k].length : Int)).toNat = ll[k].length from by omega] at this
      case measure => simp [intOf]; omega
    · obtain rfl : k = ll.length := by omega
      rw [List.take_length] at hb
      go_wp2_with (first
        | (go_at_call 72; refine (Sum_any _ _ (flatP ll) hb hl).mono ?_; rintro e w5 ⟨rfl, hb5⟩; have hz5 := hz.below hb5)
        | (refine wpList_store_row rfl 23 _ _ rfl w.heap.size (keyA (sha (flatP ll))) _ _ rfl rfl hz5 (by rw [hzs, keyA_size, length_sha]) (by rw [keyA_size, length_sha]; exact info_key) (keyA_one _) ?_; intro w7 hg7 hs7 hR7))
      have hbel5 := hbel.trans (hb5.mono hbel.size)
      refine bodyPost_ret (results_cell_row Try.results57 _ _ w.heap.size _ _ (0, 0) _ rfl hR7 under_key rfl (by rw [keyA_size, length_sha]; exact info_key)) rfl ⟨rfl, hbel5.grown hg7 hbel5.size (fun k hk => ?_)⟩
      cases hk; exact Nat.le_refl _
end Go.Proofs.Yteialfdhbfbkgaa
