/-
  The sum of parts: the reference.
-/
import Derived.Test.YteialfdhbfbkgaaRef2
namespace Go.Proofs.Yteialfdhbfbkgaa
set_option linter.unusedVariables false
set_option linter.unusedSimpArgs false
open Go Go.RowKit

set_option maxRecDepth 100000 in
set_option maxHeartbeats 1000000 in
theorem Partsr_any (w : World) (v : Value) (ll : List (List UInt8)) (hv : SeesBB w v ll) (hl : (flatP ll).length ≤ 70368744177000) :
    Calls Try.prog 60 #[v] w fun e w' => e = .returned (.agg (keyA (parts ll))) ∧ Below w.heap.size w w' := by
  obtain ⟨vs, hvs, hel⟩ := hv
  obtain ⟨a0, c0, rfl, hac0, hc0⟩ := sees_form hvs
  have HE := Lib.hid hel; clear hel
  go_enter Try.func60, Try.ntmps60
  go_wp2_with fail
  go_loopw [4, 3] (fun i v wr => PartsRel w ll i v wr) (fun i _ _ => ll.length - (intOf i).toNat)
  case atStart => exact ⟨0, by omega, rfl, Sees.nil _ _, ⟨_, Blk.new w _ _, rfl⟩, by go_grown⟩
  case round =>
    obtain ⟨k, hk, rfl, hb, ⟨z, hz, hzs⟩, hbel⟩ := hrel
    by_cases hlt : k < ll.length
    · obtain ⟨hl1, a1, c1, he1, hn1, hm1, hnc1, hcellx⟩ := hvs.below hbel (by decide)
      cases he1
      obtain ⟨b, o, rfl, hcell⟩ := hcellx (by omega)
      clear hcellx
      have hx : vs[k]? = some (vs[k]'(by omega)) := List.getElem?_eq_getElem _
      have hcx := hcell k _ hx
      have hsx := (HE.out k (ll[k]) _ (List.getElem?_eq_getElem hlt) hx).below hbel (by decide)
      clear hcell
      have HX := Lib.hid hx; clear hx
      generalize vs[k]'(by omega) = vx at hcx hsx
      obtain ⟨ax, cx, rfl, hacx, hcx2⟩ := sees_form hsx
      have hsn : flatP (ll.take (k + 1)) = flatP (ll.take k) ++ put64 (ll[k]).length ++ ll[k] := by
        rw [List.take_succ_eq_append_getElem hlt, flatP_snoc]
      have hle := flatP_take_le ll (k + 1)
      rw [hsn] at hle; simp only [List.length_append, length_put64] at hle
      have HSN := Lib.hid hsn; clear hsn
      have hS : ∀ e : InC (fun u => u.cell? ⟨b, o + k, none⟩ = some (.slice ax ll[k].length cx)), e.u.cell? ⟨b, o + k, none⟩ = some (.slice ax ll[k].length cx) := fun e => e.has
      go_wp2_with fail
      try change Code.wp _ _ _ (Act.mk _ _) _
      haveI hne_ : Nonempty (InC (fun u => u.cell? ⟨b, o + k, none⟩ = some (.slice ax ll[k].length cx))) := ⟨⟨_, hcx⟩⟩
      refine wp_region_ph (C := fun w_ => ∃ e_ : InC (fun u => u.cell? ⟨b, o + k, none⟩ = some (.slice ax ll[k].length cx)), w_ = e_.u) [([0, 1, 2, 3, 4, 5, 6, 8, 9, 10, 11], 7), ([], 12)] [13] (by kernel_rfl) (by kernel_rfl) (fun _ _ _ _ hd_ h_ => ⟨hd_.symm.trans h_.1, h_.2⟩) ⟨⟨World.drew _, hcx⟩, rfl⟩ ?_
      first | refine wpPh_cons ?_ | refine wpPh_nil ?_
      simp only [pickOps, List.flatMap_cons, List.flatMap_nil, List.drop_succ_cons, List.drop_zero, List.take_succ_cons, List.take_zero, List.cons_append, List.nil_append, List.append_nil]
      iterate 11 (go_big_quiet_step (exact rfl))
      refine wpQuiet_nil ?_
      go_wp2_with (go_at_call 71; refine (Put64r_any _ _ (flatP (ll.take k)) _ hb.drew (by omega) (by omega) (by omega)).mono ?_; rintro e w5 ⟨v6, rfl, hown6, hb6⟩)
      refine phPost_normal ⟨⟨⟨_, (hb6.cell (World.block_lt_of_cell? wr _ hcx)).trans hcx⟩, rfl⟩, ?_⟩
      first | refine wpPh_cons ?_ | refine wpPh_nil ?_
      simp only [pickOps, List.flatMap_cons, List.flatMap_nil, List.drop_succ_cons, List.drop_zero, List.take_succ_cons, List.take_zero, List.cons_append, List.nil_append, List.append_nil]
      refine wpQuiet_nil ?_
      go_wp2_with (at_builtin; refine appB (W := wr.drew) rfl _ _ rfl v6 _ rfl hown6 _ (ll[k]) rfl (hsx.drew.below hb6 (by decide)) (by simp only [List.length_append, length_put64]; omega) hb6 ?_; intro v7 w7 hown7 hgr7 hb7)
      refine phPost_normal ⟨⟨⟨_, (hb7.cell (World.block_lt_of_cell? wr _ hcx)).trans hcx⟩, rfl⟩, ?_⟩
      first | refine wpPh_cons ?_ | refine wpPh_nil ?_
      simp only [pickOps, List.flatMap_cons, List.flatMap_nil, List.drop_succ_cons, List.drop_zero, List.take_succ_cons, List.take_zero, List.cons_append, List.nil_append, List.append_nil]
      iterate 1 (go_big_quiet_step (exact rfl))
      refine wpQuiet_nil ?_
      go_wp2_with fail
      have hbel7 := hbel.drew.trans (hb7.mono hbel.size)
      go_roundw
      case rel =>
        refine ⟨k + 1, by omega, by go_num, ?_, ⟨z, hz.drew.below hb7, hzs⟩, hbel7⟩
        rw [HSN.out]
        have := sees_of_owns hown7
        rwa [show ((ll[k].length : Int)).toNat = ll[k].length from by omega] at this
      case measure => simp [intOf]; omega
    · obtain rfl : k = ll.length := by omega
      rw [List.take_length] at hb
      go_wp2_with (first
        | (go_at_call 73; refine (Shar_any _ _ (flatP ll) hb hl).mono ?_; rintro e w5 ⟨rfl, hb5⟩; have hz5 := hz.below hb5)
        | (refine wpList_store_row rfl 23 _ _ rfl w.heap.size (keyA (sha (flatP ll))) _ _ rfl rfl hz5 (by rw [hzs, keyA_size, length_sha]) (by rw [keyA_size, length_sha]; exact info_key) (keyA_one _) ?_; intro w7 hg7 hs7 hR7))
      have hbel5 := hbel.trans (hb5.mono hbel.size)
      refine bodyPost_ret (results_cell_row Try.results60 _ _ w.heap.size _ _ (0, 0) _ rfl hR7 under_key rfl (by rw [keyA_size, length_sha]; exact info_key)) rfl ⟨rfl, hbel5.grown hg7 hbel5.size (fun k hk => ?_)⟩
      cases hk; exact Nat.le_refl _
end Go.Proofs.Yteialfdhbfbkgaa
