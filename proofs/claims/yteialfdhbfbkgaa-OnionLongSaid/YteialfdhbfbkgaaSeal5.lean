/-
  Seal of both programs; Open of the reference.
-/
import Derived.Test.YteialfdhbfbkgaaSeal2
import Derived.Test.YteialfdhbfbkgaaSeal3
import Derived.Test.YteialfdhbfbkgaaSeal4
namespace Go.Proofs.Yteialfdhbfbkgaa
set_option linter.unusedVariables false
set_option linter.unusedSimpArgs false
open Go Go.RowKit

set_option maxRecDepth 100000 in
set_option maxHeartbeats 2000000 in
theorem Seal_any (key bs b : List UInt8) (vs v : Value) (w : World) (hk : key.length = 32) (hs : SeesB w vs bs) (hv : SeesB w v b) (hl1 : bs.length ≤ 20000000000000) (hl : b.length ≤ 20000000000000) :
    Calls Try.prog 77 #[.agg (keyA key), vs, v] w (RetB (sealL key bs b) w) := by
  have HK := Lib.hid hk
  obtain ⟨a0, c0, rfl, hac0, hc0⟩ := sees_form hv
  obtain ⟨a1, c1, rfl, hac1, hc1⟩ := sees_form hs
  have HE := Lib.hid (show sealL key bs b = turnL key b ++ tagL key bs (turnL key b) from rfl)
  have hTL := length_turnL key b
  generalize hT : turnL key b = T at *
  have HT := Lib.hid hT; clear hT
  have hGL := length_tagL key bs T
  generalize hG : tagL key bs T = G at *
  have HG := Lib.hid hG; clear hG
  have hk0 := Lib.hid (show KD w.heap.size key (w.alloc (.cells (keyA key) 23)) from Blk.new _ _ _)
  have hb0 := Lib.hid (show Below w.heap.size w (w.alloc (.cells (keyA key) 23)) by go_grown)
  have HTL := Lib.hid hTL; have HGL := Lib.hid hGL; clear hTL hGL hk
  go_enter Try.func77, Try.ntmps77
  go_wp2_with (first
    | (go_at_call 105; refine (turned_any key b _ _ HK.out (hv.below hb0.out (by decide)) (by omega)).mono ?_; rintro e x1 ⟨v1, rfl, hown1, hb1⟩; rw [HT.out] at hown1; obtain ⟨a3, c3, rfl, hc3, hc3'⟩ := owns_form hown1
       have hbel1 := hb0.out.trans (hb1.mono hb0.out.size)
       have hB1 := hk0.out.below hb1
       have hown1' := owns_mono hown1 hb0.out.size)
    | (go_at_call 106; refine (tagged_any key bs T _ _ _ HK.out (hs.below hbel1 (by decide)) (sees_of_owns hown1) hl1 (by rw [HTL.out]; omega)).mono ?_; rintro e x2 ⟨v2, rfl, hs2, ho2, hb2⟩; rw [HG.out] at hs2
       have hsee2 := hs2
       obtain ⟨a4, c4, rfl, hc4, hc4'⟩ := sees_form hsee2
       have hbel2 := hbel1.trans (hb2.mono hbel1.size)
       have hown2 := owns_below hown1' hb2)
    | (refine wpList_load_row rfl 23 _ rfl w.heap.size rfl _ _ (0, 0) _ hk0.out under_key rfl (by rw [keyA_size, HK.out]; exact info_key) ?_)
    | (refine wpList_load_row rfl 23 _ rfl w.heap.size rfl _ _ (0, 0) _ hB1 under_key rfl (by rw [keyA_size, HK.out]; exact info_key) ?_)
    | (at_builtin; refine appB (W := w) rfl _ _ rfl _ T rfl hown2 _ G rfl hsee2 (by rw [HTL.out, HGL.out]; omega) hbel2 ?_; intro v5 x5 hown5 hg5 hb5; rw [← HE.out] at hown5))
  go_ret
  exact RetB.mk hown5 hb5
set_option maxRecDepth 100000 in
set_option maxHeartbeats 2000000 in
theorem Sealr_any (key bs b : List UInt8) (vs v : Value) (w : World) (hk : key.length = 32) (hs : SeesB w vs bs) (hv : SeesB w v b) (hl1 : bs.length ≤ 20000000000000) (hl : b.length ≤ 20000000000000) :
    Calls Try.prog 80 #[.agg (keyA key), vs, v] w (RetB (sealL key bs b) w) := by
  have HK := Lib.hid hk
  obtain ⟨a0, c0, rfl, hac0, hc0⟩ := sees_form hv
  obtain ⟨a1, c1, rfl, hac1, hc1⟩ := sees_form hs
  have HE := Lib.hid (show sealL key bs b = turnL key b ++ tagL key bs (turnL key b) from rfl)
  have hTL := length_turnL key b
  generalize hT : turnL key b = T at *
  have HT := Lib.hid hT; clear hT
  have hGL := length_tagL key bs T
  generalize hG : tagL key bs T = G at *
  have HG := Lib.hid hG; clear hG
  have hk0 := Lib.hid (show KD w.heap.size key (w.alloc (.cells (keyA key) 23)) from Blk.new _ _ _)
  have hb0 := Lib.hid (show Below w.heap.size w (w.alloc (.cells (keyA key) 23)) by go_grown)
  have HTL := Lib.hid hTL; have HGL := Lib.hid hGL; clear hTL hGL hk
  go_enter Try.func80, Try.ntmps80
  go_wp2_with (first
    | (go_at_call 108; refine (stream_any key b _ _ HK.out (hv.below hb0.out (by decide)) (by omega)).mono ?_; rintro e x1 ⟨v1, rfl, hown1, hb1⟩; rw [HT.out] at hown1; obtain ⟨a3, c3, rfl, hc3, hc3'⟩ := owns_form hown1
       have hbel1 := hb0.out.trans (hb1.mono hb0.out.size)
       have hB1 := hk0.out.below hb1
       have hown1' := owns_mono hown1 hb0.out.size)
    | (go_at_call 109; refine (tag_any key bs T _ _ _ HK.out (hs.below hbel1 (by decide)) (sees_of_owns hown1) hl1 (by rw [HTL.out]; omega)).mono ?_; rintro e x2 ⟨v2, rfl, hs2, hb2⟩; rw [HG.out] at hs2
       have hsee2 := sees_of_owns hs2
       obtain ⟨a4, c4, rfl, hc4, hc4'⟩ := sees_form hsee2
       have hbel2 := hbel1.trans (hb2.mono hbel1.size)
       have hown2 := owns_below hown1' hb2)
    | (refine wpList_load_row rfl 23 _ rfl w.heap.size rfl _ _ (0, 0) _ hk0.out under_key rfl (by rw [keyA_size, HK.out]; exact info_key) ?_)
    | (refine wpList_load_row rfl 23 _ rfl w.heap.size rfl _ _ (0, 0) _ hB1 under_key rfl (by rw [keyA_size, HK.out]; exact info_key) ?_)
    | (at_builtin; refine appB (W := w) rfl _ _ rfl _ T rfl hown2 _ G rfl hsee2 (by rw [HTL.out, HGL.out]; omega) hbel2 ?_; intro v5 x5 hown5 hg5 hb5; rw [← HE.out] at hown5))
  go_ret
  exact RetB.mk hown5 hb5
end Go.Proofs.Yteialfdhbfbkgaa
