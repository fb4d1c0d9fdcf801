/-
  Products of the inner keys: both programs.
-/
import Derived.Test.YtbgnfioggmkdeaaGreatDoorKd
namespace Go.Proofs.YtbgnfioggmkdeaaGreatDoor
set_option linter.unusedVariables false
set_option linter.unusedSimpArgs false
open Go Go.RowKit

def InRel (w : World) (l : List Pub) (x i : Value) (wr : World) : Prop :=
  ∃ k : Nat, k ≤ l.length ∧ i = .int .i64 k ∧ OwnU wr w.heap.size x ((l.take k).map Pub.inner) ∧ Ext w wr
theorem map_take_succ {l : List Pub} {k : Nat} {p : Pub} (h : l[k]? = some p) : (l.take (k + 1)).map Pub.inner = (l.take k).map Pub.inner ++ [p.inner] := by
  obtain ⟨hk, rfl⟩ := List.getElem?_eq_some_iff.1 h
  rw [List.take_succ_eq_append_getElem hk, List.map_append]; rfl
theorem length_mt (l : List Pub) (k : Nat) (h : k ≤ l.length) : ((l.take k).map Pub.inner).length = k := by rw [List.length_map, List.length_take]; omega
theorem inner_in {l : List Pub} (h : ∀ p ∈ l, p.ok) : ∀ x ∈ l.map Pub.inner, in64 x := fun x hx => by
  obtain ⟨p, hp, rfl⟩ := List.mem_map.1 hx
  exact (h p hp).2.2.2.1
set_option maxRecDepth 100000 in
set_option maxHeartbeats 1000000 in
theorem InnerKr_any (l : List Pub) (v0 : Value) (w : World) (hv : SeesP w v0 l) (hok : ∀ p ∈ l, p.ok) (hl : l.length ≤ 1000000) :
    Calls Tryz.prog 95 #[v0] w fun e w' => e = .returned (.int .u64 (innerP l)) ∧ Below w.heap.size w w' := by
  have HV := Lib.hid hv; have HOK := Lib.hid hok
  obtain ⟨a, c, rfl, hc, hm⟩ := sees_form hv
  clear hv hok
  go_enter Tryz.func95, Tryz.ntmps95
  go_wp2_with fail
  go_loopw [3, 4] (fun x i wr => InRel w l x i wr) (fun _ i _ => l.length - (intOf i).toNat)
  case atStart => exact ⟨0, Nat.zero_le _, rfl, ownU_nil _ _, Ext.refl _⟩
  case round =>
    obtain ⟨k, hk, rfl, hown, hX⟩ := hrel
    have HO := Lib.hid hown; have HX := Lib.hid hX
    obtain ⟨a1, c1, rfl, -, -⟩ := owns_form hown
    clear hown hX
    by_cases hlt : k < l.length
    · skip
      obtain ⟨p, hpe⟩ : ∃ p, l[k]? = some p := ⟨_, List.getElem?_eq_getElem hlt⟩
      have HSU := Lib.hid (map_take_succ hpe)
      have HLN := Lib.hid (length_mt l k hk)
      obtain ⟨bP, oP, cP, e1⟩ := seesP_opn HV.out (by omega)
      obtain ⟨rfl, rfl⟩ : a = some ⟨bP, oP, none⟩ ∧ c = cP := by injection e1 with e1 _ e3; exact ⟨e1, e3⟩
      have hrg := range_ext (seesP_at HV.out (by omega) k p hpe) HX.out
      clear e1 hpe
      obtain ⟨pa, pb, pm, pn, q1, q2, q3, q4, q5, q6⟩ := p
      have HRG := Lib.hid hrg
      generalize (l.take k).map Pub.inner = L at *
      have hc3 : wr.cell? ⟨bP, oP + k * 10 + 3, none⟩ = some (.int .u64 pn) := HRG.out 3 _ rfl
      clear hrg
      go_wp2_with (at_builtin; refine appU (W := w) rfl _ _ rfl (.slice a1 L.length c1) L rfl (HO.out.alloc _) _ [pn] rfl (seesU_lit1 _ _ _) (by rw [HLN.out]; simp only [List.length_cons, List.length_nil]; omega) (Below.alloc HX.out (Below.size HX.out) _) ?_; intro v2 w2 hown2 hg2 hb2)
      go_roundw
      case rel => exact ⟨k + 1, by omega, by go_num, by rw [HSU.out]; exact hown2, hb2⟩
      case measure => simp [intOf]; omega
    · obtain rfl : k = l.length := by omega
      have hO := HO.out
      rw [List.take_length] at hO ⊢
      have hP := Productr_any wr _ (l.map Pub.inner) (sees_of_owns hO) (inner_in HOK.out)
      rw [List.length_map] at hP ⊢
      have HP := Lib.hid hP
      clear hP hO
      go_wp2_with (go_at_call 142; refine HP.out.mono ?_; rintro e x1 ⟨rfl, rfl⟩)
      go_ret
      exact ⟨rfl, HX.out⟩
set_option maxRecDepth 100000 in
set_option maxHeartbeats 1000000 in
theorem InnerK_any (l : List Pub) (v0 : Value) (w : World) (hv : SeesP w v0 l) (hok : ∀ p ∈ l, p.ok) (hl : l.length ≤ 1000000) :
    Calls Tryz.prog 76 #[v0] w fun e w' => e = .returned (.int .u64 (innerP l)) ∧ Below w.heap.size w w' := by
  have HV := Lib.hid hv; have HOK := Lib.hid hok
  obtain ⟨a, c, rfl, hc, hm⟩ := sees_form hv
  clear hv hok
  go_enter Tryz.func76, Tryz.ntmps76
  go_wp2_with fail
  go_loopw [3, 5, 8] (fun x _ i wr => InRel w l x i wr) (fun _ _ i _ => l.length - (intOf i).toNat)
  case atStart => exact ⟨0, Nat.zero_le _, rfl, ownU_nil _ _, Ext.refl _⟩
  case round =>
    obtain ⟨k, hk, rfl, hown, hX⟩ := hrel
    have HO := Lib.hid hown; have HX := Lib.hid hX
    obtain ⟨a1, c1, rfl, -, -⟩ := owns_form hown
    clear hown hX
    by_cases hlt : k < l.length
    · skip
      obtain ⟨p, hpe⟩ : ∃ p, l[k]? = some p := ⟨_, List.getElem?_eq_getElem hlt⟩
      have HSU := Lib.hid (map_take_succ hpe)
      have HLN := Lib.hid (length_mt l k hk)
      obtain ⟨bP, oP, cP, e1⟩ := seesP_opn HV.out (by omega)
      obtain ⟨rfl, rfl⟩ : a = some ⟨bP, oP, none⟩ ∧ c = cP := by injection e1 with e1 _ e3; exact ⟨e1, e3⟩
      have hrg := range_ext (seesP_at HV.out (by omega) k p hpe) HX.out
      clear e1 hpe
      obtain ⟨pa, pb, pm, pn, q1, q2, q3, q4, q5, q6⟩ := p
      have HRG := Lib.hid hrg
      generalize (l.take k).map Pub.inner = L at *
      clear hrg
      go_wp2_with (first
        | (refine wpList_load_mid rfl 133 (.tmp 10) rfl bP (oP + k * 10) rfl _ _ HRG.out Tryz.underlying133 rfl info_pub ?_)
        | (refine wpList_allocB rfl _ rfl _ run_allocPub ?_; intro x1 B1 hh1 hB1 e1)
        | (refine wpList_store_row rfl 133 _ _ rfl B1 (PubC pa pb pm pn q1 q2 q3 q4 q5 q6) _ _ rfl rfl hh1 rfl info_pub (one_pubC _ _ _ _ _ _ _ _ _ _) ?_; intro x2 hg2 hs2 hR2
           have e2 : Ext wr x2 := ext_rowK e1 hg2 hB1
           obtain ⟨g0, g1, g2, g3⟩ := pub_c hR2
           clear hg2 hs2 e1)
        | (at_builtin; refine appU (W := w) rfl _ _ rfl (.slice a1 L.length c1) L rfl ((owns_below HO.out e2).alloc _) _ [pn] rfl (seesU_lit1 _ _ _) (by rw [HLN.out]; simp only [List.length_cons, List.length_nil]; omega) (Below.alloc (Ext.tr HX.out e2) (Below.size (Ext.tr HX.out e2)) _) ?_; intro v2 w2 hown2 hg2 hb2))
      go_roundw
      case rel => exact ⟨k + 1, by omega, by go_num, by rw [HSU.out]; exact hown2, hb2⟩
      case measure => simp [intOf]; omega
    · obtain rfl : k = l.length := by omega
      have hO := HO.out
      rw [List.take_length] at hO ⊢
      have hP := Product_any wr _ (l.map Pub.inner) (sees_of_owns hO) (inner_in HOK.out)
      rw [List.length_map] at hP ⊢
      have HP := Lib.hid hP
      clear hP hO
      go_wp2_with (go_at_call 123; refine HP.out.mono ?_; rintro e x1 ⟨rfl, rfl⟩)
      go_ret
      exact ⟨rfl, HX.out⟩
end Go.Proofs.YtbgnfioggmkdeaaGreatDoor
