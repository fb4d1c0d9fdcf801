/-
  Chains of keys: the program's chain; both programs' checks and products.
-/
import Derived.Test.YtngkjngfiakmaaaDoorKt
import Derived.Test.YtngkjngfiakmaaaDoorSub
import Derived.Test.YtngkjngfiakmaaaDoorPrd
namespace Go.Proofs.YtngkjngfiakmaaaDoor
set_option linter.unusedVariables false
set_option linter.unusedSimpArgs false
open Go Go.RowKit

theorem ext_rowK {w x u : World} {g : Nat} (e : Ext w x) (hg : x.grownBy u (some g)) (h : w.heap.size ≤ g) : Ext w u := Below.grown e hg (Below.size e) (fun k hk => by cases hk; exact h)
theorem range_ext {w u : World} {b o : Nat} {cs : List Value} (h : w.rangeAt b o cs) (hb : Ext w u) : u.rangeAt b o cs := fun j v hj => by
  have := h j v hj
  exact (Below.cell hb (World.block_lt_of_cell? w _ this)).trans this
theorem one_secC (a b c : Int) : ∀ v ∈ (SecC a b c).toList, v.oneCell' = true := one_sec ⟨a, b, c⟩
theorem one_pubC (pa pb pm pn q1 q2 q3 q4 q5 q6 : Int) : ∀ v ∈ (PubC pa pb pm pn q1 q2 q3 q4 q5 q6).toList, v.oneCell' = true := one_pub ⟨pa, pb, pm, pn, q1, q2, q3, q4, q5, q6⟩
set_option maxRecDepth 100000 in
set_option maxHeartbeats 4000000 in
theorem Chain_any (ss : List Sec) (dd : List (List Int)) (vs vd : Value) (w : World) (hss : SeesS w vs ss) (hdd : SeesUU w vd dd) (hs : ∀ s ∈ ss, s.ok) (hd : ∀ l ∈ dd, ∀ x ∈ l, in64 x) (hl : ss.length ≤ 1000) :
    Calls Tryd.prog 13 #[vs, vd] w fun e w' => ∃ v, e = .returned v ∧ OwnP w' w.heap.size v (chainL ss dd) ∧ Below w.heap.size w w' := by
  obtain ⟨a0, c0, rfl, hac0, hc0⟩ := sees_form hss
  have HSS := Lib.hid hss; clear hss
  have HDD := Lib.hid hdd
  obtain ⟨a1, c1, rfl, hac1, hc1, -⟩ := seesUU_open hdd
  clear hdd
  have HSO := Lib.hid hs; have HDO := Lib.hid hd; clear hs hd
  go_enter Tryd.func13, Tryd.ntmps13
  go_wp2_with fail
  go_loopw [5, 6, 7, 8, 9, 10, 13] (fun o g _ _ _ _ i wr => ChRel w ss dd o g i wr) (fun _ _ _ _ _ _ i _ => ss.length - (intOf i).toNat)
  case atStart => exact ⟨0, by omega, rfl, rfl, ownP_nil _ _, Below.refl _ _⟩
  case round =>
    obtain ⟨n, hn, rfl, rfl, hown, hbel⟩ := hrel
    obtain ⟨a2, c2, rfl, hac2, hc2⟩ := owns_form hown
    have hlen := length_chainN ss dd n
    have HCI := Lib.hid (chainN_in ss dd n)
    by_cases hlt : n < ss.length
    · obtain ⟨b, o, c, hve, hcl, hcm, hrange⟩ := seesS_open (HSS.out.below hbel (by decide)) (by omega)
      obtain ⟨rfl, rfl⟩ : a0 = some ⟨b, o, none⟩ ∧ c0 = c := by injection hve with e1 _ e3; exact ⟨e1, e3⟩
      have hsn : ss[n]? = some ss[n] := List.getElem?_eq_getElem hlt
      have hrg := Lib.hid (hrange n _ hsn)
      have hso := Lib.hid (HSO.out _ (List.getElem_mem hlt))
      have hnx : chainN ss dd (n + 1) = ((chainN ss dd n).1 ++ [tellP (chainN ss dd n).2 ss[n] (dd.getD n [])], (tellP (chainN ss dd n).2 ss[n] (dd.getD n [])).blind) := by
        rw [chainN, show ss.getD n ⟨0, 0, 0⟩ = ss[n] from by rw [List.getD_eq_getElem?_getD, hsn]; rfl]
      have HNX := Lib.hid hnx
      clear hnx hrange hve hsn
      obtain ⟨s, hse⟩ : ∃ s, ss[n] = s := ⟨_, rfl⟩
      rw [hse] at hrg hso HNX
      clear hse
      obtain ⟨⟨o1, g⟩, hog⟩ : ∃ og, chainN ss dd n = og := ⟨_, rfl⟩
      rw [hog] at hown HCI hlen HNX ⊢
      clear hog
      simp only at hown HCI hlen HNX
      have HLN := Lib.hid hlen; clear hlen
      by_cases hdl : n < dd.length
      · obtain ⟨a1', c1', hve, -, -, hel⟩ := seesUU_open (HDD.out.below hbel)
        obtain ⟨rfl, rfl⟩ : a1 = a1' ∧ c1 = c1' := by injection hve with e1 _ e3; exact ⟨e1, e3⟩
        obtain ⟨b2, o2, u, rfl, hcu, hsu⟩ := hel n dd[n] (List.getElem?_eq_getElem hdl)
        have hdi : (n : Int) < (dd.length : Int) := by omega
        have hdo := Lib.hid (HDO.out _ (List.getElem_mem hdl))
        rw [show dd.getD n [] = dd[n] from by rw [List.getD_eq_getElem?_getD, List.getElem?_eq_getElem hdl]; rfl] at HNX
        clear hve hel
        generalize dd[n] = l at *
        obtain ⟨⟨pa, pb, pm, pn, q1, q2, q3, q4, q5, q6⟩, hp⟩ : ∃ p, tellP g s l = p := ⟨_, rfl⟩
        rw [hp] at HNX
        have HP := Lib.hid hp
        clear hp
        obtain ⟨sb, sm, si⟩ := s
        go_wp2_with (first
          | (refine wpList_load_mid rfl 27 (.tmp 16) rfl b (o + n * 3) rfl _ _ hrg.out Tryd.underlying27 rfl info_sec ?_)
          | (refine wpList_allocB rfl _ rfl _ run_allocSec ?_; intro x1 B1 hh1 hB1 e1)
          | (refine wpList_store_row rfl 27 _ _ rfl B1 (SecC sb sm si) _ _ rfl rfl hh1 rfl info_sec (one_secC _ _ _) ?_; intro x2 hg2 hs2 hR2
             have e2 : Ext wr x2 := ext_rowK e1 hg2 hB1
             have hsu2 := hsu.below e2 (by decide)
             (try have hcu2 := (Below.cell e2 (World.block_lt_of_cell? wr _ hcu)).trans hcu)
             clear hg2 hs2)
          | (refine wpList_load_row rfl 27 _ rfl B1 rfl _ (SecC sb sm si) (0, 0) _ hR2 Tryd.underlying27 rfl info_sec ?_)
          | (go_at_call 22; refine (Tell_any g ⟨sb, sm, si⟩ _ _ _ HCI.out hso.out hsu2 hdo.out).mono ?_; rintro e x3 ⟨rfl, hb3⟩; rw [HP.out]; have e3 : Ext wr x3 := Ext.tr e2 hb3)
          | (refine wpList_allocB rfl _ rfl _ run_allocPub ?_; intro x4 B4 hh hB4 e4)
          | (refine wpList_store_row rfl 39 _ _ rfl B4 (PubC pa pb pm pn q1 q2 q3 q4 q5 q6) _ _ rfl rfl hh rfl info_pub (one_pubC _ _ _ _ _ _ _ _ _ _) ?_; intro x5 hg5 hs5 hR5
             have hB5 : wr.heap.size ≤ B4 := Nat.le_trans e3.size hB4
             have hup5 : Ext wr x5 := ext_rowK (e3.tr e4) hg5 hB5
             have hown5 := owns_below hown hup5
             have hbel5 : Below w.heap.size w x5 := hbel.trans (Below.mono hup5 hbel.size)
             clear hg5 hs5))
        have hstab := Stab.blk B4 (PubC pa pb pm pn q1 q2 q3 q4 q5 q6) 39
        have hkB : HoldT (fun u => Blk u B4 (PubC pa pb pm pn q1 q2 q3 q4 q5 q6) 39) w x5.drew := HoldT.drew hstab ⟨hR5, hbel5⟩
        have hM : ∀ e : InC (fun u => Blk u B4 (PubC pa pb pm pn q1 q2 q3 q4 q5 q6) 39), e.u.cell? ⟨B4, 1, none⟩ = some (.int .u64 pb) := fun e => by rw [e.has.cell]; rfl
        have hlit : Sees (x5.drew.alloc (.cells (PubC pa pb pm pn q1 q2 q3 q4 q5 q6) 39)) 10 (.slice (some ⟨x5.drew.heap.size, 0, none⟩) 1 1) 1 (Pub.cells ⟨pa, pb, pm, pn, q1, q2, q3, q4, q5, q6⟩) := sees_new x5.drew 10 (PubC pa pb pm pn q1 q2 q3 q4 q5 q6) _ 1 rfl (by decide)
        have hownD := owns_below hown5 (show Below x5.heap.size x5 (x5.drew.alloc (.cells (PubC pa pb pm pn q1 q2 q3 q4 q5 q6) 39)) by go_grown)
        simp only [Act.put, List.setIfInBounds_toArray, List.set_cons_succ, List.set_cons_zero]
        try change Code.wp _ _ _ (Act.mk _ _) _
        haveI hne_ : Nonempty (InC (fun u => Blk u B4 (PubC pa pb pm pn q1 q2 q3 q4 q5 q6) 39)) := ⟨⟨_, (hkB).1⟩⟩
        refine wp_region_tr (C := fun w_ => ∃ e_ : InC (fun u => Blk u B4 (PubC pa pb pm pn q1 q2 q3 q4 q5 q6) 39), w_ = e_.u) (.step [0, 1, 4, 5] (.alt 2 (.step [] (.alt 3 (.fin [6, 7]) .nil)) .nil)) (by kernel_rfl) (by kernel_rfl) (fun _ _ _ _ hd_ h_ => ⟨hd_.symm.trans h_.1, h_.2⟩) ⟨⟨World.drew _, (hkB).1⟩, rfl⟩ ?_
        have hk_ := hkB
        repeat' (first
          | ((with_reducible refine wpTr_fin ?_)
             simp only [pickOps, List.flatMap_cons, List.flatMap_nil, List.drop_succ_cons, List.drop_zero, List.take_succ_cons, List.take_zero, List.cons_append, List.nil_append, List.append_nil]
             repeat (first | ((refine wpQuiet_load_row rfl 39 _ rfl B4 rfl _ (PubC pa pb pm pn q1 q2 q3 q4 q5 q6) (0, 0) _ (fun w_ hw_ => by obtain ⟨e_, rfl⟩ := hw_; exact e_.has) Tryd.underlying39 rfl info_pub ?_; simp only [Act.put, List.setIfInBounds_toArray, List.set_cons_succ, List.set_cons_zero])) | go_big_quiet_step (exact rfl))
             refine wpQuiet_nil ?_)
          | ((with_reducible refine wpTr_step ?_); simp only [pickOps, List.flatMap_cons, List.flatMap_nil, List.drop_succ_cons, List.drop_zero, List.take_succ_cons, List.take_zero, List.cons_append, List.nil_append, List.append_nil]; repeat (first | ((refine wpQuiet_load_row rfl 39 _ rfl B4 rfl _ (PubC pa pb pm pn q1 q2 q3 q4 q5 q6) (0, 0) _ (fun w_ hw_ => by obtain ⟨e_, rfl⟩ := hw_; exact e_.has) Tryd.underlying39 rfl info_pub ?_; simp only [Act.put, List.setIfInBounds_toArray, List.set_cons_succ, List.set_cons_zero])) | go_big_quiet_step (exact rfl))
             refine wpQuiet_nil ?_)
          | (with_reducible refine wpTr_one ?_)
          | (with_reducible refine wpTr_alt ?_ ?_)
          | (simp only [pickOps, List.flatMap_cons, List.flatMap_nil, List.drop_succ_cons, List.drop_zero, List.take_succ_cons, List.take_zero, List.cons_append, List.nil_append, List.append_nil]
             go_wp2_with ((at_builtin; refine appP (W := w) rfl _ _ rfl (.slice a2 o1.length c2) o1 rfl hownD (.slice (some ⟨x5.drew.heap.size, 0, none⟩) 1 1) ⟨pa, pb, pm, pn, q1, q2, q3, q4, q5, q6⟩ rfl hlit (by rw [HLN.out]; omega) hk_.up ?_; intro v6 w6 hown6 hg6 hb6; have hk6 : HoldT (fun u => Blk u B4 (PubC pa pb pm pn q1 q2 q3 q4 q5 q6) 39) w w6 := ⟨hk_.has.grownBy hg6 (fun e => by have := (hown.lt B4 e.symm).2; omega), hb6⟩))
             refine phPost_hold (by first | with_reducible assumption | exact HoldT.alloc hstab (by with_reducible assumption) _ | exact HoldT.alloc hstab (HoldT.alloc hstab (by with_reducible assumption) _) _) ?_
             intro hk_))
        go_wp2_with fail
        go_roundw
        case rel => exact ⟨n + 1, by omega, by go_num, by rw [HNX.out], by rw [HNX.out]; exact hown6, hb6⟩
        case measure => simp [intOf]; omega
      · have hdi : ¬ (n : Int) < (dd.length : Int) := by omega
        have hsu : SeesU wr (.slice none 0 0) [] := Sees.nil _ _
        rw [show dd.getD n [] = [] from by rw [List.getD_eq_getElem?_getD, List.getElem?_eq_none (by omega)]; rfl] at HNX
        have hdo := Lib.hid (show ∀ x ∈ ([] : List Int), in64 x by intro x hx; cases hx)
        obtain ⟨⟨pa, pb, pm, pn, q1, q2, q3, q4, q5, q6⟩, hp⟩ : ∃ p, tellP g s ([] : List Int) = p := ⟨_, rfl⟩
        rw [hp] at HNX
        have HP := Lib.hid hp
        clear hp
        obtain ⟨sb, sm, si⟩ := s
        go_wp2_with (first
          | (refine wpList_load_mid rfl 27 (.tmp 16) rfl b (o + n * 3) rfl _ _ hrg.out Tryd.underlying27 rfl info_sec ?_)
          | (refine wpList_allocB rfl _ rfl _ run_allocSec ?_; intro x1 B1 hh1 hB1 e1)
          | (refine wpList_store_row rfl 27 _ _ rfl B1 (SecC sb sm si) _ _ rfl rfl hh1 rfl info_sec (one_secC _ _ _) ?_; intro x2 hg2 hs2 hR2
             have e2 : Ext wr x2 := ext_rowK e1 hg2 hB1
             have hsu2 := hsu.below e2 (by decide)
             (try have hcu2 := (Below.cell e2 (World.block_lt_of_cell? wr _ hcu)).trans hcu)
             clear hg2 hs2)
          | (refine wpList_load_row rfl 27 _ rfl B1 rfl _ (SecC sb sm si) (0, 0) _ hR2 Tryd.underlying27 rfl info_sec ?_)
          | (go_at_call 22; refine (Tell_any g ⟨sb, sm, si⟩ _ _ _ HCI.out hso.out hsu2 hdo.out).mono ?_; rintro e x3 ⟨rfl, hb3⟩; rw [HP.out]; have e3 : Ext wr x3 := Ext.tr e2 hb3)
          | (refine wpList_allocB rfl _ rfl _ run_allocPub ?_; intro x4 B4 hh hB4 e4)
          | (refine wpList_store_row rfl 39 _ _ rfl B4 (PubC pa pb pm pn q1 q2 q3 q4 q5 q6) _ _ rfl rfl hh rfl info_pub (one_pubC _ _ _ _ _ _ _ _ _ _) ?_; intro x5 hg5 hs5 hR5
             have hB5 : wr.heap.size ≤ B4 := Nat.le_trans e3.size hB4
             have hup5 : Ext wr x5 := ext_rowK (e3.tr e4) hg5 hB5
             have hown5 := owns_below hown hup5
             have hbel5 : Below w.heap.size w x5 := hbel.trans (Below.mono hup5 hbel.size)
             clear hg5 hs5))
        have hstab := Stab.blk B4 (PubC pa pb pm pn q1 q2 q3 q4 q5 q6) 39
        have hkB : HoldT (fun u => Blk u B4 (PubC pa pb pm pn q1 q2 q3 q4 q5 q6) 39) w x5.drew := HoldT.drew hstab ⟨hR5, hbel5⟩
        have hM : ∀ e : InC (fun u => Blk u B4 (PubC pa pb pm pn q1 q2 q3 q4 q5 q6) 39), e.u.cell? ⟨B4, 1, none⟩ = some (.int .u64 pb) := fun e => by rw [e.has.cell]; rfl
        have hlit : Sees (x5.drew.alloc (.cells (PubC pa pb pm pn q1 q2 q3 q4 q5 q6) 39)) 10 (.slice (some ⟨x5.drew.heap.size, 0, none⟩) 1 1) 1 (Pub.cells ⟨pa, pb, pm, pn, q1, q2, q3, q4, q5, q6⟩) := sees_new x5.drew 10 (PubC pa pb pm pn q1 q2 q3 q4 q5 q6) _ 1 rfl (by decide)
        have hownD := owns_below hown5 (show Below x5.heap.size x5 (x5.drew.alloc (.cells (PubC pa pb pm pn q1 q2 q3 q4 q5 q6) 39)) by go_grown)
        simp only [Act.put, List.setIfInBounds_toArray, List.set_cons_succ, List.set_cons_zero]
        try change Code.wp _ _ _ (Act.mk _ _) _
        haveI hne_ : Nonempty (InC (fun u => Blk u B4 (PubC pa pb pm pn q1 q2 q3 q4 q5 q6) 39)) := ⟨⟨_, (hkB).1⟩⟩
        refine wp_region_tr (C := fun w_ => ∃ e_ : InC (fun u => Blk u B4 (PubC pa pb pm pn q1 q2 q3 q4 q5 q6) 39), w_ = e_.u) (.step [0, 1, 4, 5] (.alt 2 (.step [] (.alt 3 (.fin [6, 7]) .nil)) .nil)) (by kernel_rfl) (by kernel_rfl) (fun _ _ _ _ hd_ h_ => ⟨hd_.symm.trans h_.1, h_.2⟩) ⟨⟨World.drew _, (hkB).1⟩, rfl⟩ ?_
        have hk_ := hkB
        repeat' (first
          | ((with_reducible refine wpTr_fin ?_)
             simp only [pickOps, List.flatMap_cons, List.flatMap_nil, List.drop_succ_cons, List.drop_zero, List.take_succ_cons, List.take_zero, List.cons_append, List.nil_append, List.append_nil]
             repeat (first | ((refine wpQuiet_load_row rfl 39 _ rfl B4 rfl _ (PubC pa pb pm pn q1 q2 q3 q4 q5 q6) (0, 0) _ (fun w_ hw_ => by obtain ⟨e_, rfl⟩ := hw_; exact e_.has) Tryd.underlying39 rfl info_pub ?_; simp only [Act.put, List.setIfInBounds_toArray, List.set_cons_succ, List.set_cons_zero])) | go_big_quiet_step (exact rfl))
             refine wpQuiet_nil ?_)
          | ((with_reducible refine wpTr_step ?_); simp only [pickOps, List.flatMap_cons, List.flatMap_nil, List.drop_succ_cons, List.drop_zero, List.take_succ_cons, List.take_zero, List.cons_append, List.nil_append, List.append_nil]; repeat (first | ((refine wpQuiet_load_row rfl 39 _ rfl B4 rfl _ (PubC pa pb pm pn q1 q2 q3 q4 q5 q6) (0, 0) _ (fun w_ hw_ => by obtain ⟨e_, rfl⟩ := hw_; exact e_.has) Tryd.underlying39 rfl info_pub ?_; simp only [Act.put, List.setIfInBounds_toArray, List.set_cons_succ, List.set_cons_zero])) | go_big_quiet_step (exact rfl))
             refine wpQuiet_nil ?_)
          | (with_reducible refine wpTr_one ?_)
          | (with_reducible refine wpTr_alt ?_ ?_)
          | (simp only [pickOps, List.flatMap_cons, List.flatMap_nil, List.drop_succ_cons, List.drop_zero, List.take_succ_cons, List.take_zero, List.cons_append, List.nil_append, List.append_nil]
             go_wp2_with ((at_builtin; refine appP (W := w) rfl _ _ rfl (.slice a2 o1.length c2) o1 rfl hownD (.slice (some ⟨x5.drew.heap.size, 0, none⟩) 1 1) ⟨pa, pb, pm, pn, q1, q2, q3, q4, q5, q6⟩ rfl hlit (by rw [HLN.out]; omega) hk_.up ?_; intro v6 w6 hown6 hg6 hb6; have hk6 : HoldT (fun u => Blk u B4 (PubC pa pb pm pn q1 q2 q3 q4 q5 q6) 39) w w6 := ⟨hk_.has.grownBy hg6 (fun e => by have := (hown.lt B4 e.symm).2; omega), hb6⟩))
             refine phPost_hold (by first | with_reducible assumption | exact HoldT.alloc hstab (by with_reducible assumption) _ | exact HoldT.alloc hstab (HoldT.alloc hstab (by with_reducible assumption) _) _) ?_
             intro hk_))
        go_wp2_with fail
        go_roundw
        case rel => exact ⟨n + 1, by omega, by go_num, by rw [HNX.out], by rw [HNX.out]; exact hown6, hb6⟩
        case measure => simp [intOf]; omega
    · obtain rfl : n = ss.length := by omega
      go_wp2_with fail
      go_ret
      exact ⟨_, rfl, hown, hbel⟩
end Go.Proofs.YtngkjngfiakmaaaDoor
