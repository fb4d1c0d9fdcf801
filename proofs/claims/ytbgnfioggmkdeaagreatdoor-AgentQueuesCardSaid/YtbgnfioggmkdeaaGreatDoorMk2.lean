/-
  Submissions made: the reference; onions.
-/
import Derived.Test.YtbgnfioggmkdeaaGreatDoorMk1
namespace Go.Proofs.YtbgnfioggmkdeaaGreatDoor
set_option linter.unusedVariables false
set_option linter.unusedSimpArgs false
open Go Go.RowKit

/-- What is known of such a call's own memory. -/
def SbC (w : World) (EC RC : Array Value) (u : World) : Prop := Blk u w.heap.size EC 46 ∧ Blk u (w.heap.size + 1) RC 50
theorem stabSbC (w : World) (EC RC : Array Value) : Stab (SbC w EC RC) := Stab.and (Stab.blk _ _ _) (Stab.blk _ _ _)
set_option maxRecDepth 100000 in
set_option maxHeartbeats 4000000 in
theorem Submitr_any (e : Ent) (secret x draw round chain : Int) (ve : Value) (w : World) (he : e.ok) (hs : in64 secret) (hx : in64 x) (hd : in64 draw) (hv : SeesB w ve e.box) (hl : e.box.length ≤ 20000000000000) :
    Calls Tryz.prog 96 #[.agg #[.int .u64 e.x, ve], .int .u64 secret, .int .u64 x, .int .u64 draw, .int .i64 round, .int .i64 chain] w fun r w' => r = .returned (.agg (subC (submitL e ⟨knowC 37 e.x draw, ansP (knowC 37 e.x draw) x draw⟩ secret round chain) ve)) ∧ Below w.heap.size w w' := by
  obtain ⟨ae, ce, rfl, -, -⟩ := sees_form hv
  have hst : Stab (fun u => SbC w #[.int .u64 e.x, .slice ae e.box.length ce] SubZ u ∧ SeesB u (.slice ae e.box.length ce) e.box) := Stab.and (stabSbC _ _ _) (Stab.sees _ _ _ _ (by decide))
  have hk : HoldT (fun u => SbC w #[.int .u64 e.x, .slice ae e.box.length ce] SubZ u ∧ SeesB u (.slice ae e.box.length ce) e.box) w ((w.alloc (.cells #[.int .u64 e.x, .slice ae e.box.length ce] 46)).alloc (.cells SubZ 50)).drew :=
    HoldT.drew hst ⟨⟨⟨(Blk.new _ _ _).alloc _, Blk.new2 _ _ _ _⟩, hv.below (show Ext w _ from (show Below w.heap.size w _ by go_grown)) (by decide)⟩, (show Below w.heap.size w _ by go_grown)⟩
  have HK := Lib.hid hk
  have HV := Lib.hid hv
  have HPU := Lib.hid fun (w' : World) => Baser_any secret w' hs.1 hs.2
  have HNA := Lib.hid fun (w' : World) => Namer_any (timesP 37 secret) w' (in64_P (timesP_pos _ _))
  have HU := Lib.hid (length_nameL' (timesP 37 secret))
  have HKN := Lib.hid fun (w' : World) => Knowr_any 37 e.x x draw w' ⟨by decide, by decide⟩ he hx hd
  have hpok : (Prf.mk (knowC 37 e.x draw) (ansP (knowC 37 e.x draw) x draw)).ok := ⟨in64_N (knowC_pos _ _ _), in64_N (ansP_pos _ _ _)⟩
  have HSG := Lib.hid fun (w' : World) (h : SeesB w' (.slice ae e.box.length ce) e.box) => Signedr_any ⟨nameL (timesP 37 secret), e, ⟨knowC 37 e.x draw, ansP (knowC 37 e.x draw) x draw⟩, ⟨0, 0⟩⟩ (.slice ae e.box.length ce) round chain w' ⟨length_nameL' _, he, hpok, prf0_ok⟩ h (Nat.le_trans hl (by decide))
  have HSI := Lib.hid fun (w' : World) (v : Value) (h : SeesB w' v (signedL e.x e.box round chain)) => Signr_any secret (signedL e.x e.box round chain) v w' hs h (by rw [length_signedL]; decide)
  have HB1 := Lib.hid (show subC ⟨nameL (timesP 37 secret), e, ⟨knowC 37 e.x draw, ansP (knowC 37 e.x draw) x draw⟩, ⟨0, 0⟩⟩ (.slice ae e.box.length ce) = subC (subZ (nameL (timesP 37 secret)) e.x (knowC 37 e.x draw) (ansP (knowC 37 e.x draw) x draw) 0 0) (.slice ae e.box.length ce) from rfl)
  have HB2 := Lib.hid (show subC (submitL e ⟨knowC 37 e.x draw, ansP (knowC 37 e.x draw) x draw⟩ secret round chain) (.slice ae e.box.length ce) = subC (subZ (nameL (timesP 37 secret)) e.x (knowC 37 e.x draw) (ansP (knowC 37 e.x draw) x draw) (signC secret (signedL e.x e.box round chain)) (signS secret (signedL e.x e.box round chain))) (.slice ae e.box.length ce) from rfl)
  rw [HB1.out] at HSG
  rw [HB2.out]
  generalize signC secret (signedL e.x e.box round chain) = gc at *
  generalize signS secret (signedL e.x e.box round chain) = gs at *
  generalize signedL e.x e.box round chain = SL at *
  generalize nameL (timesP 37 secret) = U at *
  generalize timesP 37 secret = PB at *
  clear hk hv HB1 HB2 hpok
  generalize ansP (knowC 37 e.x draw) x draw = ps at *
  generalize knowC 37 e.x draw = pc at *
  generalize hEX : e.x = EX at *
  generalize hEB : e.box = EB at *
  clear hEX hEB
  have HZ0 := Lib.hid (subC_size (subZ U EX 0 0 0 0) (.slice ae EB.length ce) HU.out)
  have HZ1 := Lib.hid (subC_size (subZ U EX pc ps 0 0) (.slice ae EB.length ce) HU.out)
  have HZ2 := Lib.hid (subC_size (subZ U EX pc ps gc gs) (.slice ae EB.length ce) HU.out)
  go_enter Tryz.func96, Tryz.ntmps96
  go_wp2_with fail
  have hk := HK.out
  try change Code.wp _ _ _ (Act.mk _ _) _
  refine wp_region_runR Ext 6 33 (HoldT (fun u => SbC w #[.int .u64 EX, .slice ae EB.length ce] SubZ u ∧ SeesB u (.slice ae EB.length ce) EB) _) [[], [(0, 14)], [(1, 15)], [], [(2, 16), (3, 17)], []] [(0, 14), (1, 15), (2, 16), (3, 17), (4, 18), (5, 13)] (by kernel_rfl) (by kernel_rfl) (by first | rfl | simp) (hk) ?_
  simp only [List.take_succ_cons, List.take_zero, List.drop_succ_cons, List.drop_zero]
  refine sp_op (Ph.eq _) (fun u hu => by
    refine spArg_nil ?_
    go_wp2_with (fail)
    exact ⟨rfl, hu, Ext.refl _, slot_eq rfl⟩) ?_
  refine sp_op (Ph.eq _) (fun u hu => by
    refine spArg_eq 0 rfl rfl ?_
    refine spArg_nil ?_
    simp only [Act.put, List.setIfInBounds_toArray, List.set_cons_succ, List.set_cons_zero]
    go_wp2_with ((go_at_call 19; refine (HPU.out _).mono ?_; rintro e_ x_ ⟨rfl, rfl⟩))
    exact ⟨rfl, hu, Ext.refl _, slot_eq rfl⟩) ?_
  refine sp_op (Ph.eq _) (fun u hu => by
    refine spArg_eq 0 rfl rfl ?_
    refine spArg_nil ?_
    simp only [Act.put, List.setIfInBounds_toArray, List.set_cons_succ, List.set_cons_zero]
    go_wp2_with ((go_at_call 58; refine (HNA.out _).mono ?_; rintro e_ x_ ⟨rfl, hb_⟩))
    exact ⟨rfl, HoldT.step hst hu hb_, hb_, slot_eq rfl⟩) ?_
  refine sp_op (Ph.eq _) (fun u hu => by
    refine spArg_nil ?_
    go_wp2_with ((refine wpList_load_rowG rfl 46 _ rfl (w.heap.size) rfl _ _ (0, 0) _ (hu.has.1.1) Tryz.underlying46 rfl (info_entry) ?_))
    exact ⟨rfl, hu, Ext.refl _, slot_eq rfl⟩) ?_
  refine sp_op (Ph.eq _) (fun u hu => by
    refine spArg_eq 1 rfl rfl ?_
    refine spArg_eq 0 rfl rfl ?_
    refine spArg_nil ?_
    simp only [Act.put, List.setIfInBounds_toArray, List.set_cons_succ, List.set_cons_zero]
    go_wp2_with ((refine wpList_build2 rfl 50 0 1 _ _ rfl (.agg (keyA U)) (.agg #[.int .u64 EX, .slice ae EB.length ce]) (.agg (subC (subZ U EX 0 0 0 0) (.slice ae EB.length ce))) rfl rfl (run_buildSub2 U EX (.slice ae EB.length ce) HU.out _) ?_))
    exact ⟨rfl, hu, Ext.refl _, slot_eq rfl⟩) ?_
  refine sp_op (Ph.blk (w.heap.size + 1 + 1) SubZ 50) (fun u hu => by
    refine spArg_nil ?_
    go_wp2_with ((refine wpList_allocB rfl _ rfl SubZ run_allocSub ?_; intro x_ B_ hh_ hB_ e_))
    exact ⟨rfl, HoldT.step hst hu e_, e_, slot_of rfl ⟨B_, rfl, (by have := hu.has.1.2.lt; omega), hh_⟩⟩) ?_
  refine sp_end ?_
  intro u hu
  refine spArg_eq 5 rfl rfl ?_
  refine spArg_eq 4 rfl rfl ?_
  refine spArg_eq 3 rfl rfl ?_
  refine spArg_eq 2 rfl rfl ?_
  refine spArg_eq 1 rfl rfl ?_
  refine spArg_in (φ := Ph.blk (w.heap.size + 1 + 1) SubZ 50) 0 rfl rfl ?_; intro v5 h5
  obtain ⟨g, rfl, hg0, hG⟩ := h5
  refine spArg_nil ?_
  simp only [Act.put, List.setIfInBounds_toArray, List.set_cons_succ, List.set_cons_zero]
  go_wp2_with (first
    | (refine wpList_store_row rfl 50 (.tmp 13) _ rfl g (subC (subZ U EX 0 0 0 0) (.slice ae EB.length ce)) _ _ rfl rfl hG (subZ_size.trans HZ0.out.symm) (by rw [HZ0.out]; exact info_sub) (one_sub _ _ _ _) ?_; intro x7 hg7 hs7 hR7
       have hM7 : SbC w #[.int .u64 EX, .slice ae EB.length ce] SubZ x7 := ⟨hu.has.1.1.grownBy hg7 (some_ne (by omega)), hu.has.1.2.grownBy hg7 (some_ne (by omega))⟩
       have hbel7 : Ext w x7 := hu.up.grown hg7 hu.up.size (fun k hk => by cases hk; omega)
       have hS7 := HV.out.below hbel7 (by decide)
       have hq7 := ent_cell hM7.1
       clear hs7)
    | (go_at_call 103; refine (HKN.out _).mono ?_; rintro r x8 ⟨rfl, hb8⟩
       have hR8 := hR7.below hb8; have hM8 := stabSbC _ _ _ _ _ hM7 hb8; have hbel8 : Ext w x8 := Ext.tr hbel7 hb8; have hS8 := HV.out.below hbel8 (by decide)
       clear hq7)
    | (refine wpList_store_in rfl 48 (.tmp 24) _ rfl g 34 #[.int .u64 pc, .int .u64 ps] _ (subC (subZ U EX pc ps 0 0) (.slice ae EB.length ce)) _ rfl rfl hR8 (by rw [HZ0.out]; show 36 ≤ 38; decide) info_proof (by intro v hv; simp at hv; rcases hv with rfl | rfl <;> rfl) (subC_putp (subZ U EX 0 0 0 0) (.slice ae EB.length ce) pc ps HU.out) ?_; intro y hgy hsy hRy
       have hMy : SbC w #[.int .u64 EX, .slice ae EB.length ce] SubZ y := ⟨hM8.1.grownBy hgy (some_ne (by omega)), hM8.2.grownBy hgy (some_ne (by omega))⟩
       have hbely : Ext w y := Below.grown hbel8 hgy (Below.size hbel8) (fun k hk => by cases hk; omega)
       have hSy := HV.out.below hbely (by decide)
       clear hsy)
    | (refine wpList_load_row rfl 50 (.tmp 13) rfl g rfl _ _ (0, 0) _ hRy Tryz.underlying50 rfl (by rw [HZ1.out]; exact info_sub) ?_)
    | (go_at_call 144; refine (HSG.out _ hSy).mono ?_; rintro r x10 ⟨v10, rfl, hs10, hb10⟩)
    | (go_at_call 143; refine (HSI.out _ _ hs10).mono ?_; rintro r x11 ⟨rfl, hb11⟩
       have e11 : Ext y x11 := Ext.tr hb10 hb11
       have hR11 := hRy.below e11; have hM11 := stabSbC _ _ _ _ _ hMy e11; have hbel11 : Ext w x11 := Ext.tr hbely e11)
    | (refine wpList_store_in rfl 48 (.tmp 31) _ rfl g 36 #[.int .u64 gc, .int .u64 gs] _ (subC (subZ U EX pc ps gc gs) (.slice ae EB.length ce)) _ rfl rfl hR11 (by rw [HZ1.out]; show 38 ≤ 38; decide) info_proof (by intro v hv; simp at hv; rcases hv with rfl | rfl <;> rfl) (subC_putg (subZ U EX pc ps 0 0) (.slice ae EB.length ce) gc gs HU.out) ?_; intro y2 hgy2 hsy2 hRy2
       have hMy2 := hM11.2.grownBy hgy2 (some_ne (by omega))
       have hbely2 : Ext w y2 := Below.grown hbel11 hgy2 (Below.size hbel11) (fun k hk => by cases hk; omega)
       clear hsy2)
    | (refine wpList_load_row rfl 50 (.tmp 13) rfl g rfl _ _ (0, 0) _ hRy2 Tryz.underlying50 rfl (by rw [HZ2.out]; exact info_sub) ?_)
    | (refine wpList_store_row rfl 50 (.tmp 12) _ rfl (w.heap.size + 1) (subC (subZ U EX pc ps gc gs) (.slice ae EB.length ce)) _ _ rfl rfl hMy2 (subZ_size.trans HZ2.out.symm) (by rw [HZ2.out]; exact info_sub) (one_sub _ _ _ _) ?_; intro z hgz hsz hRz))
  refine bodyPost_ret (results_cell_row Tryz.results96 _ _ (w.heap.size + 1) _ _ (0, 0) _ rfl hRz Tryz.underlying50 rfl (by rw [HZ2.out]; exact info_sub)) rfl ?_
  exact ⟨rfl, Below.grown hbely2 hgz (Below.size hbely2) (fun k hk => by cases hk; omega)⟩
end Go.Proofs.YtbgnfioggmkdeaaGreatDoor
