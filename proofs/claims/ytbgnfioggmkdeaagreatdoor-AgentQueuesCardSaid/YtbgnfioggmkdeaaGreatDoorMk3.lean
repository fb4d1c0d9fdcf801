/-
  Onions made, and compared.
-/
import Derived.Test.YtbgnfioggmkdeaaGreatDoorMk2
import Derived.Test.YtbgnfioggmkdeaaGreatDoorPeel
namespace Go.Proofs.YtbgnfioggmkdeaaGreatDoor
set_option linter.unusedVariables false
set_option linter.unusedSimpArgs false
open Go Go.RowKit

def onionL (ps : List Pub) (secret x draw round chain : Int) (inside : List UInt8) : Sub :=
  submitL ⟨timesP 37 x, boxL ps x inside (-1)⟩ ⟨knowC 37 (timesP 37 x) draw, ansP (knowC 37 (timesP 37 x) draw) x draw⟩ secret round chain
/-- A submission whose box is the call's own. -/
def RetSub (s : Sub) (w : World) (e : Ending) (w' : World) : Prop := ∃ v', e = .returned (.agg (subC s v')) ∧ OwnB w' w.heap.size v' s.e.box ∧ Below w.heap.size w w'
theorem stabExt (w : World) : Stab (fun u => Ext w u) := fun _ _ h hb => Ext.tr h hb
theorem submitL_user (e : Ent) (p : Prf) (secret round chain : Int) : (submitL e p secret round chain).user.length = 32 := length_nameL' _
set_option maxRecDepth 100000 in
set_option maxHeartbeats 2000000 in
theorem OMake_any (ps : List Pub) (secret x draw round chain : Int) (inside : List UInt8) (vl v : Value) (w : World) (hps : SeesP w vl ps) (hok : ∀ p ∈ ps, p.ok) (hs : in64 secret) (hx : in64 x) (hd : in64 draw) (hv : SeesB w v inside) (hl : inside.length ≤ 1000000) (hpl : ps.length ≤ 1000) :
    Calls Tryz.prog 77 #[vl, .int .u64 secret, .int .u64 x, .int .u64 draw, .int .i64 round, .int .i64 chain, v] w (RetSub (onionL ps secret x draw round chain inside) w) := by
  have hR0 := Lib.hid (Blk.new w SubZ 50)
  have hb0 := Lib.hid (show Ext w (w.alloc (.cells SubZ 50)) from Ext.alloc _ _)
  have HW := Lib.hid (Wrap_any ps x inside vl v _ (hps.below hb0.out (by decide)) hok hx (hv.below hb0.out (by decide)) (by omega) (by omega))
  have HKN := Lib.hid fun (w' : World) => Know_any 37 (timesP 37 x) x draw w' ⟨by decide, by decide⟩ (in64_P (timesP_pos _ _)) hx hd
  have HMD := Lib.hid fun (w' : World) (v1 : Value) (h : SeesB w' v1 (boxL ps x inside (-1))) => Made_any ⟨timesP 37 x, boxL ps x inside (-1)⟩ ⟨knowC 37 (timesP 37 x) draw, ansP (knowC 37 (timesP 37 x) draw) x draw⟩ secret round chain v1 w' (show in64 (timesP 37 x) from in64_P (timesP_pos _ _)) ⟨in64_N (knowC_pos _ _ _), in64_N (ansP_pos _ _ _)⟩ hs h (by rw [length_boxL]; omega)
  have HBX := Lib.hid (show (onionL ps secret x draw round chain inside).e.box = boxL ps x inside (-1) from rfl)
  have HUS := Lib.hid (show (onionL ps secret x draw round chain inside).user.length = 32 from submitL_user _ _ _ _ _)
  have HMD2 := HMD
  rw [show submitL ⟨timesP 37 x, boxL ps x inside (-1)⟩ ⟨knowC 37 (timesP 37 x) draw, ansP (knowC 37 (timesP 37 x) draw) x draw⟩ secret round chain = onionL ps secret x draw round chain inside from rfl] at HMD2
  simp only at HMD2
  clear HMD
  generalize onionL ps secret x draw round chain inside = OL at *
  generalize ansP (knowC 37 (timesP 37 x) draw) x draw = as_ at *
  generalize knowC 37 (timesP 37 x) draw = kc at *
  generalize timesP 37 x = tx at *
  generalize boxL ps x inside (-1) = BX at *
  clear hps hv hs hx hd hok
  have HZ1 := Lib.hid fun v => subC_size OL v HUS.out
  go_enter Tryz.func77, Tryz.ntmps77
  go_wp2_with (first
    | (go_at_call 124; refine HW.out.mono ?_; rintro r x1 ⟨v1, rfl, hown1, hb1⟩
       obtain ⟨a1, c1, rfl, -, -⟩ := owns_form hown1
       have hbel1 : Ext w x1 := Ext.tr hb0.out hb1
       have hR1 := hR0.out.below hb1)
    | (refine wpList_store_row rfl 46 (.tmp 15) _ rfl x1.heap.size #[.int .u64 tx, .slice a1 BX.length c1] _ _ rfl rfl (Blk.new _ _ _) rfl info_entry (by intro v hv; simp at hv; rcases hv with rfl | rfl <;> rfl) ?_; intro x2 hg2 hs2 hE2
       have hbel2 : Ext w x2 := ext_row (Ext.tr hbel1 (Ext.alloc _ _)) hg2 hbel1.size
       have hO2 := own_grown (owns_below hown1 (Ext.alloc _ _)) hg2 (RowT.blk (Blk.new _ _ _)) (by decide)
       have hR2 := (hR1.alloc _).grownBy hg2 (some_ne (Nat.ne_of_lt hR1.lt))
       clear hs2))
  have hst := stabExt x2
  have hk : HoldT (fun u => Ext x2 u) w x2.drew := HoldT.drew hst ⟨Ext.refl _, hbel2⟩
  have HE2 := Lib.hid hE2; have HO2 := Lib.hid hO2; have HR2 := Lib.hid hR2
  clear hE2 hO2 hR2 hown1 hR1
  generalize x1.heap.size = g at *
  try change Code.wp _ _ _ (Act.mk _ _) _
  refine wp_region_runR Ext 10 30 (HoldT (fun u => Ext x2 u) _) [[], [], [(1, 21)], [], [], [(2, 22), (3, 23), (4, 24)], [], [], [], [(0, 20), (5, 25), (6, 26), (7, 27), (8, 28)]] [(0, 20), (1, 21), (2, 22), (3, 23), (4, 24), (5, 25), (6, 26), (7, 27), (8, 28), (9, 29)] (by kernel_rfl) (by kernel_rfl) (by first | rfl | simp) (hk) ?_
  simp only [List.take_succ_cons, List.take_zero, List.drop_succ_cons, List.drop_zero]
  refine sp_op (Ph.eq _) (fun u hu => by
    refine spArg_nil ?_
    have k1 := ent_cell (HE2.out.below hu.has)
    go_wp2_with ((refine wpList_load_rowG rfl 46 _ rfl (g) rfl _ _ (0, 0) _ (HE2.out.below hu.has) Tryz.underlying46 rfl (info_entry) ?_))
    exact ⟨rfl, hu, Ext.refl _, slot_eq rfl⟩) ?_
  refine sp_op (Ph.eq _) (fun u hu => by
    refine spArg_nil ?_
    have k1 := ent_cell (HE2.out.below hu.has)
    go_wp2_with (fail)
    exact ⟨rfl, hu, Ext.refl _, slot_eq rfl⟩) ?_
  refine sp_op (Ph.eq _) (fun u hu => by
    refine spArg_eq 0 rfl rfl ?_
    refine spArg_nil ?_
    simp only [Act.put, List.setIfInBounds_toArray, List.set_cons_succ, List.set_cons_zero]
    have k1 := ent_cell (HE2.out.below hu.has)
    go_wp2_with (fail)
    exact ⟨rfl, hu, Ext.refl _, slot_eq rfl⟩) ?_
  refine sp_op (Ph.eq _) (fun u hu => by
    refine spArg_nil ?_
    have k1 := ent_cell (HE2.out.below hu.has)
    go_wp2_with (fail)
    exact ⟨rfl, hu, Ext.refl _, slot_eq rfl⟩) ?_
  refine sp_op (Ph.eq _) (fun u hu => by
    refine spArg_nil ?_
    have k1 := ent_cell (HE2.out.below hu.has)
    go_wp2_with (fail)
    exact ⟨rfl, hu, Ext.refl _, slot_eq rfl⟩) ?_
  refine sp_op (Ph.eq _) (fun u hu => by
    refine spArg_eq 2 rfl rfl ?_
    refine spArg_eq 1 rfl rfl ?_
    refine spArg_eq 0 rfl rfl ?_
    refine spArg_nil ?_
    simp only [Act.put, List.setIfInBounds_toArray, List.set_cons_succ, List.set_cons_zero]
    have k1 := ent_cell (HE2.out.below hu.has)
    go_wp2_with ((go_at_call 126; refine (HKN.out _).mono ?_; rintro e_ x_ ⟨rfl, hb_⟩))
    exact ⟨rfl, HoldT.step hst hu hb_, hb_, slot_eq rfl⟩) ?_
  refine sp_op (Ph.eq _) (fun u hu => by
    refine spArg_nil ?_
    have k1 := ent_cell (HE2.out.below hu.has)
    go_wp2_with (fail)
    exact ⟨rfl, hu, Ext.refl _, slot_eq rfl⟩) ?_
  refine sp_op (Ph.eq _) (fun u hu => by
    refine spArg_nil ?_
    have k1 := ent_cell (HE2.out.below hu.has)
    go_wp2_with (fail)
    exact ⟨rfl, hu, Ext.refl _, slot_eq rfl⟩) ?_
  refine sp_op (Ph.eq _) (fun u hu => by
    refine spArg_nil ?_
    have k1 := ent_cell (HE2.out.below hu.has)
    go_wp2_with (fail)
    exact ⟨rfl, hu, Ext.refl _, slot_eq rfl⟩) ?_
  refine sp_op (Ph.eq _) (fun u hu => by
    refine spArg_eq 8 rfl rfl ?_
    refine spArg_eq 3 rfl rfl ?_
    refine spArg_eq 2 rfl rfl ?_
    refine spArg_eq 1 rfl rfl ?_
    refine spArg_eq 0 rfl rfl ?_
    refine spArg_nil ?_
    simp only [Act.put, List.setIfInBounds_toArray, List.set_cons_succ, List.set_cons_zero]
    have k1 := ent_cell (HE2.out.below hu.has)
    go_wp2_with ((go_at_call 125; refine (HMD2.out _ _ (sees_of_owns (owns_below HO2.out hu.has))).mono ?_; rintro e_ x_ ⟨rfl, hb_⟩))
    exact ⟨rfl, HoldT.step hst hu hb_, hb_, slot_eq rfl⟩) ?_
  refine sp_end ?_
  intro u hu
  refine spArg_eq 9 rfl rfl ?_
  refine spArg_eq 8 rfl rfl ?_
  refine spArg_eq 7 rfl rfl ?_
  refine spArg_eq 6 rfl rfl ?_
  refine spArg_eq 5 rfl rfl ?_
  refine spArg_eq 4 rfl rfl ?_
  refine spArg_eq 3 rfl rfl ?_
  refine spArg_eq 2 rfl rfl ?_
  refine spArg_eq 1 rfl rfl ?_
  refine spArg_eq 0 rfl rfl ?_
  refine spArg_nil ?_
  simp only [Act.put, List.setIfInBounds_toArray, List.set_cons_succ, List.set_cons_zero]
  go_wp2_with (refine wpList_store_row rfl 50 (.tmp 14) _ rfl w.heap.size (subC OL (.slice a1 BX.length c1)) _ _ rfl rfl (HR2.out.below hu.has) (subZ_size.trans (HZ1.out _).symm) (by rw [HZ1.out]; exact info_sub) (one_sub _ _ _ _) ?_; intro z hgz hsz hRz)
  refine bodyPost_ret (results_cell_row Tryz.results77 _ _ w.heap.size _ _ (0, 0) _ rfl hRz Tryz.underlying50 rfl (by rw [HZ1.out]; exact info_sub)) rfl ?_
  exact ⟨_, rfl, by rw [HBX.out]; exact owns_mono (own_grown (owns_below HO2.out hu.has) hgz (RowT.blk (HR2.out.below hu.has)) (by decide)) hb0.out.size, ext_row hu.up hgz (Nat.le_refl _)⟩
set_option maxRecDepth 100000 in
set_option maxHeartbeats 2000000 in
theorem Onionr_any (ps : List Pub) (secret x draw round chain : Int) (inside : List UInt8) (vl v : Value) (w : World) (hps : SeesP w vl ps) (hok : ∀ p ∈ ps, p.ok) (hs : in64 secret) (hx : in64 x) (hd : in64 draw) (hv : SeesB w v inside) (hl : inside.length ≤ 1000000) (hpl : ps.length ≤ 1000) :
    Calls Tryz.prog 56 #[vl, .int .u64 secret, .int .u64 x, .int .u64 draw, .int .i64 round, .int .i64 chain, v] w (RetSub (onionL ps secret x draw round chain inside) w) := by
  have hR0 := Lib.hid (Blk.new w SubZ 50)
  have hb0 := Lib.hid (show Ext w (w.alloc (.cells SubZ 50)) from Ext.alloc _ _)
  have HW := Lib.hid (Wrapr_any ps x inside vl v _ (hps.below hb0.out (by decide)) hok hx (hv.below hb0.out (by decide)) (by omega) (by omega))
  have HMD := Lib.hid fun (w' : World) (v1 : Value) (h : SeesB w' v1 (boxL ps x inside (-1))) => Submitr_any ⟨timesP 37 x, boxL ps x inside (-1)⟩ secret x draw round chain v1 w' (show in64 (timesP 37 x) from in64_P (timesP_pos _ _)) hs hx hd h (by rw [length_boxL]; omega)
  have HBX := Lib.hid (show (onionL ps secret x draw round chain inside).e.box = boxL ps x inside (-1) from rfl)
  have HUS := Lib.hid (show (onionL ps secret x draw round chain inside).user.length = 32 from submitL_user _ _ _ _ _)
  have HMD2 := HMD
  simp only at HMD2
  rw [show submitL ⟨timesP 37 x, boxL ps x inside (-1)⟩ ⟨knowC 37 (timesP 37 x) draw, ansP (knowC 37 (timesP 37 x) draw) x draw⟩ secret round chain = onionL ps secret x draw round chain inside from rfl] at HMD2
  clear HMD
  generalize onionL ps secret x draw round chain inside = OL at *
  generalize timesP 37 x = tx at *
  generalize boxL ps x inside (-1) = BX at *
  clear hps hv hs hx hd hok
  have HZ1 := Lib.hid fun v => subC_size OL v HUS.out
  go_enter Tryz.func56, Tryz.ntmps56
  go_wp2_with (first
    | (go_at_call 97; refine HW.out.mono ?_; rintro r x1 ⟨v1, rfl, hown1, hb1⟩
       obtain ⟨a1, c1, rfl, -, -⟩ := owns_form hown1
       have hbel1 : Ext w x1 := Ext.tr hb0.out hb1
       have hR1 := hR0.out.below hb1)
    | (go_at_call 96; refine (HMD2.out _ _ (sees_of_owns hown1)).mono ?_; rintro r x2 ⟨rfl, hb2⟩
       have hR2 := hR1.below hb2; have hO2 := owns_below hown1 hb2; have hbel2 : Ext w x2 := Ext.tr hbel1 hb2)
    | (refine wpList_store_row rfl 50 (.tmp 14) _ rfl w.heap.size (subC OL (.slice a1 BX.length c1)) _ _ rfl rfl hR2 (subZ_size.trans (HZ1.out _).symm) (by rw [HZ1.out]; exact info_sub) (one_sub _ _ _ _) ?_; intro z hgz hsz hRz))
  refine bodyPost_ret (results_cell_row Tryz.results56 _ _ w.heap.size _ _ (0, 0) _ rfl hRz Tryz.underlying50 rfl (by rw [HZ1.out]; exact info_sub)) rfl ?_
  exact ⟨_, rfl, by rw [HBX.out]; exact owns_mono (own_grown hO2 hgz (RowT.blk hR2) (by decide)) hb0.out.size, ext_row hbel2 hgz (Nat.le_refl _)⟩
set_option maxRecDepth 100000 in
set_option maxHeartbeats 2000000 in
theorem SameSub_any (s : Sub) (v1 v2 : Value) (w : World) (hs : s.user.length = 32) (h1 : SeesB w v1 s.e.box) (h2 : SeesB w v2 s.e.box) :
    Calls Tryz.prog 31 #[.agg (subC s v1), .agg (subC s v2)] w fun e w' => e = .returned (.bool true) ∧ Below w.heap.size w w' := by
  obtain ⟨a1, c1, rfl, -, -⟩ := sees_form h1
  obtain ⟨a2, c2, rfl, -, -⟩ := sees_form h2
  have hA := Lib.hid ((Blk.new w (subC s (.slice a1 s.e.box.length c1)) 50).alloc (.cells (subC s (.slice a2 s.e.box.length c2)) 50))
  have hB := Lib.hid (Blk.new2 w (.cells (subC s (.slice a1 s.e.box.length c1)) 50) (subC s (.slice a2 s.e.box.length c2)) 50)
  have hb0 := Lib.hid (show Ext w ((w.alloc (.cells (subC s (.slice a1 s.e.box.length c1)) 50)).alloc (.cells (subC s (.slice a2 s.e.box.length c2)) 50)) from (show Below w.heap.size w _ by go_grown))
  have HS := Lib.hid fun (w' : World) (e : Ext w w') => (show Calls Tryz.prog 57 #[.agg #[.int .u64 s.e.x, .slice a1 s.e.box.length c1], .agg #[.int .u64 s.e.x, .slice a2 s.e.box.length c2]] w' fun e w'' => e = .returned (.bool true) ∧ Below w'.heap.size w' w'' from by
    have := Same2r_any s.e s.e _ _ w' (h1.below e (by decide)) (h2.below e (by decide)); rwa [decide_eq_true (rfl : s.e = s.e)] at this)
  have H32 := Lib.hid hs
  have hu1 := Lib.hid (sub_user hA.out); have hu2 := Lib.hid (sub_user hB.out)
  have HN := Lib.hid (show (s.user.map BV).length = 32 by rw [List.length_map]; exact hs)
  clear h1 h2 hs
  go_enter Tryz.func31, Tryz.ntmps31
  go_wp2_with (first
    | (refine wpList_load_midG rfl 24 (.tmp 5) rfl w.heap.size 0 rfl _ _ hu1.out under_key rfl (by rw [HN.out]; exact info_key) ?_)
    | (refine wpList_load_midG rfl 24 (.tmp 7) rfl (w.heap.size + 1) 0 rfl _ _ hu2.out under_key rfl (by rw [HN.out]; exact info_key) ?_)
    | (refine wpList_cmp rfl 24 _ _ rfl _ _ _ rfl rfl guard_key (fun W => run_eqKey s.user s.user H32.out H32.out W) ?_; rw [beq_self_eq_true])
    | (refine wpList_load_midG rfl 46 (.tmp 11) rfl w.heap.size 32 rfl _ _ (sub_e hA.out H32.out) Tryz.underlying46 rfl info_entry ?_)
    | (refine wpList_load_midG rfl 46 (.tmp 13) rfl (w.heap.size + 1) 32 rfl _ _ (sub_e hB.out H32.out) Tryz.underlying46 rfl info_entry ?_)
    | (go_at_call 57; refine (HS.out _ hb0.out).mono ?_; rintro r x1 ⟨rfl, hb1⟩
       have hA1 := hA.out.below hb1; have hB1 := hB.out.below hb1; have hup : Ext w x1 := Ext.tr hb0.out hb1)
    | (refine wpList_load_midG rfl 48 (.tmp 18) rfl w.heap.size 34 rfl _ _ (sub_p hA1 H32.out) Tryz.underlying48 rfl info_proof ?_)
    | (refine wpList_load_midG rfl 48 (.tmp 20) rfl (w.heap.size + 1) 34 rfl _ _ (sub_p hB1 H32.out) Tryz.underlying48 rfl info_proof ?_)
    | (refine wpList_load_midG rfl 48 (.tmp 25) rfl w.heap.size 36 rfl _ _ (sub_g hA1 H32.out) Tryz.underlying48 rfl info_proof ?_)
    | (refine wpList_load_midG rfl 48 (.tmp 27) rfl (w.heap.size + 1) 36 rfl _ _ (sub_g hB1 H32.out) Tryz.underlying48 rfl info_proof ?_)
    | (refine wpList_eqP rfl _ _ rfl _ _ _ _ rfl rfl ?_))
  go_ret
  exact ⟨by simp, hup⟩
end Go.Proofs.YtbgnfioggmkdeaaGreatDoor
