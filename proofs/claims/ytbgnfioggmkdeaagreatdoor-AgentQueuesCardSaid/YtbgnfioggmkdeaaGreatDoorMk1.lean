/-
  Submissions made: both programs.
-/
import Derived.Test.YtbgnfioggmkdeaaGreatDoorSub3
import Derived.Test.YtbgnfioggmkdeaaGreatDoorBl11
import Derived.Test.YtbgnfioggmkdeaaGreatDoorPr
namespace Go.Proofs.YtbgnfioggmkdeaaGreatDoor
set_option linter.unusedVariables false
set_option linter.unusedSimpArgs false
open Go Go.RowKit

theorem fill_key (u : List UInt8) (h32 : u.length = 32) (base : List Value) (hb : 32 ≤ base.length) : Array.foldl (fun (cs : Array Value) (x : Value × Nat) => cs.setIfInBounds x.snd x.fst) base.toArray (keyA u).zipIdx 0 32 = (u.map BV ++ base.drop 32).toArray := by
  have h1 := fill_at (u.map BV) base 0 (by simp; omega)
  rw [Nat.zero_add, List.length_map, h32, List.take_zero, List.nil_append] at h1
  rw [← h1]
  unfold keyA
  have hz : ((List.map BV u).toArray.zipIdx).size = 32 := by simp [h32]
  have h2 := Array.foldl_toList (f := fun (cs : Array Value) (x : Value × Nat) => cs.setIfInBounds x.snd x.fst) (init := base.toArray) (xs := (List.map BV u).toArray.zipIdx)
  rw [hz] at h2
  rw [← h2, Array.toList_zipIdx]
theorem in64_N {x : Int} (h : 0 ≤ x ∧ x < 2305843009213693950) : in64 x := ⟨h.1, Int.lt_trans h.2 (by decide)⟩
def subZ (u : List UInt8) (x : Int) (c s c' s' : Int) : Sub := ⟨u, ⟨x, []⟩, ⟨c, s⟩, ⟨c', s'⟩⟩
theorem run_buildSub2 (u : List UInt8) (x : Int) (v : Value) (h32 : u.length = 32) (W : World) : (Instr.build 50 #[(0, .agg (keyA u)), (1, .agg #[.int .u64 x, v])]).run Tryz.prog W = .ok (.agg (subC (subZ u x 0 0 0 0) v)) W := by
  have hs : (keyA u).size = 32 := by rw [keyA_size, h32]
  have hf := fill_key u h32
  simp [go_sem, hs]
  rw [hf _ (by simp)]
  simp [subC, Sub.cells, subZ, h32]
theorem run_buildSub3 (u : List UInt8) (x : Int) (v : Value) (c s : Int) (h32 : u.length = 32) (W : World) : (Instr.build 50 #[(0, .agg (keyA u)), (1, .agg #[.int .u64 x, v]), (2, .agg #[.int .u64 c, .int .u64 s])]).run Tryz.prog W = .ok (.agg (subC (subZ u x c s 0 0) v)) W := by
  have hs : (keyA u).size = 32 := by rw [keyA_size, h32]
  have hf := fill_key u h32
  simp [go_sem, hs]
  rw [hf _ (by simp)]
  simp [subC, Sub.cells, subZ, h32]
theorem subC_putg (s : Sub) (v : Value) (c q : Int) (h : s.user.length = 32) : ((subC s v).toList.take 36 ++ (#[Value.int .u64 c, .int .u64 q]).toList ++ (subC s v).toList.drop (36 + (#[Value.int .u64 c, .int .u64 q]).size)).toArray = subC ⟨s.user, s.e, s.p, ⟨c, q⟩⟩ v := by
  have e1 : List.take 36 (s.user.map BV) = s.user.map BV := List.take_of_length_le (by simp [h])
  have e2 : List.drop 38 (s.user.map BV) = [] := List.drop_of_length_le (by simp [h])
  simp [subC, Sub.cells, h, List.take_append, List.drop_append, e1, e2]
theorem subC_putp (s : Sub) (v : Value) (c q : Int) (h : s.user.length = 32) : ((subC s v).toList.take 34 ++ (#[Value.int .u64 c, .int .u64 q]).toList ++ (subC s v).toList.drop (34 + (#[Value.int .u64 c, .int .u64 q]).size)).toArray = subC ⟨s.user, s.e, ⟨c, q⟩, s.g⟩ v := by
  have e1 : List.take 34 (s.user.map BV) = s.user.map BV := List.take_of_length_le (by simp [h])
  have e2 : List.drop 36 (s.user.map BV) = [] := List.drop_of_length_le (by simp [h])
  simp [subC, Sub.cells, h, List.take_append, List.drop_append, e1, e2]
theorem sub_e {w : World} {g : Nat} {s : Sub} {vb : Value} {t : TypeId} (h : Blk w g (subC s vb) t) (h32 : s.user.length = 32) : w.rangeAt g 32 [.int .u64 s.e.x, vb] := blk_range h 32 _ (fun j u hj => by
  match j, hj with
  | 0, hj => rw [subC_get s vb h32 0]; exact hj
  | 1, hj => rw [subC_get s vb h32 1]; exact hj)
theorem subC_box (s t : Sub) (v : Value) (h1 : s.user = t.user) (h2 : s.e.x = t.e.x) (h3 : s.p = t.p) (h4 : s.g = t.g) : subC s v = subC t v := by
  simp [subC, Sub.cells, h1, h2, h3, h4]
/-- What a submission of an entry is. -/
def submitL (e : Ent) (p : Prf) (secret round chain : Int) : Sub := ⟨nameL (timesP 37 secret), e, p, ⟨signC secret (signedL e.x e.box round chain), signS secret (signedL e.x e.box round chain)⟩⟩
theorem length_nameL' (pub : Int) : (nameL pub).length = 32 := length_sha _
theorem one_sub (s : Sub) (a : Option Addr) (n c : Nat) : ∀ u ∈ (subC s (.slice a n c)).toList, u.oneCell' = true := by
  intro u hu
  simp only [subC, List.toList_toArray, Sub.cells, List.mem_append] at hu
  rcases hu with hu | hu
  · obtain ⟨b, _, rfl⟩ := List.mem_map.1 hu; rfl
  · simp at hu; rcases hu with rfl | rfl | rfl | rfl | rfl | rfl <;> rfl
abbrev SubZ : Array Value := #[.int .u8 0, .int .u8 0, .int .u8 0, .int .u8 0, .int .u8 0, .int .u8 0, .int .u8 0, .int .u8 0, .int .u8 0, .int .u8 0, .int .u8 0, .int .u8 0, .int .u8 0, .int .u8 0, .int .u8 0, .int .u8 0, .int .u8 0, .int .u8 0, .int .u8 0, .int .u8 0, .int .u8 0, .int .u8 0, .int .u8 0, .int .u8 0, .int .u8 0, .int .u8 0, .int .u8 0, .int .u8 0, .int .u8 0, .int .u8 0, .int .u8 0, .int .u8 0, .int .u64 0, .slice none 0 0, .int .u64 0, .int .u64 0, .int .u64 0, .int .u64 0]
theorem run_allocSub (w : World) : (Instr.alloc 50 true (.tuple #[])).run Tryz.prog w = .ok (.pointer (some ⟨w.heap.size, 0, none⟩)) (w.alloc (.cells SubZ 50)) := by
  simp [go_sem]
theorem subZ_size : SubZ.size = 38 := rfl
theorem prf0_ok : (Prf.mk 0 0).ok := ⟨⟨by decide, by decide⟩, ⟨by decide, by decide⟩⟩
theorem wpList_build3 {P : Program} {ops : Array Oper} {rest : List Oper} {o : Oper} {a : Act} {w : World} {Q : Exit → Act → World → Prop} (hgd : o.guard = none) (ty : TypeId) (i j k : Nat) (x y z : Operand) (ho : o.op = .build ty #[(i, x), (j, y), (k, z)])
    (u v t r : Value) (hx : a.eval x = u) (hy : a.eval y = v) (hz : a.eval z = t) (hrun : (Instr.build ty #[(i, u), (j, v), (k, t)]).run P w = .ok r w) (h : wpList P ops Q rest (a.put o.dst r) w) : wpList P ops Q (o :: rest) a w := by
  refine wpList_plain hgd fun K hK => ?_
  unfold Oper.wp
  simp only [execOp, ho, List.map_toArray, List.map_cons, List.map_nil, hx, hy, hz, Sem.run_bind, hrun, Result.andThen_ok, Sem.run_pure]
  exact hK _ _ h
/-- What is known of such a call's own memory. -/
def MkC (w : World) (EC PC RC : Array Value) (u : World) : Prop := Blk u w.heap.size EC 46 ∧ Blk u (w.heap.size + 1) PC 48 ∧ Blk u (w.heap.size + 1 + 1) RC 50
theorem stabMkC (w : World) (EC PC RC : Array Value) : Stab (MkC w EC PC RC) := Stab.and (Stab.blk _ _ _) (Stab.and (Stab.blk _ _ _) (Stab.blk _ _ _))
set_option maxRecDepth 100000 in
set_option maxHeartbeats 4000000 in
theorem Made_any (e : Ent) (p : Prf) (secret round chain : Int) (ve : Value) (w : World) (he : e.ok) (hp : p.ok) (hs : in64 secret) (hv : SeesB w ve e.box) (hl : e.box.length ≤ 20000000000000) :
    Calls Tryz.prog 125 #[.agg #[.int .u64 e.x, ve], .agg #[.int .u64 p.c, .int .u64 p.s], .int .u64 secret, .int .i64 round, .int .i64 chain] w fun r w' => r = .returned (.agg (subC (submitL e p secret round chain) ve)) ∧ Below w.heap.size w w' := by
  obtain ⟨ae, ce, rfl, -, -⟩ := sees_form hv
  have hst : Stab (fun u => MkC w #[.int .u64 e.x, .slice ae e.box.length ce] #[.int .u64 p.c, .int .u64 p.s] SubZ u ∧ SeesB u (.slice ae e.box.length ce) e.box) := Stab.and (stabMkC _ _ _ _) (Stab.sees _ _ _ _ (by decide))
  have hk : HoldT (fun u => MkC w #[.int .u64 e.x, .slice ae e.box.length ce] #[.int .u64 p.c, .int .u64 p.s] SubZ u ∧ SeesB u (.slice ae e.box.length ce) e.box) w (((w.alloc (.cells #[.int .u64 e.x, .slice ae e.box.length ce] 46)).alloc (.cells #[.int .u64 p.c, .int .u64 p.s] 48)).alloc (.cells SubZ 50)).drew :=
    HoldT.drew hst ⟨⟨⟨((Blk.new _ _ _).alloc _ |>.alloc _), (Blk.new2 _ _ _ _).alloc _, Blk.new3 _ _ _ _ _⟩, hv.below (show Ext w _ from (show Below w.heap.size w _ by go_grown)) (by decide)⟩, (show Below w.heap.size w _ by go_grown)⟩
  have HK := Lib.hid hk
  have HV := Lib.hid hv
  have HPU := Lib.hid fun (w' : World) => Public_any secret w' hs.1 hs.2
  have HNA := Lib.hid fun (w' : World) => Name_any (timesP 37 secret) w' (in64_P (timesP_pos _ _))
  have HU := Lib.hid (length_nameL' (timesP 37 secret))
  have HSG := Lib.hid fun (w' : World) (h : SeesB w' (.slice ae e.box.length ce) e.box) => Signed_any ⟨nameL (timesP 37 secret), e, p, ⟨0, 0⟩⟩ (.slice ae e.box.length ce) round chain w' ⟨length_nameL' _, he, hp, prf0_ok⟩ h (Nat.le_trans hl (by decide))
  have HSI := Lib.hid fun (w' : World) (v : Value) (h : SeesB w' v (signedL e.x e.box round chain)) => Sign_any secret (signedL e.x e.box round chain) v w' hs h (by rw [length_signedL]; decide)
  have HB1 := Lib.hid (show subC ⟨nameL (timesP 37 secret), e, p, ⟨0, 0⟩⟩ (.slice ae e.box.length ce) = subC (subZ (nameL (timesP 37 secret)) e.x p.c p.s 0 0) (.slice ae e.box.length ce) from rfl)
  have HB2 := Lib.hid (show subC (submitL e p secret round chain) (.slice ae e.box.length ce) = subC (subZ (nameL (timesP 37 secret)) e.x p.c p.s (signC secret (signedL e.x e.box round chain)) (signS secret (signedL e.x e.box round chain))) (.slice ae e.box.length ce) from rfl)
  rw [HB1.out] at HSG
  rw [HB2.out]
  generalize signC secret (signedL e.x e.box round chain) = gc at *
  generalize signS secret (signedL e.x e.box round chain) = gs at *
  generalize signedL e.x e.box round chain = SL at *
  generalize nameL (timesP 37 secret) = U at *
  generalize timesP 37 secret = PB at *
  generalize p.c = pc at *
  generalize p.s = ps at *
  clear hk hv HB1 HB2
  have HZ1 := Lib.hid (subC_size (subZ U e.x pc ps 0 0) (.slice ae e.box.length ce) HU.out)
  have HZ2 := Lib.hid (subC_size (subZ U e.x pc ps gc gs) (.slice ae e.box.length ce) HU.out)
  go_enter Tryz.func125, Tryz.ntmps125
  go_wp2_with fail
  have hk := HK.out
  try change Code.wp _ _ _ (Act.mk _ _) _
  refine wp_region_runR Ext 7 26 (HoldT (fun u => MkC w #[.int .u64 e.x, .slice ae e.box.length ce] #[.int .u64 pc, .int .u64 ps] SubZ u ∧ SeesB u (.slice ae e.box.length ce) e.box) _) [[], [(0, 12)], [(1, 13)], [], [], [(2, 14), (3, 15), (4, 16)], []] [(0, 12), (1, 13), (2, 14), (3, 15), (4, 16), (5, 17), (6, 11)] (by kernel_rfl) (by kernel_rfl) (by first | rfl | simp) (hk) ?_
  simp only [List.take_succ_cons, List.take_zero, List.drop_succ_cons, List.drop_zero]
  refine sp_op (Ph.eq _) (fun u hu => by
    refine spArg_nil ?_
    go_wp2_with (fail)
    exact ⟨rfl, hu, Ext.refl _, slot_eq rfl⟩) ?_
  refine sp_op (Ph.eq _) (fun u hu => by
    refine spArg_eq 0 rfl rfl ?_
    refine spArg_nil ?_
    simp only [Act.put, List.setIfInBounds_toArray, List.set_cons_succ, List.set_cons_zero]
    go_wp2_with ((go_at_call 48; refine (HPU.out _).mono ?_; rintro e_ x_ ⟨rfl, rfl⟩))
    exact ⟨rfl, hu, Ext.refl _, slot_eq rfl⟩) ?_
  refine sp_op (Ph.eq _) (fun u hu => by
    refine spArg_eq 0 rfl rfl ?_
    refine spArg_nil ?_
    simp only [Act.put, List.setIfInBounds_toArray, List.set_cons_succ, List.set_cons_zero]
    go_wp2_with ((go_at_call 43; refine (HNA.out _).mono ?_; rintro e_ x_ ⟨rfl, hb_⟩))
    exact ⟨rfl, HoldT.step hst hu hb_, hb_, slot_eq rfl⟩) ?_
  refine sp_op (Ph.eq _) (fun u hu => by
    refine spArg_nil ?_
    go_wp2_with ((refine wpList_load_rowG rfl 46 _ rfl (w.heap.size) rfl _ _ (0, 0) _ (hu.has.1.1) Tryz.underlying46 rfl (info_entry) ?_))
    exact ⟨rfl, hu, Ext.refl _, slot_eq rfl⟩) ?_
  refine sp_op (Ph.eq _) (fun u hu => by
    refine spArg_nil ?_
    go_wp2_with ((refine wpList_load_rowG rfl 48 _ rfl (w.heap.size + 1) rfl _ _ (0, 0) _ (hu.has.1.2.1) Tryz.underlying48 rfl (info_proof) ?_))
    exact ⟨rfl, hu, Ext.refl _, slot_eq rfl⟩) ?_
  refine sp_op (Ph.eq _) (fun u hu => by
    refine spArg_eq 2 rfl rfl ?_
    refine spArg_eq 1 rfl rfl ?_
    refine spArg_eq 0 rfl rfl ?_
    refine spArg_nil ?_
    simp only [Act.put, List.setIfInBounds_toArray, List.set_cons_succ, List.set_cons_zero]
    go_wp2_with ((refine wpList_build3 rfl 50 0 1 2 _ _ _ rfl (.agg (keyA U)) (.agg #[.int .u64 e.x, .slice ae e.box.length ce]) (.agg #[.int .u64 pc, .int .u64 ps]) (.agg (subC (subZ U e.x pc ps 0 0) (.slice ae e.box.length ce))) rfl rfl rfl (run_buildSub3 U e.x (.slice ae e.box.length ce) pc ps HU.out _) ?_))
    exact ⟨rfl, hu, Ext.refl _, slot_eq rfl⟩) ?_
  refine sp_op (Ph.blk (w.heap.size + 1 + 1 + 1) SubZ 50) (fun u hu => by
    refine spArg_nil ?_
    go_wp2_with ((refine wpList_allocB rfl _ rfl SubZ run_allocSub ?_; intro x_ B_ hh_ hB_ e_))
    exact ⟨rfl, HoldT.step hst hu e_, e_, slot_of rfl ⟨B_, rfl, (by have := hu.has.1.2.2.lt; omega), hh_⟩⟩) ?_
  refine sp_end ?_
  intro u hu
  refine spArg_eq 6 rfl rfl ?_
  refine spArg_eq 5 rfl rfl ?_
  refine spArg_eq 4 rfl rfl ?_
  refine spArg_eq 3 rfl rfl ?_
  refine spArg_eq 2 rfl rfl ?_
  refine spArg_eq 1 rfl rfl ?_
  refine spArg_in (φ := Ph.blk (w.heap.size + 1 + 1 + 1) SubZ 50) 0 rfl rfl ?_; intro v6 h6
  obtain ⟨g, rfl, hg0, hG⟩ := h6
  refine spArg_nil ?_
  simp only [Act.put, List.setIfInBounds_toArray, List.set_cons_succ, List.set_cons_zero]
  go_wp2_with (first
    | (refine wpList_store_row rfl 50 (.tmp 11) _ rfl g (subC (subZ U e.x pc ps 0 0) (.slice ae e.box.length ce)) _ _ rfl rfl hG (subZ_size.trans HZ1.out.symm) (by rw [HZ1.out]; exact info_sub) (one_sub _ _ _ _) ?_; intro x7 hg7 hs7 hR7
       have hM7 : MkC w #[.int .u64 e.x, .slice ae e.box.length ce] #[.int .u64 pc, .int .u64 ps] SubZ x7 := ⟨hu.has.1.1.grownBy hg7 (some_ne (by omega)), hu.has.1.2.1.grownBy hg7 (some_ne (by omega)), hu.has.1.2.2.grownBy hg7 (some_ne (by omega))⟩
       have hbel7 : Ext w x7 := hu.up.grown hg7 hu.up.size (fun k hk => by cases hk; omega)
       have hS7 := HV.out.below hbel7 (by decide)
       clear hs7)
    | (refine wpList_load_row rfl 50 (.tmp 11) rfl g rfl _ _ (0, 0) _ hR7 Tryz.underlying50 rfl (by rw [HZ1.out]; exact info_sub) ?_)
    | (go_at_call 171; refine (HSG.out _ hS7).mono ?_; rintro r x8 ⟨v8, rfl, hs8, hb8⟩)
    | (go_at_call 170; refine (HSI.out _ _ hs8).mono ?_; rintro r x9 ⟨rfl, hb9⟩
       have e9 : Ext x7 x9 := Ext.tr hb8 hb9
       have hR9 := hR7.below e9; have hM9 := stabMkC _ _ _ _ _ _ hM7 e9; have hbel9 : Ext w x9 := Ext.tr hbel7 e9)
    | (refine wpList_store_in rfl 48 (.tmp 24) _ rfl g 36 #[.int .u64 gc, .int .u64 gs] _ (subC (subZ U e.x pc ps gc gs) (.slice ae e.box.length ce)) _ rfl rfl hR9 (by rw [HZ1.out]; show 38 ≤ 38; decide) info_proof (by intro v hv; simp at hv; rcases hv with rfl | rfl <;> rfl) (subC_putg (subZ U e.x pc ps 0 0) (.slice ae e.box.length ce) gc gs HU.out) ?_; intro y hgy hsy hRy
       have hMy := hM9.2.2.grownBy hgy (some_ne (by omega))
       have hbely : Ext w y := Below.grown hbel9 hgy (Below.size hbel9) (fun k hk => by cases hk; omega)
       clear hsy)
    | (refine wpList_load_row rfl 50 (.tmp 11) rfl g rfl _ _ (0, 0) _ hRy Tryz.underlying50 rfl (by rw [HZ2.out]; exact info_sub) ?_)
    | (refine wpList_store_row rfl 50 (.tmp 10) _ rfl (w.heap.size + 1 + 1) (subC (subZ U e.x pc ps gc gs) (.slice ae e.box.length ce)) _ _ rfl rfl hMy (subZ_size.trans HZ2.out.symm) (by rw [HZ2.out]; exact info_sub) (one_sub _ _ _ _) ?_; intro z hgz hsz hRz))
  refine bodyPost_ret (results_cell_row Tryz.results125 _ _ (w.heap.size + 1 + 1) _ _ (0, 0) _ rfl hRz Tryz.underlying50 rfl (by rw [HZ2.out]; exact info_sub)) rfl ?_
  exact ⟨rfl, Below.grown hbely hgz (Below.size hbely) (fun k hk => by cases hk; omega)⟩
end Go.Proofs.YtbgnfioggmkdeaaGreatDoor
