/-
  Keys compared.
-/
import Derived.Test.YtngkjngfiakmaaaDoorKe
namespace Go.Proofs.YtngkjngfiakmaaaDoor
set_option linter.unusedVariables false
set_option linter.unusedSimpArgs false
open Go Go.RowKit

theorem stood_pub : Tryd.prog.stoodInHeld 39 = false := by kernel_rfl
theorem guard_pub : Tryd.prog.eqGuardType Tryd.prog.depth 39 = false := by kernel_rfl
theorem fields_pub : Tryd.prog.underlying 39 = some (.struct (Tryd.prog.fieldsOf 39)) := by kernel_rfl
theorem stood_sec : Tryd.prog.stoodInHeld 27 = false := by kernel_rfl
theorem guard_sec : Tryd.prog.eqGuardType Tryd.prog.depth 27 = false := by kernel_rfl
theorem fields_sec : Tryd.prog.underlying 27 = some (.struct (Tryd.prog.fieldsOf 27)) := by kernel_rfl
theorem run_eqInP (c s : Int) (w : World) : (Op.equalIn 9998 37 (.agg #[.int .u64 c, .int .u64 s]) (.agg #[.int .u64 c, .int .u64 s])).run Tryd.prog w = .ok true w := by
  rw [run_equalIn_agg w 9997 _ _ _ fields_proof stood_proof]
  unfold Program.fieldsOf
  rw [Tryd.underlying37]
  have h1 : (Tryd.prog.info? 25).map (·.size) = some 1 := by kernel_rfl
  obtain ⟨ti, hti, hsz⟩ := Option.map_eq_some_iff.1 h1
  have e (a b : Int) := run_equalIn_int (P := Tryd.prog) w 9996 25 .u64 .u64 a b Tryd.underlying25
  simp [Op.eqFields, part, sizeOf, typeInfo, hti, hsz, e, go_sem]
theorem run_eqInPub (p : Pub) (w : World) : (Op.equalIn 10000 39 (.agg p.cells.toArray) (.agg p.cells.toArray)).run Tryd.prog w = .ok true w := by
  rw [run_equalIn_agg w 9999 _ _ _ fields_pub stood_pub]
  unfold Program.fieldsOf
  rw [Tryd.underlying39]
  have h1 : (Tryd.prog.info? 25).map (·.size) = some 1 := by kernel_rfl
  obtain ⟨ti, hti, hsz⟩ := Option.map_eq_some_iff.1 h1
  have h2 : (Tryd.prog.info? 37).map (·.size) = some 2 := by kernel_rfl
  obtain ⟨tp, htp, hpz⟩ := Option.map_eq_some_iff.1 h2
  have e (a b : Int) := run_equalIn_int (P := Tryd.prog) w 9998 25 .u64 .u64 a b Tryd.underlying25
  have eP (a b : Int) := run_eqInP a b w
  simp [Op.eqFields, part, sizeOf, typeInfo, hti, hsz, htp, hpz, e, eP, Pub.cells, go_sem]
theorem run_eqInSec (a b c : Int) (w : World) : (Op.equalIn 10000 27 (.agg (SecC a b c)) (.agg (SecC a b c))).run Tryd.prog w = .ok true w := by
  rw [run_equalIn_agg w 9999 _ _ _ fields_sec stood_sec]
  unfold Program.fieldsOf
  rw [Tryd.underlying27]
  have h1 : (Tryd.prog.info? 25).map (·.size) = some 1 := by kernel_rfl
  obtain ⟨ti, hti, hsz⟩ := Option.map_eq_some_iff.1 h1
  have e (a b : Int) := run_equalIn_int (P := Tryd.prog) w 9998 25 .u64 .u64 a b Tryd.underlying25
  simp [Op.eqFields, part, sizeOf, typeInfo, hti, hsz, e, go_sem]
theorem run_eqPub (p : Pub) (w : World) : (binOp .eql 39 (.agg p.cells.toArray) (.agg p.cells.toArray)).run Tryd.prog w = .ok (.bool true) w := by
  rw [run_eql_struct, run_eqInPub]; rfl
theorem run_nePub (p : Pub) (w : World) : (binOp .neq 39 (.agg p.cells.toArray) (.agg p.cells.toArray)).run Tryd.prog w = .ok (.bool false) w := by
  rw [run_neq_struct, run_eqInPub]; rfl
theorem run_eqSec (a b c : Int) (w : World) : (binOp .eql 27 (.agg (SecC a b c)) (.agg (SecC a b c))).run Tryd.prog w = .ok (.bool true) w := by
  rw [run_eql_struct, run_eqInSec]; rfl
def SamRel (w : World) (n : Nat) (i : Value) (wr : World) : Prop := ∃ k : Nat, k ≤ n ∧ i = .int .i64 k ∧ Ext w wr
set_option maxRecDepth 100000 in
set_option maxHeartbeats 1000000 in
theorem SameP_any (l : List Pub) (v1 v2 : Value) (w : World) (h1 : SeesP w v1 l) (h2 : SeesP w v2 l) (hl : l.length ≤ 1000000) :
    Calls Tryd.prog 18 #[v1, v2] w fun e w' => e = .returned (.bool true) ∧ Below w.heap.size w w' := by
  have H1 := Lib.hid h1; have H2 := Lib.hid h2
  obtain ⟨a1, c1, rfl, -, -⟩ := sees_form h1
  obtain ⟨a2, c2, rfl, -, -⟩ := sees_form h2
  clear h1 h2
  have hst : Stab (fun u => Ext w u) := fun _ _ h hb => Ext.tr h hb
  go_enter Tryd.func18, Tryd.ntmps18
  go_wp2_with fail
  go_loopw [5] (fun i wr => SamRel w l.length i wr) (fun i _ => l.length - (intOf i).toNat)
  case atStart => exact ⟨0, Nat.zero_le _, rfl, Ext.refl _⟩
  case round =>
    obtain ⟨k, hk, rfl, hX⟩ := hrel
    by_cases hlt : k < l.length
    · obtain ⟨p, hpe⟩ : ∃ p, l[k]? = some p := ⟨_, List.getElem?_eq_getElem hlt⟩
      obtain ⟨bA, oA, cA, e1⟩ := seesP_opn H1.out (by omega)
      obtain ⟨rfl, rfl⟩ : a1 = some ⟨bA, oA, none⟩ ∧ c1 = cA := by injection e1 with e1 _ e3; exact ⟨e1, e3⟩
      obtain ⟨bB, oB, cB, e2⟩ := seesP_opn H2.out (by omega)
      obtain ⟨rfl, rfl⟩ : a2 = some ⟨bB, oB, none⟩ ∧ c2 = cB := by injection e2 with e1 _ e3; exact ⟨e1, e3⟩
      have HR1 := Lib.hid (seesP_at H1.out (by omega) k p hpe)
      have HR2 := Lib.hid (seesP_at H2.out (by omega) k p hpe)
      clear e1 e2 hpe
      have hd : decide (l.length ≤ k) = false := decide_eq_false (by omega)
      have hkS : HoldT (fun u => Ext w u) w wr.drew := HoldT.drew hst ⟨hX, hX⟩
      go_wp2_with fail
      try change Code.wp _ _ _ (Act.mk _ _) _
      refine wp_region_runR Ext 9 26 (HoldT (fun u => Ext w u) _) [[], [], [(0, 17), (1, 18)], [(2, 19)], [], [], [(4, 21), (5, 22)], [(6, 23)], [(3, 20), (7, 24)]] [(0, 17), (1, 18), (2, 19), (3, 20), (4, 21), (5, 22), (6, 23), (7, 24), (8, 25)] (by kernel_rfl) (by kernel_rfl) (by first | rfl | simp) (hkS) ?_
      simp only [List.take_succ_cons, List.take_zero, List.drop_succ_cons, List.drop_zero]
      refine sp_op (Ph.eq _) (fun u hu => by
        refine spArg_nil ?_
        go_wp2_with (fail)
        exact ⟨rfl, hu, Ext.refl _, slot_eq rfl⟩) ?_
      refine sp_op (Ph.eq _) (fun u hu => by
        refine spArg_nil ?_
        go_wp2_with (fail)
        exact ⟨rfl, hu, Ext.refl _, slot_eq rfl⟩) ?_
      refine sp_op (Ph.eq _) (fun u hu => by
        refine spArg_eq 1 rfl rfl ?_
        refine spArg_eq 0 rfl rfl ?_
        refine spArg_nil ?_
        simp only [Act.put, List.setIfInBounds_toArray, List.set_cons_succ, List.set_cons_zero]
        go_wp2_with (fail)
        exact ⟨rfl, hu, Ext.refl _, slot_eq rfl⟩) ?_
      refine sp_op (Ph.eq _) (fun u hu => by
        refine spArg_eq 0 rfl rfl ?_
        refine spArg_nil ?_
        simp only [Act.put, List.setIfInBounds_toArray, List.set_cons_succ, List.set_cons_zero]
        go_wp2_with ((refine wpList_load_midG rfl 39 _ rfl (bA) (oA + k * 10) rfl _ _ (range_ext HR1.out hu.has) Tryd.underlying39 rfl (info_pub) ?_))
        exact ⟨rfl, hu, Ext.refl _, slot_eq rfl⟩) ?_
      refine sp_op (Ph.eq _) (fun u hu => by
        refine spArg_nil ?_
        go_wp2_with (fail)
        exact ⟨rfl, hu, Ext.refl _, slot_eq rfl⟩) ?_
      refine sp_op (Ph.eq _) (fun u hu => by
        refine spArg_nil ?_
        go_wp2_with (fail)
        exact ⟨rfl, hu, Ext.refl _, slot_eq rfl⟩) ?_
      refine sp_op (Ph.eq _) (fun u hu => by
        refine spArg_eq 1 rfl rfl ?_
        refine spArg_eq 0 rfl rfl ?_
        refine spArg_nil ?_
        simp only [Act.put, List.setIfInBounds_toArray, List.set_cons_succ, List.set_cons_zero]
        go_wp2_with (fail)
        exact ⟨rfl, hu, Ext.refl _, slot_eq rfl⟩) ?_
      refine sp_op (Ph.eq _) (fun u hu => by
        refine spArg_eq 0 rfl rfl ?_
        refine spArg_nil ?_
        simp only [Act.put, List.setIfInBounds_toArray, List.set_cons_succ, List.set_cons_zero]
        go_wp2_with ((refine wpList_load_midG rfl 39 _ rfl (bB) (oB + k * 10) rfl _ _ (range_ext HR2.out hu.has) Tryd.underlying39 rfl (info_pub) ?_))
        exact ⟨rfl, hu, Ext.refl _, slot_eq rfl⟩) ?_
      refine sp_op (Ph.eq _) (fun u hu => by
        refine spArg_eq 4 rfl rfl ?_
        refine spArg_eq 0 rfl rfl ?_
        refine spArg_nil ?_
        simp only [Act.put, List.setIfInBounds_toArray, List.set_cons_succ, List.set_cons_zero]
        go_wp2_with ((refine wpList_cmp rfl 39 _ _ rfl p.cells.toArray p.cells.toArray (.bool false) rfl rfl guard_pub (run_nePub p) ?_))
        exact ⟨rfl, hu, Ext.refl _, slot_eq rfl⟩) ?_
      refine sp_end ?_
      intro u hu
      refine spArg_eq 8 rfl rfl ?_
      refine spArg_eq 7 rfl rfl ?_
      refine spArg_eq 6 rfl rfl ?_
      refine spArg_eq 5 rfl rfl ?_
      refine spArg_eq 4 rfl rfl ?_
      refine spArg_eq 3 rfl rfl ?_
      refine spArg_eq 2 rfl rfl ?_
      refine spArg_eq 1 rfl rfl ?_
      refine spArg_eq 0 rfl rfl ?_
      refine spArg_nil ?_
      simp only [Act.put, List.setIfInBounds_toArray, List.set_cons_succ, List.set_cons_zero]
      go_wp2_with fail
      go_roundw
      case rel => exact ⟨k + 1, by omega, by go_num, hu.up⟩
      case measure => simp [intOf]; omega
    · obtain rfl : k = l.length := by omega
      go_wp2_with fail
      go_ret
      exact ⟨rfl, hX⟩
theorem sees1_at {w : World} {b o m c : Nat} {l : List Int} (h : Sees w 1 (.slice (some ⟨b, o, none⟩) m c) l.length (l.map UV)) (i : Nat) (x : Int) (hi : l[i]? = some x) : w.cell? ⟨b, o + i, none⟩ = some (UV x) := by
  obtain ⟨_, a', c', e1, _, _, _, hc⟩ := h
  obtain ⟨b', o', rfl, hcell⟩ := hc (by have := (List.getElem?_eq_some_iff.1 hi).1; omega)
  injection e1 with e1 _ _
  injection e1 with e1
  injection e1 with e1 e2 _
  subst e1; subst e2
  exact hcell i _ (by rw [List.getElem?_map, hi]; rfl)
set_option maxRecDepth 100000 in
set_option maxHeartbeats 1000000 in
theorem SameN_any (l : List Int) (v1 v2 : Value) (w : World) (h1 : SeesU w v1 l) (h2 : SeesU w v2 l) (hl : l.length ≤ 1000000) :
    Calls Tryd.prog 12 #[v1, v2] w fun e w' => e = .returned (.bool true) ∧ Below w.heap.size w w' := by
  have H1 := Lib.hid h1; have H2 := Lib.hid h2
  obtain ⟨a1, c1, rfl, -, -⟩ := sees_form h1
  obtain ⟨a2, c2, rfl, -, -⟩ := sees_form h2
  clear h1 h2
  have hst : Stab (fun u => Ext w u) := fun _ _ h hb => Ext.tr h hb
  go_enter Tryd.func12, Tryd.ntmps12
  go_wp2_with fail
  go_loopw [5] (fun i wr => SamRel w l.length i wr) (fun i _ => l.length - (intOf i).toNat)
  case atStart => exact ⟨0, Nat.zero_le _, rfl, Ext.refl _⟩
  case round =>
    obtain ⟨k, hk, rfl, hX⟩ := hrel
    by_cases hlt : k < l.length
    · obtain ⟨x, hpe⟩ : ∃ x, l[k]? = some x := ⟨_, List.getElem?_eq_getElem hlt⟩
      obtain ⟨bA, oA, rfl⟩ : ∃ b o, a1 = some ⟨b, o, none⟩ := by
        obtain ⟨_, a', c', e1, _, _, _, hc⟩ := H1.out
        obtain ⟨b, o, rfl, _⟩ := hc (by omega)
        injection e1 with e1; exact ⟨b, o, e1⟩
      obtain ⟨bB, oB, rfl⟩ : ∃ b o, a2 = some ⟨b, o, none⟩ := by
        obtain ⟨_, a', c', e1, _, _, _, hc⟩ := H2.out
        obtain ⟨b, o, rfl, _⟩ := hc (by omega)
        injection e1 with e1; exact ⟨b, o, e1⟩
      have HR1 := Lib.hid (sees1_at H1.out k x hpe)
      have HR2 := Lib.hid (sees1_at H2.out k x hpe)
      clear hpe
      have hd : decide (l.length ≤ k) = false := decide_eq_false (by omega)
      have hkS : HoldT (fun u => Ext w u) w wr.drew := HoldT.drew hst ⟨hX, hX⟩
      go_wp2_with fail
      try change Code.wp _ _ _ (Act.mk _ _) _
      refine wp_region_runR Ext 9 26 (HoldT (fun u => Ext w u) _) [[], [], [(0, 17), (1, 18)], [(2, 19)], [], [], [(4, 21), (5, 22)], [(6, 23)], [(3, 20), (7, 24)]] [(0, 17), (1, 18), (2, 19), (3, 20), (4, 21), (5, 22), (6, 23), (7, 24), (8, 25)] (by kernel_rfl) (by kernel_rfl) (by first | rfl | simp) (hkS) ?_
      simp only [List.take_succ_cons, List.take_zero, List.drop_succ_cons, List.drop_zero]
      refine sp_op (Ph.eq _) (fun u hu => by
        refine spArg_nil ?_
        have q1 := (Below.cell hu.has (World.block_lt_of_cell? w _ HR1.out)).trans HR1.out
        have q2 := (Below.cell hu.has (World.block_lt_of_cell? w _ HR2.out)).trans HR2.out
        go_wp2_with (fail)
        exact ⟨rfl, hu, Ext.refl _, slot_eq rfl⟩) ?_
      refine sp_op (Ph.eq _) (fun u hu => by
        refine spArg_nil ?_
        have q1 := (Below.cell hu.has (World.block_lt_of_cell? w _ HR1.out)).trans HR1.out
        have q2 := (Below.cell hu.has (World.block_lt_of_cell? w _ HR2.out)).trans HR2.out
        go_wp2_with (fail)
        exact ⟨rfl, hu, Ext.refl _, slot_eq rfl⟩) ?_
      refine sp_op (Ph.eq _) (fun u hu => by
        refine spArg_eq 1 rfl rfl ?_
        refine spArg_eq 0 rfl rfl ?_
        refine spArg_nil ?_
        simp only [Act.put, List.setIfInBounds_toArray, List.set_cons_succ, List.set_cons_zero]
        have q1 := (Below.cell hu.has (World.block_lt_of_cell? w _ HR1.out)).trans HR1.out
        have q2 := (Below.cell hu.has (World.block_lt_of_cell? w _ HR2.out)).trans HR2.out
        go_wp2_with (fail)
        exact ⟨rfl, hu, Ext.refl _, slot_eq rfl⟩) ?_
      refine sp_op (Ph.eq _) (fun u hu => by
        refine spArg_eq 0 rfl rfl ?_
        refine spArg_nil ?_
        simp only [Act.put, List.setIfInBounds_toArray, List.set_cons_succ, List.set_cons_zero]
        have q1 := (Below.cell hu.has (World.block_lt_of_cell? w _ HR1.out)).trans HR1.out
        have q2 := (Below.cell hu.has (World.block_lt_of_cell? w _ HR2.out)).trans HR2.out
        go_wp2_with (fail)
        exact ⟨rfl, hu, Ext.refl _, slot_eq rfl⟩) ?_
      refine sp_op (Ph.eq _) (fun u hu => by
        refine spArg_nil ?_
        have q1 := (Below.cell hu.has (World.block_lt_of_cell? w _ HR1.out)).trans HR1.out
        have q2 := (Below.cell hu.has (World.block_lt_of_cell? w _ HR2.out)).trans HR2.out
        go_wp2_with (fail)
        exact ⟨rfl, hu, Ext.refl _, slot_eq rfl⟩) ?_
      refine sp_op (Ph.eq _) (fun u hu => by
        refine spArg_nil ?_
        have q1 := (Below.cell hu.has (World.block_lt_of_cell? w _ HR1.out)).trans HR1.out
        have q2 := (Below.cell hu.has (World.block_lt_of_cell? w _ HR2.out)).trans HR2.out
        go_wp2_with (fail)
        exact ⟨rfl, hu, Ext.refl _, slot_eq rfl⟩) ?_
      refine sp_op (Ph.eq _) (fun u hu => by
        refine spArg_eq 1 rfl rfl ?_
        refine spArg_eq 0 rfl rfl ?_
        refine spArg_nil ?_
        simp only [Act.put, List.setIfInBounds_toArray, List.set_cons_succ, List.set_cons_zero]
        have q1 := (Below.cell hu.has (World.block_lt_of_cell? w _ HR1.out)).trans HR1.out
        have q2 := (Below.cell hu.has (World.block_lt_of_cell? w _ HR2.out)).trans HR2.out
        go_wp2_with (fail)
        exact ⟨rfl, hu, Ext.refl _, slot_eq rfl⟩) ?_
      refine sp_op (Ph.eq _) (fun u hu => by
        refine spArg_eq 0 rfl rfl ?_
        refine spArg_nil ?_
        simp only [Act.put, List.setIfInBounds_toArray, List.set_cons_succ, List.set_cons_zero]
        have q1 := (Below.cell hu.has (World.block_lt_of_cell? w _ HR1.out)).trans HR1.out
        have q2 := (Below.cell hu.has (World.block_lt_of_cell? w _ HR2.out)).trans HR2.out
        go_wp2_with (fail)
        exact ⟨rfl, hu, Ext.refl _, slot_eq rfl⟩) ?_
      refine sp_op (Ph.eq _) (fun u hu => by
        refine spArg_eq 4 rfl rfl ?_
        refine spArg_eq 0 rfl rfl ?_
        refine spArg_nil ?_
        simp only [Act.put, List.setIfInBounds_toArray, List.set_cons_succ, List.set_cons_zero]
        have q1 := (Below.cell hu.has (World.block_lt_of_cell? w _ HR1.out)).trans HR1.out
        have q2 := (Below.cell hu.has (World.block_lt_of_cell? w _ HR2.out)).trans HR2.out
        go_wp2_with (fail)
        exact ⟨rfl, hu, Ext.refl _, slot_eq rfl⟩) ?_
      refine sp_end ?_
      intro u hu
      refine spArg_eq 8 rfl rfl ?_
      refine spArg_eq 7 rfl rfl ?_
      refine spArg_eq 6 rfl rfl ?_
      refine spArg_eq 5 rfl rfl ?_
      refine spArg_eq 4 rfl rfl ?_
      refine spArg_eq 3 rfl rfl ?_
      refine spArg_eq 2 rfl rfl ?_
      refine spArg_eq 1 rfl rfl ?_
      refine spArg_eq 0 rfl rfl ?_
      refine spArg_nil ?_
      simp only [Act.put, List.setIfInBounds_toArray, List.set_cons_succ, List.set_cons_zero]
      go_wp2_with fail
      go_roundw
      case rel => exact ⟨k + 1, by omega, by go_num, hu.up⟩
      case measure => simp [intOf]; omega
    · obtain rfl : k = l.length := by omega
      go_wp2_with fail
      go_ret
      exact ⟨rfl, hX⟩
end Go.Proofs.YtngkjngfiakmaaaDoor
