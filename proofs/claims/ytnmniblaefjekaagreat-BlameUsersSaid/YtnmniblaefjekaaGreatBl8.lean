/-
  BlameTraces: walked.
-/
import Derived.Test.YtnmniblaefjekaaGreatBl7
namespace Go.Proofs.YtnmniblaefjekaaGreat
set_option linter.unusedVariables false
set_option linter.unusedSimpArgs false
open Go Go.RowKit

theorem stood_verd : Tryz.prog.stoodInHeld 65 = false := by kernel_rfl
theorem guard_verd : Tryz.prog.eqGuardType Tryz.prog.depth 65 = false := by kernel_rfl
theorem fields_verd : Tryz.prog.underlying 65 = some (.struct (Tryz.prog.fieldsOf 65)) := by kernel_rfl
theorem run_eqV (c s c' s' : Int) (w : World) : (binOp .eql 65 (.agg (VerC c s)) (.agg (VerC c' s'))).run Tryz.prog w = .ok (.bool (c == c' && s == s')) w := by
  rw [run_eql_struct, run_equalIn_agg w 9999 _ _ _ fields_verd stood_verd]
  unfold Program.fieldsOf
  rw [Tryz.underlying65]
  have h1 : (Tryz.prog.info? 3).map (·.size) = some 1 := by kernel_rfl
  obtain ⟨ti, hti, hsz⟩ := Option.map_eq_some_iff.1 h1
  have e (a b : Int) := run_equalIn_int (P := Tryz.prog) w 9998 3 .i64 .i64 a b Tryz.underlying3
  simp [Op.eqFields, part, sizeOf, typeInfo, hti, hsz, e, go_sem]
  by_cases h : c = c' <;> by_cases k : s = s' <;> simp [h, k]
def zeroPub : Pub := ⟨0, 0, 0, 0, 0, 0, 0, 0, 0, 0⟩
theorem okZero : zeroPub.ok := by refine ⟨?_, ?_, ?_, ?_, ?_, ?_, ?_, ?_, ?_, ?_⟩ <;> exact ⟨by decide, by decide⟩
theorem trace_nil : traceL [] [] 0 [] = (0, 0) := rfl
theorem trace_one : traceL [zeroPub] [[⟨1, []⟩]] 0 [] = (2, 0) := rfl
set_option maxRecDepth 100000 in
set_option maxHeartbeats 1000000 in
theorem alive20_any (w : World) : Calls Tryz.prog 20 #[] w fun e w' => e = .returned (.bool true) ∧ Below w.heap.size w w' := by
  have hA := Lib.hid (Trace_any [] [] 0 [] 0 (.slice none 0 0) (.slice none 0 0) (.slice none 0 0) w (SlR.nil _ _) (SlR.nil _ _) (SlR.nil _ _) (by simp) (by simp) (by simp) ⟨by decide, by decide⟩ (by simp) (by simp) (by simp))
  have HB := Lib.hid fun (u : World) (B : Nat) (v1 v2 : Value) (h1 : SlR pubR B u v1 [zeroPub]) (h2 : SlR entsR B u v2 [[⟨1, []⟩]]) => Trace_any [zeroPub] [[⟨1, []⟩]] 0 [] B v1 v2 (.slice none 0 0) u h1 h2 (SlR.nil _ _)
    (by intro p hp; rw [List.mem_singleton] at hp; subst hp; exact okZero) (by simp) (by intro es he; rw [List.mem_singleton] at he; subst he; refine ⟨Nat.le_of_ble_eq_true rfl, fun e h => ?_⟩; rw [List.mem_singleton] at h; subst h; exact ⟨⟨by decide, by decide⟩, Nat.zero_le _⟩) ⟨by decide, by decide⟩ (Nat.le_of_ble_eq_true rfl) (Nat.le_of_ble_eq_true rfl) (Nat.zero_le _)
  rw [trace_nil] at hA
  rw [trace_one] at HB
  go_enter Tryz.func20, Tryz.ntmps20
  go_wp2_with (first
    | (go_at_call 25; (with_reducible show Calls _ _ #[.slice none 0 0, .slice none 0 0, _, _] _ _); refine hA.out.mono ?_; rintro e w1 ⟨rfl, hb1⟩)
    | (refine wpList_store_row rfl 65 (.tmp 1) _ rfl w1.heap.size (VerC 0 0) _ _ rfl rfl (Blk.new _ _ _) rfl info_verd (by intro v hv; simp at hv; rcases hv with rfl | rfl <;> rfl) ?_; intro w2 hg2 hs2 hR2
       have hsz : w2.heap.size = w1.heap.size + 1 := by rw [hs2, World.size_alloc]
       have hbel2 : Ext w w2 := (hb1.alloc (Below.size hb1) _).grown hg2 (by rw [World.size_alloc]; exact Nat.le_succ_of_le (Below.size hb1)) (fun k hk => by cases hk; exact Below.size hb1)
       have HSZ := Lib.hid hsz; have HR2 := Lib.hid hR2; clear hs2 hg2 hR2)
    | (go_at_call 25
       have hP : SlR pubR 0 (((w2.alloc (.cells zeroPub.cells.toArray 60)).alloc (.cells #[.int .u64 1, .slice none 0 0] 32)).alloc (.cells #[.slice (some ⟨w1.heap.size + 1 + 1, 0, none⟩) 1 1] 55)) (.slice (some ⟨w1.heap.size + 1, 0, none⟩) 1 1) [zeroPub] := by
         rw [← HSZ.out]; exact (SlR.lit1 (R := pubR) (w := w2) (y := zeroPub) (c := zeroPub.cells) rfl).ext ((Ext.alloc _ _).tr (Ext.alloc _ _))
       have hE : SlR entsR 0 (((w2.alloc (.cells zeroPub.cells.toArray 60)).alloc (.cells #[.int .u64 1, .slice none 0 0] 32)).alloc (.cells #[.slice (some ⟨w1.heap.size + 1 + 1, 0, none⟩) 1 1] 55)) (.slice (some ⟨w1.heap.size + 1 + 1 + 1, 0, none⟩) 1 1) [[⟨1, []⟩]] := by
         have h1 := SlR.lit1 (B := 0) (R := entR) (w := w2.alloc (.cells zeroPub.cells.toArray 60)) (y := ⟨1, []⟩) (c := [.int .u64 1, .slice none 0 0]) ⟨_, rfl, SlR.nil _ _⟩
         have h2 := SlR.lit1 (R := entsR) (y := [⟨1, []⟩]) (c := [_]) ⟨_, rfl, h1⟩
         simp only [World.size_alloc, HSZ.out] at h2
         exact h2
       refine (HB.out _ 0 _ _ hP hE).mono ?_; rintro e w3 ⟨rfl, hb3⟩
       have hbel3 : Ext w w3 := hbel2.tr ((((Ext.alloc _ _).tr (Ext.alloc _ _)).tr (Ext.alloc _ _)).tr hb3)
       have HR3 := Lib.hid (HR2.out.below ((((Ext.alloc _ _).tr (Ext.alloc _ _)).tr (Ext.alloc _ _)).tr hb3)); clear HSZ HR2)
    | (refine wpList_store_row rfl 65 (.tmp 2) _ rfl w3.heap.size (VerC 2 0) _ _ rfl rfl (Blk.new _ _ _) rfl info_verd (by intro v hv; simp at hv; rcases hv with rfl | rfl <;> rfl) ?_; intro w4 hg4 hs4 hR4
       have hbel4 : Ext w w4 := (Below.alloc hbel3 (Below.size hbel3) _).grown hg4 (by rw [World.size_alloc]; exact Nat.le_succ_of_le (Below.size hbel3)) (fun k hk => by cases hk; exact Below.size hbel3)
       have hR1 := (HR3.out.alloc _).grownBy hg4 (some_ne (Nat.ne_of_lt HR3.out.lt)))
    | (refine wpList_load_rowG rfl 65 (.tmp 1) rfl w1.heap.size rfl _ _ (0, 0) _ hR1 Tryz.underlying65 rfl info_verd ?_)
    | (refine wpList_load_rowG rfl 65 (.tmp 2) rfl w3.heap.size rfl _ _ (0, 0) _ hR4 Tryz.underlying65 rfl info_verd ?_)
    | (refine wpList_eql rfl 65 _ _ rfl _ _ _ rfl rfl guard_verd (run_eqV _ _ _ _) ?_))
  go_ret
  exact ⟨rfl, hbel4⟩

end Go.Proofs.YtnmniblaefjekaaGreat
