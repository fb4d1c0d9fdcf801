/-
  BlameTraces: walked.
-/
import Derived.Test.YtnmniblaefjekaaBl7
namespace Go.Proofs.Ytnmniblaefjekaa
set_option linter.unusedVariables false
set_option linter.unusedSimpArgs false
open Go Go.RowKit

theorem stood_verd : Try.prog.stoodInHeld 49 = false := by kernel_rfl
theorem guard_verd : Try.prog.eqGuardType Try.prog.depth 49 = false := by kernel_rfl
theorem fields_verd : Try.prog.underlying 49 = some (.struct (Try.prog.fieldsOf 49)) := by kernel_rfl
theorem run_eqV (c s c' s' : Int) (w : World) : (binOp .eql 49 (.agg (VerC c s)) (.agg (VerC c' s'))).run Try.prog w = .ok (.bool (c == c' && s == s')) w := by
  rw [run_eql_struct, run_equalIn_agg w 9999 _ _ _ fields_verd stood_verd]
  unfold Program.fieldsOf
  rw [Try.underlying49]
  have h1 : (Try.prog.info? 3).map (·.size) = some 1 := by kernel_rfl
  obtain ⟨ti, hti, hsz⟩ := Option.map_eq_some_iff.1 h1
  have e (a b : Int) := run_equalIn_int (P := Try.prog) w 9998 3 .i64 .i64 a b Try.underlying3
  simp [Op.eqFields, part, sizeOf, typeInfo, hti, hsz, e, go_sem]
  by_cases h : c = c' <;> by_cases k : s = s' <;> simp [h, k]
def zeroPub : Pub := ⟨0, 0, 0, 0, 0, 0, 0, 0, 0, 0⟩
theorem okZero : zeroPub.ok := by refine ⟨?_, ?_, ?_, ?_, ?_, ?_, ?_, ?_, ?_, ?_⟩ <;> exact ⟨by decide, by decide⟩
theorem trace_nil : traceL [] [] 0 [] = (0, 0) := rfl
theorem trace_one : traceL [zeroPub] [[⟨1, []⟩]] 0 [] = (2, 0) := rfl
set_option maxRecDepth 100000 in
set_option maxHeartbeats 1000000 in
theorem alive20_any (w : World) : Calls Try.prog 11 #[] w fun e w' => e = .returned (.bool true) ∧ Below w.heap.size w w' := by
  have hA := Lib.hid (Trace_any [] [] 0 [] 0 (.slice none 0 0) (.slice none 0 0) (.slice none 0 0) w (SlR.nil _ _) (SlR.nil _ _) (SlR.nil _ _) (by simp) (by simp) (by simp) ⟨by decide, by decide⟩ (by simp) (by simp) (by simp))
  have HB := Lib.hid fun (u : World) (B : Nat) (v1 v2 : Value) (h1 : SlR pubR B u v1 [zeroPub]) (h2 : SlR entsR B u v2 [[⟨1, []⟩]]) => Trace_any [zeroPub] [[⟨1, []⟩]] 0 [] B v1 v2 (.slice none 0 0) u h1 h2 (SlR.nil _ _)
    (by intro p hp; rw [List.mem_singleton] at hp; subst hp; exact okZero) (by simp) (by intro es he; rw [List.mem_singleton] at he; subst he; refine ⟨Nat.le_of_ble_eq_true rfl, fun e h => ?_⟩; rw [List.mem_singleton] at h; subst h; exact ⟨⟨by decide, by decide⟩, Nat.zero_le _⟩) ⟨by decide, by decide⟩ (Nat.le_of_ble_eq_true rfl) (Nat.le_of_ble_eq_true rfl) (Nat.zero_le _)
  rw [trace_nil] at hA
  rw [trace_one] at HB
  go_enter Try.func11, Try.ntmps11
  go_wp2_with (first
    | (go_at_call 16; (with_reducible show Calls _ _ #[.slice none 0 0, .slice none 0 0, _, _] _ _); refine hA.out.mono ?_; rintro e w1 ⟨rfl, hb1⟩)
    | (refine wpList_store_row rfl 49 (.tmp 1) _ rfl w1.heap.size (VerC 0 0) _ _ rfl rfl (Blk.new _ _ _) rfl info_verd (by intro v hv; simp at hv; rcases hv with rfl | rfl <;> rfl) ?_; intro w2 hg2 hs2 hR2
       have hsz : w2.heap.size = w1.heap.size + 1 := by rw [hs2, World.size_alloc]
       have hbel2 : Ext w w2 := (hb1.alloc (Below.size hb1) _).grown hg2 (by rw [World.size_alloc]; exact Nat.le_succ_of_le (Below.size hb1)) (fun k hk => by cases hk; exact Below.size hb1)
       have HSZ := Lib.hid hsz; have HR2 := Lib.hid hR2; clear hs2 hg2 hR2)
    | (go_at_call 16
       have hP : SlR pubR 0 (((w2.alloc (.cells zeroPub.cells.toArray 39)).alloc (.cells #[.int .u64 1, .slice none 0 0] 27)).alloc (.cells #[.slice (some ⟨w1.heap.size + 1 + 1, 0, none⟩) 1 1] 40)) (.slice (some ⟨w1.heap.size + 1, 0, none⟩) 1 1) [zeroPub] := by
         rw [← HSZ.out]; exact (SlR.lit1 (R := pubR) (w := w2) (y := zeroPub) (c := zeroPub.cells) rfl).ext ((Ext.alloc _ _).tr (Ext.alloc _ _))
       have hE : SlR entsR 0 (((w2.alloc (.cells zeroPub.cells.toArray 39)).alloc (.cells #[.int .u64 1, .slice none 0 0] 27)).alloc (.cells #[.slice (some ⟨w1.heap.size + 1 + 1, 0, none⟩) 1 1] 40)) (.slice (some ⟨w1.heap.size + 1 + 1 + 1, 0, none⟩) 1 1) [[⟨1, []⟩]] := by
         have h1 := SlR.lit1 (B := 0) (R := entR) (w := w2.alloc (.cells zeroPub.cells.toArray 39)) (y := ⟨1, []⟩) (c := [.int .u64 1, .slice none 0 0]) ⟨_, rfl, SlR.nil _ _⟩
         have h2 := SlR.lit1 (R := entsR) (y := [⟨1, []⟩]) (c := [_]) ⟨_, rfl, h1⟩
         simp only [World.size_alloc, HSZ.out] at h2
         exact h2
       refine (HB.out _ 0 _ _ hP hE).mono ?_; rintro e w3 ⟨rfl, hb3⟩
       have hbel3 : Ext w w3 := hbel2.tr ((((Ext.alloc _ _).tr (Ext.alloc _ _)).tr (Ext.alloc _ _)).tr hb3)
       have HR3 := Lib.hid (HR2.out.below ((((Ext.alloc _ _).tr (Ext.alloc _ _)).tr (Ext.alloc _ _)).tr hb3)); clear HSZ HR2)
    | (refine wpList_store_row rfl 49 (.tmp 2) _ rfl w3.heap.size (VerC 2 0) _ _ rfl rfl (Blk.new _ _ _) rfl info_verd (by intro v hv; simp at hv; rcases hv with rfl | rfl <;> rfl) ?_; intro w4 hg4 hs4 hR4
       have hbel4 : Ext w w4 := (Below.alloc hbel3 (Below.size hbel3) _).grown hg4 (by rw [World.size_alloc]; exact Nat.le_succ_of_le (Below.size hbel3)) (fun k hk => by cases hk; exact Below.size hbel3)
       have hR1 := (HR3.out.alloc _).grownBy hg4 (some_ne (Nat.ne_of_lt HR3.out.lt)))
    | (refine wpList_load_rowG rfl 49 (.tmp 1) rfl w1.heap.size rfl _ _ (0, 0) _ hR1 Try.underlying49 rfl info_verd ?_)
    | (refine wpList_load_rowG rfl 49 (.tmp 2) rfl w3.heap.size rfl _ _ (0, 0) _ hR4 Try.underlying49 rfl info_verd ?_)
    | (refine wpList_eql rfl 49 _ _ rfl _ _ _ rfl rfl guard_verd (run_eqV _ _ _ _) ?_))
  go_ret
  exact ⟨rfl, hbel4⟩

set_option maxRecDepth 100000 in
set_option maxHeartbeats 2000000 in
theorem BlameTraces_any (l : List Pub) (lists : List (List Ent)) (at_ : Int) (steps : List Stp) (B : Nat) (vl vls vs : Value) (w : World) (hl : SlR pubR B w vl l) (hls : SlR entsR B w vls lists) (hs : SlR stpR B w vs steps)
    (hlo : ∀ p ∈ l, p.ok) (hso : ∀ t ∈ steps, t.ok ∧ t.e.box.length ≤ 20000000000000) (hlso : ∀ es ∈ lists, ∀ e ∈ es, e.ok ∧ e.box.length ≤ 20000000000000) (hat : inI at_) :
    Calls Try.prog 5 #[vl, vls, .int .i64 at_, vs] w fun r w' => r = .returned (.bool true) ∧ Below w.heap.size w w' := by
  obtain ⟨al, cl, rfl, hcl, hcl'⟩ := hl.form
  obtain ⟨als, cls, rfl, hcls, hcls'⟩ := hls.form
  obtain ⟨as_, cs, rfl, hcs, hcs'⟩ := hs.form
  have HL := Lib.hid hl; have HLS := Lib.hid hls; have HS := Lib.hid hs; have HLO := Lib.hid hlo; have HSO := Lib.hid hso; have HLSO := Lib.hid hlso; have HAT := Lib.hid hat
  clear hl hls hs hlo hso hlso hat
  by_cases h1 : l.length ≤ 8
  · have d1 : ¬ (8 : Int) < (l.length : Int) := by omega
    by_cases h2 : lists.length ≤ 8
    · have d2 : ¬ (8 : Int) < (lists.length : Int) := by omega
      by_cases h3 : steps.length ≤ 10
      · have d3 : ¬ (10 : Int) < (steps.length : Int) := by omega
        go_enter Try.func5, Try.ntmps5
        go_wp2_with (go_at_call 11; refine (alive20_any _).mono ?_; rintro e w1 ⟨rfl, hb1⟩)
        go_loopw [10] (fun i wr => ∃ n : Nat, i = .int .i64 n ∧ n ≤ lists.length ∧ (∀ (j : Nat) (es : List Ent), j < n → lists[j]? = some es → es.length ≤ 20) ∧ wr = w1) (fun i _ => lists.length - (intOf i).toNat)
        case atStart => exact ⟨0, rfl, Nat.zero_le _, fun j es hj => absurd hj (Nat.not_lt_zero _), rfl⟩
        case round =>
          obtain ⟨n, rfl, hn, hsm, rfl⟩ := hrel
          have HSM := Lib.hid hsm; clear hsm
          by_cases hlt : n < lists.length
          · obtain ⟨es, hes⟩ : ∃ x, lists[n]? = some x := ⟨_, List.getElem?_eq_getElem hlt⟩
            obtain ⟨bL, oL, cL, e1, -, -⟩ := HLS.out.open (by omega)
            obtain ⟨rfl, rfl⟩ : als = some ⟨bL, oL, none⟩ ∧ cls = cL := by injection e1 with e1 _ e3; exact ⟨e1, e3⟩
            clear e1
            obtain ⟨ve, hve, hse⟩ := slL_at HLS.out n es hes
            obtain ⟨ae, ce, rfl, hce, hce'⟩ := hse.form
            have hve1 := (Below.cell hb1 (World.block_lt_of_cell? w _ hve)).trans hve
            have HES := Lib.hid hes; clear hve hse hes
            by_cases h20 : es.length ≤ 20
            · have d4 : ¬ (20 : Int) < (es.length : Int) := by omega
              go_wp2_with fail
              go_roundw
              case rel => exact ⟨n + 1, rfl, by omega, fun j es' hj hes' => by
                by_cases e : j = n
                · subst e; rw [HES.out] at hes'; cases hes'; exact h20
                · exact HSM.out j es' (by omega) hes', trivial⟩
              case measure => (simp [intOf] <;> omega)
            · have d4 : (20 : Int) < (es.length : Int) := by omega
              go_wp2_with fail
              go_ret
              exact ⟨rfl, hb1⟩
          · obtain rfl : n = lists.length := by omega
            have HA := Lib.hid fun w' : World => fun (e : Ext w w') => Trace_any l lists at_ steps B _ _ _ w' (HL.out.ext e) (HLS.out.ext e) (HS.out.ext e) HLO.out HSO.out (fun es he => ⟨by
              obtain ⟨j, hj, rfl⟩ := List.getElem_of_mem he
              exact Nat.le_trans (HSM.out j _ hj (List.getElem?_eq_getElem hj)) (by decide), HLSO.out es he⟩) HAT.out (by omega) (by omega) (by omega)
            have HB := Lib.hid fun w' : World => fun (e : Ext w w') => Tracer_any l lists at_ steps B _ _ _ w' (HL.out.ext e) (HLS.out.ext e) (HS.out.ext e) HLO.out HSO.out (fun es he => ⟨by
              obtain ⟨j, hj, rfl⟩ := List.getElem_of_mem he
              exact Nat.le_trans (HSM.out j _ hj (List.getElem?_eq_getElem hj)) (by decide), HLSO.out es he⟩) HAT.out (by omega) (by omega) (by omega)
            generalize traceL l lists at_ steps = D at *
            go_wp2_with (first
              | (go_at_call 16; refine (HA.out _ hb1).mono ?_; rintro e w2 ⟨rfl, hb2⟩; have e2 : Ext w w2 := Ext.tr hb1 hb2)
              | (go_at_call 17; refine (HB.out _ e2).mono ?_; rintro e w3 ⟨rfl, hb3⟩; have e3 : Ext w w3 := Ext.tr e2 hb3)
              | (refine wpList_eql rfl 49 _ _ rfl _ _ _ rfl rfl guard_verd (run_eqV _ _ _ _) ?_))
            go_ret
            exact ⟨by simp, e3⟩
      · have d3 : (10 : Int) < (steps.length : Int) := by omega
        go_enter Try.func5, Try.ntmps5
        go_wp2_with (go_at_call 11; refine (alive20_any _).mono ?_; rintro e w1 ⟨rfl, hb1⟩)
        go_ret
        exact ⟨rfl, hb1⟩
    · have d2 : (8 : Int) < (lists.length : Int) := by omega
      go_enter Try.func5, Try.ntmps5
      go_wp2_with (go_at_call 11; refine (alive20_any _).mono ?_; rintro e w1 ⟨rfl, hb1⟩)
      go_ret
      exact ⟨rfl, hb1⟩
  · have d1 : (8 : Int) < (l.length : Int) := by omega
    go_enter Try.func5, Try.ntmps5
    go_wp2_with (go_at_call 11; refine (alive20_any _).mono ?_; rintro e w1 ⟨rfl, hb1⟩)
    go_ret
    exact ⟨rfl, hb1⟩
end Go.Proofs.Ytnmniblaefjekaa
