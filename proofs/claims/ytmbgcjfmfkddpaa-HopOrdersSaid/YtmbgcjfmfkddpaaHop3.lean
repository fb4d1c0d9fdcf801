/-
  A pass of a hop: the reference.
-/
import Derived.Test.YtmbgcjfmfkddpaaHop2
namespace Go.Proofs.Ytmbgcjfmfkddpaa
set_option linter.unusedVariables false
set_option linter.unusedSimpArgs false
open Go Go.RowKit

def HRel1 (w : World) (SC PC : Array Value) (s : Sec) (at_ : Int) (es : List Ent) (vo vb i : Value) (wr : World) : Prop :=
  ∃ n : Nat, n ≤ es.length ∧ i = .int .i64 n ∧ OwR entR 0 w.heap.size wr vo (opened s at_ (es.take n)) ∧ OwR intR 0 w.heap.size wr vb (failsN s at_ es n) ∧ HoC w SC PC wr ∧ Ext w wr
def HRel2 (w wr : World) (G : Nat) (O : List Ent) (i : Value) (wq : World) : Prop :=
  ∃ (n : Nat) (vE : Value), n ≤ O.length ∧ i = .int .i64 n ∧ Blk wq G #[vE, .int .u64 0, .int .u64 0] 34 ∧ OwR entR 0 wr.heap.size wq vE (O.take n) ∧ Ext wr wq
theorem length_orderL (es : List Ent) (order : List Int) : (orderL es order).length = es.length := by
  unfold orderL
  split
  · rename_i h; rw [List.length_map]; exact h.1
  · rfl
theorem orderL_ok {es : List Ent} {order : List Int} (h : ∀ e ∈ es, e.ok) : ∀ e ∈ orderL es order, e.ok := by
  unfold orderL
  split
  · rename_i ho
    intro e he
    obtain ⟨i, hi, rfl⟩ := List.mem_map.1 he
    have h1 := ho.2.1 i hi
    rw [List.getD_eq_getElem?_getD, List.getElem?_eq_getElem (by rw [← ho.1]; omega)]
    exact h _ (List.getElem_mem _)
  · exact h
theorem opened_ok {s : Sec} {at_ : Int} {es : List Ent} : ∀ e ∈ opened s at_ es, e.ok := by
  intro e he
  obtain ⟨e0, _, rfl⟩ := List.mem_map.1 he
  cases h : opE s at_ e0 with
  | none => exact ⟨Int.le_refl _, by decide⟩
  | some e' => exact (opE_ok h).1
theorem run_allocEnt (w : World) : (Instr.alloc 41 true (.tuple #[])).run Try.prog w = .ok (.pointer (some ⟨w.heap.size, 0, none⟩)) (w.alloc (.cells #[.int .u64 0, .slice none 0 0] 41)) := by simp [go_sem]
set_option maxRecDepth 100000 in
set_option maxHeartbeats 8000000 in
theorem Hopr_any (s : Sec) (p : Pub) (at_ : Int) (es : List Ent) (order : List Int) (draw : Int) (B : Nat) (vl vo : Value) (w : World) (hs : s.ok) (hp : p.ok) (hd : in64 draw) (hl : SlR entR B w vl es) (ho : SlR intR B w vo order)
    (heo : ∀ e ∈ es, e.ok ∧ e.box.length ≤ 20000000000000) (hn : es.length ≤ 1000000) (hno : order.length ≤ 9223372036854775807) :
    Calls Try.prog 8 #[.agg s.cells.toArray, .agg p.cells.toArray, .int .i64 at_, vl, vo, .int .u64 draw] w (RetH (runL s p at_ es order draw) (failsL s at_ es) w) := by
  obtain ⟨al, cl, rfl, hcl, hcl'⟩ := hl.form
  obtain ⟨ao, co, rfl, hco, hco'⟩ := ho.form
  have HLL := Lib.hid hl; have HOO := Lib.hid ho; have HEO := Lib.hid heo; have HSO := Lib.hid hs; have HPO := Lib.hid hp; have HDR := Lib.hid hd
  clear hl ho heo hs hp hd
  have HC0 := Lib.hid (show HoC w s.cells.toArray p.cells.toArray (((w.alloc (.cells s.cells.toArray 24)).alloc (.cells p.cells.toArray 28)).alloc (.cells PasZ 34)) from
    ⟨((Blk.new _ _ _).alloc _ |>.alloc _), (Blk.new2 _ _ _ _).alloc _, Blk.new3 _ _ _ _ _⟩)
  have hb0 := Lib.hid (show Ext w (((w.alloc (.cells s.cells.toArray 24)).alloc (.cells p.cells.toArray 28)).alloc (.cells PasZ 34)) from (show Below w.heap.size w _ by go_grown))
  have HPZ := Lib.hid (show p.cells.toArray.size = 10 by rw [List.size_toArray, p.length_cells])
  have HRUN := Lib.hid (show runL s p at_ es order draw = if failsL s at_ es = [] then ⟨orderL (opened s at_ es) order, equalP p.base p.blind (prodE es) (prodE (orderL (opened s at_ es) order)) s.blind draw⟩ else ⟨[], ⟨0, 0⟩⟩ from rfl)
  generalize runL s p at_ es order draw = RUN at *
  go_enter Try.func8, Try.ntmps8
  go_wp2_with fail
  go_loopw [14, 15, 16, 17, 18] (fun vo_ vb_ i _ _ wr => HRel1 w s.cells.toArray p.cells.toArray s at_ es vo_ vb_ i wr) (fun _ _ i _ _ _ => es.length - (intOf i).toNat)
  case atStart => exact ⟨0, Nat.zero_le _, rfl, OwR.nil _ _ _, OwR.nil _ _ _, HC0.out, hb0.out⟩
  case round =>
    obtain ⟨n, hnl, rfl, hoE, hoI, hC, hX⟩ := hrel
    have HX := Lib.hid hX; have HOE := Lib.hid hoE; have HOI := Lib.hid hoI; have HCR := Lib.hid hC
    obtain ⟨a14, c14, rfl, -, -⟩ := hoE.form
    obtain ⟨a15, c15, rfl, -, -⟩ := hoI.form
    clear hX hoE hoI hC
    by_cases hlt : n < es.length
    · obtain ⟨b, o, c', e1, -, -⟩ := HLL.out.open (by omega)
      obtain ⟨rfl, rfl⟩ : al = some ⟨b, o, none⟩ ∧ cl = c' := by injection e1 with e1 _ e3; exact ⟨e1, e3⟩
      clear e1
      obtain ⟨e, he⟩ : ∃ e, es[n]? = some e := ⟨_, List.getElem?_eq_getElem hlt⟩
      obtain ⟨ve, hrg, hve⟩ := slE_at HLL.out n e he
      obtain ⟨ae, ce, rfl, -, -⟩ := sees_form hve
      have heo := HEO.out e (List.mem_of_getElem? he)
      have HOP := Lib.hid fun (w' : World) (h : Ext w w') => OpenHop_any s.blind s.mix s.inner at_ e.x e.box _ w' HSO.out.1 HSO.out.2.1 heo.1 (hve.below h (by decide)) heo.2
      have hos := openedT_succ (s := s) (at_ := at_) he
      have hfs := failsN_succ (s := s) (at_ := at_) he
      rw [(openE_some (s := s) (at_ := at_) (e := e)).1] at hos
      rw [(openE_some (s := s) (at_ := at_) (e := e)).2] at hfs
      unfold RetOE at HOP
      have HRG := Lib.hid hrg
      clear hrg hve heo he
      generalize openE s.blind s.mix at_ e.x e.box = op at *
      generalize (op.getD (0, [])).1 = X at *
      generalize (op.getD (0, [])).2 = BX at *
      generalize op.isSome = K at *
      have HOS := Lib.hid hos; clear hos
      have hdn : decide (es.length ≤ n) = false := decide_eq_false (by omega)
      have HLO := Lib.hid (show (opened s at_ (es.take n)).length ≤ 1000000 by rw [length_opened, List.length_take]; omega)
      have HLF := Lib.hid (show (failsN s at_ es n).length ≤ 1000000 by have := length_failsN s at_ es n; omega)
      generalize opened s at_ (es.take n) = L1 at *
      generalize failsN s at_ es n = L2 at *
      cases K with
      | true =>
        have HFS := Lib.hid (show failsN s at_ es (n + 1) = L2 by simpa using hfs); clear hfs
        go_wp2_with fail
        have hstab := stabE wr
        have hkr : HoldT (fun u => Ext wr u) w wr.drew := HoldT.drew hstab ⟨Ext.refl _, HX.out⟩
        have hq0 : ∀ e : InC (fun u => Ext wr u), e.u.cell? ⟨w.heap.size, 0, none⟩ = some (.int .u64 s.blind) := fun e => (sec_cell (HCR.out.1.below e.has)).1
        have hq1 : ∀ e : InC (fun u => Ext wr u), e.u.cell? ⟨w.heap.size, 1, none⟩ = some (.int .u64 s.mix) := fun e => (sec_cell (HCR.out.1.below e.has)).2.1
        have hq2 : ∀ e : InC (fun u => Ext wr u), e.u.cell? ⟨w.heap.size, 2, none⟩ = some (.int .u64 s.inner) := fun e => (sec_cell (HCR.out.1.below e.has)).2.2
        have hq3 : ∀ e_ : InC (fun u => Ext wr u), e_.u.cell? ⟨b, o + n * 2, none⟩ = some (.int .u64 e.x) := fun e_ => by have := range_below HRG.out (Ext.tr HX.out e_.has) 0 _ rfl; rwa [Nat.add_zero] at this
        have hq4 : ∀ e_ : InC (fun u => Ext wr u), e_.u.cell? ⟨b, o + n * 2 + 1, none⟩ = some (.slice ae e.box.length ce) := fun e_ => range_below HRG.out (Ext.tr HX.out e_.has) 1 _ rfl
        try change Code.wp _ _ _ (Act.mk _ _) _
        haveI hne_ : Nonempty (InC (fun u => Ext wr u)) := ⟨⟨_, (hkr).1⟩⟩
        refine wp_region_tr (C := fun w_ => ∃ e_ : InC (fun u => Ext wr u), w_ = e_.u) (.step [0, 1, 2, 3, 4, 5] (.alt 6 (.step [7, 8, 9] (.alt 10 (.step [] (.alt 11 (.fin [12]) .nil)) .nil)) (.alt 10 (.step [] (.alt 6 (.step [7, 8, 9] (.alt 11 (.fin [12]) .nil)) .nil)) .nil))) (by kernel_rfl) (by kernel_rfl) (fun _ _ _ _ hd_ h_ => ⟨hd_.symm.trans h_.1, h_.2⟩) ⟨⟨World.drew _, (hkr).1⟩, rfl⟩ ?_
        have hk_ := hkr
        repeat' (first
          | ((with_reducible refine wpTr_fin ?_)
             simp only [pickOps, List.flatMap_cons, List.flatMap_nil, List.drop_succ_cons, List.drop_zero, List.take_succ_cons, List.take_zero, List.cons_append, List.nil_append, List.append_nil]
             repeat (go_big_quiet_step (exact rfl))
             refine wpQuiet_nil ?_)
          | ((with_reducible refine wpTr_step ?_); simp only [pickOps, List.flatMap_cons, List.flatMap_nil, List.drop_succ_cons, List.drop_zero, List.take_succ_cons, List.take_zero, List.cons_append, List.nil_append, List.append_nil]; repeat (go_big_quiet_step (exact rfl))
             refine wpQuiet_nil ?_)
          | (with_reducible refine wpTr_one ?_)
          | (with_reducible refine wpTr_alt ?_ ?_)
          | (simp only [pickOps, List.flatMap_cons, List.flatMap_nil, List.drop_succ_cons, List.drop_zero, List.take_succ_cons, List.take_zero, List.cons_append, List.nil_append, List.append_nil]
             go_wp2_with (first
          | (go_at_call 12; refine (HOP.out _ (Ext.tr HX.out hk_.has)).mono ?_; rintro r_ x5 ⟨v5, rfl, how5, e5⟩; obtain ⟨a5, c5, rfl, -, -⟩ := owns_form how5; have hk5 := HoldT.step hstab hk_ e5; have ho5 := owns_mono how5 hk_.up.size; have e5' : Ext _ x5 := e5)
          | (refine wpList_allocB rfl _ rfl #[.int .u64 0, .slice none 0 0] run_allocEnt ?_; intro x6 g hG hg6 e6; have hg0 := Nat.le_trans (Below.size hk_.has) hg6; have hk6 := HoldT.step hstab hk_ e6; have e6' : Ext _ x6 := e6)
          | (refine wpList_store_row rfl 41 (.tmp 17) _ rfl g #[.int .u64 X, .slice a5 BX.length c5] _ _ rfl rfl (exBl hG) rfl info_entry (by intro v hv; simp at hv; rcases hv with rfl | rfl <;> rfl) ?_; intro x7 hg7 hs7 hR7
             have hwg : w.heap.size ≤ g := Nat.le_trans (Below.size HX.out) hg0
             have hE7 := (HOE.out.ext hk_.has).grownN hg7 (RowT.blk (exBl hG)) (by decide) (Nat.zero_le _) (fun k hk => Nat.lt_of_lt_of_le (HOE.out.lt k hk).2 hg0)
             have hI7 := (HOI.out.ext hk_.has).grownT hg7 (RowT.blk (exBl hG)) (by decide) (by decide) (fun _ _ => Nat.zero_le _)
             have hC7 := (stabHoC _ _ _ _ _ HCR.out hk_.has).grownT hg7 (RowT.blk (exBl hG)) (by decide) (by decide) (by decide)
             have hB7 := own_grown (exO ho5) hg7 (RowT.blk (exBl hG)) (by decide)
             have hbel7 : Ext w x7 := ext_row hk_.up hg7 hwg
             have hk7 : HoldT (fun u => Ext wr u) w x7 := ⟨ext_row hk_.has hg7 hg0, hbel7⟩
             clear hs7))
             refine phPost_hold (by first | with_reducible assumption | exact HoldT.alloc hstab (by with_reducible assumption) _ | exact HoldT.alloc hstab (HoldT.alloc hstab (by with_reducible assumption) _) _) ?_
             intro hk_))
        all_goals (
          go_wp2_with (first
            | (refine wpList_load_row rfl 41 (.tmp 17) rfl g rfl _ _ (0, 0) _ hR7 Try.underlying41 rfl info_entry ?_)
            | (at_builtin; refine appE (W := w) (B := 0) rfl _ _ rfl (Nat.zero_le _) _ L1 rfl (hE7.ext (Ext.alloc _ _)) (.slice (some ⟨x7.heap.size, 0, none⟩) 1 1) [⟨X, BX⟩] rfl (SlR.lit1 (R := entR) (y := ⟨X, BX⟩) (c := [.int .u64 X, .slice a5 BX.length c5]) ⟨_, rfl, slB_own hB7⟩) (by have := HLO.out; simp only [List.length_cons, List.length_nil]; omega) (Below.alloc hbel7 (Below.size hbel7) _) ?_; intro v9 w9 hown9 hg9 hb9
               have hrow9 := (hE7.ext (Ext.alloc x7 (.cells #[.int .u64 X, .slice a5 BX.length c5] 41))).row
               have hI9 := (hI7.ext (Ext.alloc _ _)).grownT hg9 hrow9 (by decide) (by decide) (fun _ _ => Nat.zero_le _)
               have hC9 := (stabHoC _ _ _ _ _ hC7 (Ext.alloc _ _)).grownT hg9 hrow9 (by decide) (by decide) (by decide))
            | fail)
          go_roundw
          case rel => exact ⟨n + 1, by omega, rfl, by rw [← HOS.out]; exact hown9, by rw [HFS.out]; exact hI9, hC9, hb9⟩
          case measure => (simp [intOf] <;> omega))
      | false =>
        have HFS := Lib.hid (show failsN s at_ es (n + 1) = L2 ++ [(n : Int)] by simpa using hfs); clear hfs
        go_wp2_with fail
        have hstab := stabE wr
        have hkr : HoldT (fun u => Ext wr u) w wr.drew := HoldT.drew hstab ⟨Ext.refl _, HX.out⟩
        have hq0 : ∀ e : InC (fun u => Ext wr u), e.u.cell? ⟨w.heap.size, 0, none⟩ = some (.int .u64 s.blind) := fun e => (sec_cell (HCR.out.1.below e.has)).1
        have hq1 : ∀ e : InC (fun u => Ext wr u), e.u.cell? ⟨w.heap.size, 1, none⟩ = some (.int .u64 s.mix) := fun e => (sec_cell (HCR.out.1.below e.has)).2.1
        have hq2 : ∀ e : InC (fun u => Ext wr u), e.u.cell? ⟨w.heap.size, 2, none⟩ = some (.int .u64 s.inner) := fun e => (sec_cell (HCR.out.1.below e.has)).2.2
        have hq3 : ∀ e_ : InC (fun u => Ext wr u), e_.u.cell? ⟨b, o + n * 2, none⟩ = some (.int .u64 e.x) := fun e_ => by have := range_below HRG.out (Ext.tr HX.out e_.has) 0 _ rfl; rwa [Nat.add_zero] at this
        have hq4 : ∀ e_ : InC (fun u => Ext wr u), e_.u.cell? ⟨b, o + n * 2 + 1, none⟩ = some (.slice ae e.box.length ce) := fun e_ => range_below HRG.out (Ext.tr HX.out e_.has) 1 _ rfl
        try change Code.wp _ _ _ (Act.mk _ _) _
        haveI hne_ : Nonempty (InC (fun u => Ext wr u)) := ⟨⟨_, (hkr).1⟩⟩
        refine wp_region_tr (C := fun w_ => ∃ e_ : InC (fun u => Ext wr u), w_ = e_.u) (.step [0, 1, 2, 3, 4, 5] (.alt 6 (.step [7, 8, 9] (.alt 10 (.step [] (.alt 11 (.fin [12]) .nil)) .nil)) (.alt 10 (.step [] (.alt 6 (.step [7, 8, 9] (.alt 11 (.fin [12]) .nil)) .nil)) .nil))) (by kernel_rfl) (by kernel_rfl) (fun _ _ _ _ hd_ h_ => ⟨hd_.symm.trans h_.1, h_.2⟩) ⟨⟨World.drew _, (hkr).1⟩, rfl⟩ ?_
        have hk_ := hkr
        repeat' (first
          | ((with_reducible refine wpTr_fin ?_)
             simp only [pickOps, List.flatMap_cons, List.flatMap_nil, List.drop_succ_cons, List.drop_zero, List.take_succ_cons, List.take_zero, List.cons_append, List.nil_append, List.append_nil]
             repeat (go_big_quiet_step (exact rfl))
             refine wpQuiet_nil ?_)
          | ((with_reducible refine wpTr_step ?_); simp only [pickOps, List.flatMap_cons, List.flatMap_nil, List.drop_succ_cons, List.drop_zero, List.take_succ_cons, List.take_zero, List.cons_append, List.nil_append, List.append_nil]; repeat (go_big_quiet_step (exact rfl))
             refine wpQuiet_nil ?_)
          | (with_reducible refine wpTr_one ?_)
          | (with_reducible refine wpTr_alt ?_ ?_)
          | (simp only [pickOps, List.flatMap_cons, List.flatMap_nil, List.drop_succ_cons, List.drop_zero, List.take_succ_cons, List.take_zero, List.cons_append, List.nil_append, List.append_nil]
             go_wp2_with (first
          | (go_at_call 12; refine (HOP.out _ (Ext.tr HX.out hk_.has)).mono ?_; rintro r_ x5 ⟨v5, rfl, how5, e5⟩; obtain ⟨a5, c5, rfl, -, -⟩ := owns_form how5; have hk5 := HoldT.step hstab hk_ e5; have ho5 := owns_mono how5 hk_.up.size; have e5' : Ext _ x5 := e5)
          | (refine wpList_allocB rfl _ rfl #[.int .u64 0, .slice none 0 0] run_allocEnt ?_; intro x6 g hG hg6 e6; have hg0 := Nat.le_trans (Below.size hk_.has) hg6; have hk6 := HoldT.step hstab hk_ e6; have e6' : Ext _ x6 := e6)
          | (refine wpList_store_row rfl 41 (.tmp 17) _ rfl g #[.int .u64 X, .slice a5 BX.length c5] _ _ rfl rfl (exBl hG) rfl info_entry (by intro v hv; simp at hv; rcases hv with rfl | rfl <;> rfl) ?_; intro x7 hg7 hs7 hR7
             have hwg : w.heap.size ≤ g := Nat.le_trans (Below.size HX.out) hg0
             have hE7 := (HOE.out.ext hk_.has).grownN hg7 (RowT.blk (exBl hG)) (by decide) (Nat.zero_le _) (fun k hk => Nat.lt_of_lt_of_le (HOE.out.lt k hk).2 hg0)
             have hI7 := (HOI.out.ext hk_.has).grownT hg7 (RowT.blk (exBl hG)) (by decide) (by decide) (fun _ _ => Nat.zero_le _)
             have hC7 := (stabHoC _ _ _ _ _ HCR.out hk_.has).grownT hg7 (RowT.blk (exBl hG)) (by decide) (by decide) (by decide)
             have hB7 := own_grown (exO ho5) hg7 (RowT.blk (exBl hG)) (by decide)
             have hbel7 : Ext w x7 := ext_row hk_.up hg7 hwg
             have hk7 : HoldT (fun u => Ext wr u) w x7 := ⟨ext_row hk_.has hg7 hg0, hbel7⟩
             clear hs7))
             refine phPost_hold (by first | with_reducible assumption | exact HoldT.alloc hstab (by with_reducible assumption) _ | exact HoldT.alloc hstab (HoldT.alloc hstab (by with_reducible assumption) _) _) ?_
             intro hk_))
        all_goals (
          go_wp2_with (first
            | (refine wpList_load_row rfl 41 (.tmp 17) rfl g rfl _ _ (0, 0) _ hR7 Try.underlying41 rfl info_entry ?_)
            | (at_builtin; refine appE (W := w) (B := 0) rfl _ _ rfl (Nat.zero_le _) _ L1 rfl (hE7.ext (Ext.alloc _ _)) (.slice (some ⟨x7.heap.size, 0, none⟩) 1 1) [⟨X, BX⟩] rfl (SlR.lit1 (R := entR) (y := ⟨X, BX⟩) (c := [.int .u64 X, .slice a5 BX.length c5]) ⟨_, rfl, slB_own hB7⟩) (by have := HLO.out; simp only [List.length_cons, List.length_nil]; omega) (Below.alloc hbel7 (Below.size hbel7) _) ?_; intro v9 w9 hown9 hg9 hb9
               have hrow9 := (hE7.ext (Ext.alloc x7 (.cells #[.int .u64 X, .slice a5 BX.length c5] 41))).row
               have hI9 := (hI7.ext (Ext.alloc _ _)).grownT hg9 hrow9 (by decide) (by decide) (fun _ _ => Nat.zero_le _)
               have hC9 := (stabHoC _ _ _ _ _ hC7 (Ext.alloc _ _)).grownT hg9 hrow9 (by decide) (by decide) (by decide))
            | (at_builtin; refine appI (W := w) (B := 0) rfl _ _ rfl (Nat.zero_le _) _ L2 rfl (hI9.ext (Ext.alloc _ _)) (.slice (some ⟨w9.heap.size, 0, none⟩) 1 1) [(n : Int)] rfl (SlR.lit1 (R := intR) (y := (n : Int)) (c := [.int .i64 n]) rfl) (by have := HLF.out; simp only [List.length_cons, List.length_nil]; omega) (Below.alloc hb9 (Below.size hb9) _) ?_; intro v10 w10 hown10 hg10 hb10; have hrow10 := (hI9.ext (Ext.alloc w9 (.cells #[.int .i64 (n : Int)] intR.ty))).row; have hE10 := (hown9.ext (Ext.alloc _ _)).grownT hg10 hrow10 (by decide) (by decide) (fun _ _ => Nat.zero_le _); have hC10 := (stabHoC _ _ _ _ _ hC9 (Ext.alloc _ _)).grownT hg10 hrow10 (by decide) (by decide) (by decide)))
          go_roundw
          case rel => exact ⟨n + 1, by omega, rfl, by rw [← HOS.out]; exact hE10, by rw [HFS.out]; exact hown10, hC10, hb10⟩
          case measure => (simp [intOf] <;> omega))
    · obtain rfl : n = es.length := by omega
      have hoe := HOE.out
      have hoi := HOI.out
      rw [List.take_length] at hoe
      rw [show failsN s at_ es es.length = failsL s at_ es from rfl] at hoi
      have HOE2 := Lib.hid hoe; have HOI2 := Lib.hid hoi
      have HLO := Lib.hid (show (opened s at_ (es.take es.length)).length = es.length by rw [length_opened, List.take_length])
      rw [HLO.out] at *
      clear hoe hoi HOE HOI
      by_cases hf : failsL s at_ es = []
      · have hz : ¬ (0 : Int) < ((failsN s at_ es es.length).length : Int) := by
          show ¬ (0 : Int) < ((failsL s at_ es).length : Int); rw [hf]; exact Int.lt_irrefl 0
        have hR := HRUN.out
        rw [if_pos hf] at hR
        have HRR := Lib.hid hR; have HFF := Lib.hid hf; clear hR hf
        have HOL := Lib.hid (show (orderL (opened s at_ es) order).length = es.length by rw [length_orderL, length_opened])
        have HLL2 := Lib.hid (length_opened s at_ es)
        have HOOK := Lib.hid (orderL_ok (order := order) (opened_ok (s := s) (at_ := at_) (es := es)))
        have HGN := Lib.hid fun n e => orderL_get_no (L := opened s at_ es) (order := order) (n := n) (e := e)
        have HGY := Lib.hid fun n k e => orderL_get (L := opened s at_ es) (order := order) (n := n) (k := k) (e := e)
        generalize orderL (opened s at_ es) order = O at *
        generalize opened s at_ es = L at *
        go_wp2_with fail
        generalize wr = w1 at *
        clear hz
        go_loopw [20, 21] (fun i _ wq => HRel2 w w1 w1.heap.size O i wq) (fun i _ _ => O.length - (intOf i).toNat)
        case atStart => exact ⟨0, .slice none 0 0, Nat.zero_le _, rfl, Blk.new _ _ _, OwR.nil _ _ _, Ext.alloc _ _⟩
        case round =>
          obtain ⟨n, vE, hnO, rfl, hG, hE, hX2⟩ := hrel
          obtain ⟨aE, cE, rfl, -, -⟩ := hE.form
          have HG := Lib.hid hG; have HE := Lib.hid hE; have HX2 := Lib.hid hX2
          rw [HOL.out] at hnO
          clear hG hE hX2
          have HTL := Lib.hid (show (O.take n).length = n by rw [List.length_take, HOL.out]; omega)
          by_cases hlt : n < es.length
          · have hopn := HOE2.out.sl.open (by rw [HLL2.out]; omega)
            obtain ⟨b14, o14, c14', e1, -, -⟩ := hopn
            obtain ⟨rfl, rfl⟩ : a14 = some ⟨b14, o14, none⟩ ∧ c14 = c14' := by injection e1 with e1 _ e3; exact ⟨e1, e3⟩
            clear e1
            by_cases hop : order.length = es.length
            · have hq1 : (order.length == es.length) = true := by rw [hop]; exact beq_self_eq_true _
              have hq2 : ((order.length : Int) == (es.length : Int)) = true := by rw [hop]; exact beq_self_eq_true _
              have hq3 : ((order.length : Int) = (es.length : Int)) = True := by rw [hop]; exact eq_self _
              have hq4 : (order.length = es.length) = True := by rw [hop]; exact eq_self _
              have HRO := Lib.hid fun (w' : World) (h : Ext w w') => RightOrderr_any order B _ w' (HOO.out.ext h) hno
              by_cases hpm : permOk order
              · have HPF := Lib.hid (decide_eq_true hpm)
                obtain ⟨x, hxo⟩ : ∃ x, order[n]? = some x := ⟨_, List.getElem?_eq_getElem (by omega)⟩
                have hxr := hpm.1 x (List.mem_of_getElem? hxo)
                obtain ⟨kx, rfl⟩ : ∃ k : Nat, x = k := ⟨x.toNat, by omega⟩
                have hkl : kx < es.length := by omega
                obtain ⟨eK, heK⟩ : ∃ e, L[kx]? = some e := ⟨_, List.getElem?_eq_getElem (by rw [HLL2.out]; exact hkl)⟩
                have HTK := Lib.hid (take_succ_of (HGY.out n kx eK ⟨hop.trans HLL2.out.symm, hpm⟩ hxo heK))
                obtain ⟨bo, oo, co', e1, -, -⟩ := HOO.out.open (by omega)
                obtain ⟨rfl, rfl⟩ : ao = some ⟨bo, oo, none⟩ ∧ co = co' := by injection e1 with e1 _ e3; exact ⟨e1, e3⟩
                clear e1 hxr hpm
                have hdo : n < order.length := by omega
                clear hop
                have HXO := Lib.hid hxo; clear hxo
                go_wp2_with (go_at_call 16; refine (HRO.out _ (Ext.tr HX.out HX2.out)).mono ?_; rintro r_ xq ⟨rfl, hbq⟩; rw [HPF.out]; have hHQ : Ext wr xq := hbq; have hcx := slI_at (HOO.out.ext (Ext.tr (Ext.tr HX.out HX2.out) hHQ)) n kx HXO.out)
                clear hcx
                have hHX : Ext w1 xq := Ext.tr HX2.out hHQ
                generalize O.take n = OT at *
                have HEW := Lib.hid (HE.out.ext (show Ext wr xq from by first | exact Ext.refl _ | assumption))
                have HGW := Lib.hid (HG.out.below (show Ext wr xq from by first | exact Ext.refl _ | assumption))
                obtain ⟨vK, hrK, hvK⟩ := slE_atR HOE2.out.sl kx eK heK
                obtain ⟨aK, cK, rfl, -, -⟩ := hvK.form
                have HRK := Lib.hid hrK; have HVK := Lib.hid hvK
                clear hrK hvK heK
                have hstab := stabE w1
                have hk9 : HoldT (fun u => Ext w1 u) w (xq).drew := HoldT.drew hstab ⟨hHX, Ext.tr HX.out hHX⟩
                have hq3 : ∀ e_ : InC (fun u => Ext w1 u), e_.u.cell? ⟨b14, o14 + kx * 2, none⟩ = some (.int .u64 eK.x) := fun e_ => by have := range_below HRK.out e_.has 0 _ rfl; rwa [Nat.add_zero] at this
                have hq4 : ∀ e_ : InC (fun u => Ext w1 u), e_.u.cell? ⟨b14, o14 + kx * 2 + 1, none⟩ = some (.slice aK eK.box.length cK) := fun e_ => range_below HRK.out e_.has 1 _ rfl
                have hdK : decide (es.length ≤ kx) = false := decide_eq_false (by omega)
                have hG0 : (xq).cell? ⟨w1.heap.size, 0, none⟩ = some (.slice aE OT.length cE) := by rw [HGW.out.cell]; rfl
                have hG1 : ((xq).alloc (.cells #[.int .u64 eK.x, .slice aK eK.box.length cK] 41)).cell? ⟨w1.heap.size, 0, none⟩ = some (.slice aE OT.length cE) := by rw [(HGW.out.alloc _).cell]; rfl
                try change Code.wp _ _ _ (Act.mk _ _) _
                haveI hne_ : Nonempty (InC (fun u => Ext w1 u)) := ⟨⟨_, (hk9).1⟩⟩
                refine wp_region_tr (C := fun w_ => ∃ e_ : InC (fun u => Ext w1 u), w_ = e_.u) (.step [0, 2, 3, 4, 5] (.alt 1 (.step [] (.alt 6 (.step [] (.alt 7 (.step [8] (.alt 9 (.fin []) .nil)) .nil)) .nil)) (.alt 6 (.step [] (.alt 1 (.step [] (.alt 7 (.step [8] (.alt 9 (.fin []) .nil)) .nil)) .nil)) .nil))) (by kernel_rfl) (by kernel_rfl) (fun _ _ _ _ hd_ h_ => ⟨hd_.symm.trans h_.1, h_.2⟩) ⟨⟨World.drew _, (hk9).1⟩, rfl⟩ ?_
                have hk_ := hk9
                repeat' (first
                  | ((with_reducible refine wpTr_fin ?_)
                     simp only [pickOps, List.flatMap_cons, List.flatMap_nil, List.drop_succ_cons, List.drop_zero, List.take_succ_cons, List.take_zero, List.cons_append, List.nil_append, List.append_nil]
                     repeat (go_big_quiet_step (exact rfl))
                     refine wpQuiet_nil ?_)
                  | ((with_reducible refine wpTr_step ?_); simp only [pickOps, List.flatMap_cons, List.flatMap_nil, List.drop_succ_cons, List.drop_zero, List.take_succ_cons, List.take_zero, List.cons_append, List.nil_append, List.append_nil]; repeat (go_big_quiet_step (exact rfl))
                     refine wpQuiet_nil ?_)
                  | (with_reducible refine wpTr_one ?_)
                  | (with_reducible refine wpTr_alt ?_ ?_)
                  | (simp only [pickOps, List.flatMap_cons, List.flatMap_nil, List.drop_succ_cons, List.drop_zero, List.take_succ_cons, List.take_zero, List.cons_append, List.nil_append, List.append_nil]
                     go_wp2_with (first
                  | (at_builtin; refine appE (W := w1) (B := 0) rfl _ _ rfl (Nat.zero_le _) _ OT rfl (HEW.out.ext ((Ext.alloc _ _).tr (Ext.drew _))) (.slice (some ⟨(xq).heap.size, 0, none⟩) 1 1) [eK] rfl ((SlR.lit1 (R := entR) (y := eK) (w := xq) (c := [.int .u64 eK.x, .slice aK eK.box.length cK]) ⟨_, rfl, HVK.out.ext hHX⟩).ext (Ext.drew _)) (by have := HTL.out; simp only [List.length_cons, List.length_nil]; omega) (Ext.tr hHX ((Ext.alloc _ _).tr (Ext.drew _))) ?_; intro v20 w20 hown20 hg20 hb20
                     obtain ⟨a20, c20, rfl, -, -⟩ := hown20.form
                     rw [List.length_append, List.length_singleton] at hown20
                     have hG20 := ((HGW.out.alloc (.cells #[.int .u64 eK.x, .slice aK eK.box.length cK] 41)).below (Ext.drew _)).grownT hg20 (HEW.out.ext ((Ext.alloc _ (.cells #[.int .u64 eK.x, .slice aK eK.box.length cK] 41)).tr (Ext.drew _))).row (by decide)
                     have q20 : w20.cell? ⟨w1.heap.size, 0, none⟩ = some (.slice aE OT.length cE) := (by rw [hG20.cell]; rfl)
                     have f20 := hG20.free 0
                     have hk20 : HoldT (fun u => Ext w1 u) w w20 := ⟨hb20, Ext.tr HX.out hb20⟩
                     have hkz : HoldT (fun u => Ext w1 u) w (w20.setCell ⟨w1.heap.size, 0, none⟩ (.slice a20 (OT.length + 1) c20)) := ⟨Below.setCell hb20 (Nat.le_refl _) _, Below.setCell (Ext.tr HX.out hb20) (Below.size HX.out) _⟩))
                     refine phPost_hold (by first | with_reducible assumption | exact HoldT.alloc hstab (by with_reducible assumption) _ | exact HoldT.alloc hstab (HoldT.alloc hstab (by with_reducible assumption) _) _) ?_
                     intro hk_))
                all_goals (
                  go_wp2_with fail
                  go_roundw
                  case rel => exact ⟨n + 1, _, by rw [HOL.out]; omega, rfl, hG20.set 0 _, by rw [← HTK.out]; exact hown20.grownT (grownBy_set (grownBy_refl _ _) _ _) (RowT.blk hG20) (by decide) (by decide) (fun _ _ => Nat.zero_le _), hkz.has⟩
                  case measure => (have := HOL.out; simp [intOf] <;> omega))
              · have HPF := Lib.hid (decide_eq_false hpm)
                obtain ⟨eK, heK⟩ : ∃ e, L[n]? = some e := ⟨_, List.getElem?_eq_getElem (by rw [HLL2.out]; exact hlt)⟩
                have HTK := Lib.hid (take_succ_of (HGN.out n eK (fun h => hpm h.2) heK))
                clear hpm hop
                go_wp2_with (go_at_call 16; refine (HRO.out _ (Ext.tr HX.out HX2.out)).mono ?_; rintro r_ xq ⟨rfl, hbq⟩; rw [HPF.out]; have hHQ : Ext wr xq := hbq)
                have hHX : Ext w1 xq := Ext.tr HX2.out hHQ
                generalize O.take n = OT at *
                have HEW := Lib.hid (HE.out.ext (show Ext wr xq from by first | exact Ext.refl _ | assumption))
                have HGW := Lib.hid (HG.out.below (show Ext wr xq from by first | exact Ext.refl _ | assumption))
                obtain ⟨vK, hrK, hvK⟩ := slE_atR HOE2.out.sl n eK heK
                obtain ⟨aK, cK, rfl, -, -⟩ := hvK.form
                have HRK := Lib.hid hrK; have HVK := Lib.hid hvK
                clear hrK hvK heK
                have hstab := stabE w1
                have hk9 : HoldT (fun u => Ext w1 u) w (xq).drew := HoldT.drew hstab ⟨hHX, Ext.tr HX.out hHX⟩
                have hq3 : ∀ e_ : InC (fun u => Ext w1 u), e_.u.cell? ⟨b14, o14 + n * 2, none⟩ = some (.int .u64 eK.x) := fun e_ => by have := range_below HRK.out e_.has 0 _ rfl; rwa [Nat.add_zero] at this
                have hq4 : ∀ e_ : InC (fun u => Ext w1 u), e_.u.cell? ⟨b14, o14 + n * 2 + 1, none⟩ = some (.slice aK eK.box.length cK) := fun e_ => range_below HRK.out e_.has 1 _ rfl
                have hdK : decide (es.length ≤ n) = false := decide_eq_false (by omega)
                have hG0 : (xq).cell? ⟨w1.heap.size, 0, none⟩ = some (.slice aE OT.length cE) := by rw [HGW.out.cell]; rfl
                have hG1 : ((xq).alloc (.cells #[.int .u64 eK.x, .slice aK eK.box.length cK] 41)).cell? ⟨w1.heap.size, 0, none⟩ = some (.slice aE OT.length cE) := by rw [(HGW.out.alloc _).cell]; rfl
                try change Code.wp _ _ _ (Act.mk _ _) _
                haveI hne_ : Nonempty (InC (fun u => Ext w1 u)) := ⟨⟨_, (hk9).1⟩⟩
                refine wp_region_tr (C := fun w_ => ∃ e_ : InC (fun u => Ext w1 u), w_ = e_.u) (.step [0, 2, 3, 4, 5] (.alt 1 (.step [] (.alt 6 (.step [] (.alt 7 (.step [8] (.alt 9 (.fin []) .nil)) .nil)) .nil)) (.alt 6 (.step [] (.alt 1 (.step [] (.alt 7 (.step [8] (.alt 9 (.fin []) .nil)) .nil)) .nil)) .nil))) (by kernel_rfl) (by kernel_rfl) (fun _ _ _ _ hd_ h_ => ⟨hd_.symm.trans h_.1, h_.2⟩) ⟨⟨World.drew _, (hk9).1⟩, rfl⟩ ?_
                have hk_ := hk9
                repeat' (first
                  | ((with_reducible refine wpTr_fin ?_)
                     simp only [pickOps, List.flatMap_cons, List.flatMap_nil, List.drop_succ_cons, List.drop_zero, List.take_succ_cons, List.take_zero, List.cons_append, List.nil_append, List.append_nil]
                     repeat (go_big_quiet_step (exact rfl))
                     refine wpQuiet_nil ?_)
                  | ((with_reducible refine wpTr_step ?_); simp only [pickOps, List.flatMap_cons, List.flatMap_nil, List.drop_succ_cons, List.drop_zero, List.take_succ_cons, List.take_zero, List.cons_append, List.nil_append, List.append_nil]; repeat (go_big_quiet_step (exact rfl))
                     refine wpQuiet_nil ?_)
                  | (with_reducible refine wpTr_one ?_)
                  | (with_reducible refine wpTr_alt ?_ ?_)
                  | (simp only [pickOps, List.flatMap_cons, List.flatMap_nil, List.drop_succ_cons, List.drop_zero, List.take_succ_cons, List.take_zero, List.cons_append, List.nil_append, List.append_nil]
                     go_wp2_with (first
                  | (at_builtin; refine appE (W := w1) (B := 0) rfl _ _ rfl (Nat.zero_le _) _ OT rfl (HEW.out.ext ((Ext.alloc _ _).tr (Ext.drew _))) (.slice (some ⟨(xq).heap.size, 0, none⟩) 1 1) [eK] rfl ((SlR.lit1 (R := entR) (y := eK) (w := xq) (c := [.int .u64 eK.x, .slice aK eK.box.length cK]) ⟨_, rfl, HVK.out.ext hHX⟩).ext (Ext.drew _)) (by have := HTL.out; simp only [List.length_cons, List.length_nil]; omega) (Ext.tr hHX ((Ext.alloc _ _).tr (Ext.drew _))) ?_; intro v20 w20 hown20 hg20 hb20
                     obtain ⟨a20, c20, rfl, -, -⟩ := hown20.form
                     rw [List.length_append, List.length_singleton] at hown20
                     have hG20 := ((HGW.out.alloc (.cells #[.int .u64 eK.x, .slice aK eK.box.length cK] 41)).below (Ext.drew _)).grownT hg20 (HEW.out.ext ((Ext.alloc _ (.cells #[.int .u64 eK.x, .slice aK eK.box.length cK] 41)).tr (Ext.drew _))).row (by decide)
                     have q20 : w20.cell? ⟨w1.heap.size, 0, none⟩ = some (.slice aE OT.length cE) := (by rw [hG20.cell]; rfl)
                     have f20 := hG20.free 0
                     have hk20 : HoldT (fun u => Ext w1 u) w w20 := ⟨hb20, Ext.tr HX.out hb20⟩
                     have hkz : HoldT (fun u => Ext w1 u) w (w20.setCell ⟨w1.heap.size, 0, none⟩ (.slice a20 (OT.length + 1) c20)) := ⟨Below.setCell hb20 (Nat.le_refl _) _, Below.setCell (Ext.tr HX.out hb20) (Below.size HX.out) _⟩))
                     refine phPost_hold (by first | with_reducible assumption | exact HoldT.alloc hstab (by with_reducible assumption) _ | exact HoldT.alloc hstab (HoldT.alloc hstab (by with_reducible assumption) _) _) ?_
                     intro hk_))
                all_goals (
                  go_wp2_with fail
                  go_roundw
                  case rel => exact ⟨n + 1, _, by rw [HOL.out]; omega, rfl, hG20.set 0 _, by rw [← HTK.out]; exact hown20.grownT (grownBy_set (grownBy_refl _ _) _ _) (RowT.blk hG20) (by decide) (by decide) (fun _ _ => Nat.zero_le _), hkz.has⟩
                  case measure => (have := HOL.out; simp [intOf] <;> omega))
            · have hq1 : (order.length == es.length) = false := by rw [beq_eq_false_iff_ne]; exact hop
              obtain ⟨eK, heK⟩ : ∃ e, L[n]? = some e := ⟨_, List.getElem?_eq_getElem (by rw [HLL2.out]; exact hlt)⟩
              have HTK := Lib.hid (take_succ_of (HGN.out n eK (fun h => hop (h.1.trans HLL2.out)) heK))
              have hq2 : ((order.length : Int) == (es.length : Int)) = false := by rw [beq_eq_false_iff_ne]; omega
              have hq3 : ¬ (order.length : Int) = (es.length : Int) := by omega
              go_wp2_with fail
              have hHX : Ext w1 wr := HX2.out
              generalize O.take n = OT at *
              have HEW := Lib.hid (HE.out.ext (show Ext wr wr from by first | exact Ext.refl _ | assumption))
              have HGW := Lib.hid (HG.out.below (show Ext wr wr from by first | exact Ext.refl _ | assumption))
              obtain ⟨vK, hrK, hvK⟩ := slE_atR HOE2.out.sl n eK heK
              obtain ⟨aK, cK, rfl, -, -⟩ := hvK.form
              have HRK := Lib.hid hrK; have HVK := Lib.hid hvK
              clear hrK hvK heK
              have hstab := stabE w1
              have hk9 : HoldT (fun u => Ext w1 u) w (wr).drew := HoldT.drew hstab ⟨hHX, Ext.tr HX.out hHX⟩
              have hq3 : ∀ e_ : InC (fun u => Ext w1 u), e_.u.cell? ⟨b14, o14 + n * 2, none⟩ = some (.int .u64 eK.x) := fun e_ => by have := range_below HRK.out e_.has 0 _ rfl; rwa [Nat.add_zero] at this
              have hq4 : ∀ e_ : InC (fun u => Ext w1 u), e_.u.cell? ⟨b14, o14 + n * 2 + 1, none⟩ = some (.slice aK eK.box.length cK) := fun e_ => range_below HRK.out e_.has 1 _ rfl
              have hdK : decide (es.length ≤ n) = false := decide_eq_false (by omega)
              have hG0 : (wr).cell? ⟨w1.heap.size, 0, none⟩ = some (.slice aE OT.length cE) := by rw [HGW.out.cell]; rfl
              have hG1 : ((wr).alloc (.cells #[.int .u64 eK.x, .slice aK eK.box.length cK] 41)).cell? ⟨w1.heap.size, 0, none⟩ = some (.slice aE OT.length cE) := by rw [(HGW.out.alloc _).cell]; rfl
              try change Code.wp _ _ _ (Act.mk _ _) _
              haveI hne_ : Nonempty (InC (fun u => Ext w1 u)) := ⟨⟨_, (hk9).1⟩⟩
              refine wp_region_tr (C := fun w_ => ∃ e_ : InC (fun u => Ext w1 u), w_ = e_.u) (.step [0, 2, 3, 4, 5] (.alt 1 (.step [] (.alt 6 (.step [] (.alt 7 (.step [8] (.alt 9 (.fin []) .nil)) .nil)) .nil)) (.alt 6 (.step [] (.alt 1 (.step [] (.alt 7 (.step [8] (.alt 9 (.fin []) .nil)) .nil)) .nil)) .nil))) (by kernel_rfl) (by kernel_rfl) (fun _ _ _ _ hd_ h_ => ⟨hd_.symm.trans h_.1, h_.2⟩) ⟨⟨World.drew _, (hk9).1⟩, rfl⟩ ?_
              have hk_ := hk9
              repeat' (first
                | ((with_reducible refine wpTr_fin ?_)
                   simp only [pickOps, List.flatMap_cons, List.flatMap_nil, List.drop_succ_cons, List.drop_zero, List.take_succ_cons, List.take_zero, List.cons_append, List.nil_append, List.append_nil]
                   repeat (go_big_quiet_step (exact rfl))
                   refine wpQuiet_nil ?_)
                | ((with_reducible refine wpTr_step ?_); simp only [pickOps, List.flatMap_cons, List.flatMap_nil, List.drop_succ_cons, List.drop_zero, List.take_succ_cons, List.take_zero, List.cons_append, List.nil_append, List.append_nil]; repeat (go_big_quiet_step (exact rfl))
                   refine wpQuiet_nil ?_)
                | (with_reducible refine wpTr_one ?_)
                | (with_reducible refine wpTr_alt ?_ ?_)
                | (simp only [pickOps, List.flatMap_cons, List.flatMap_nil, List.drop_succ_cons, List.drop_zero, List.take_succ_cons, List.take_zero, List.cons_append, List.nil_append, List.append_nil]
                   go_wp2_with (first
                | (at_builtin; refine appE (W := w1) (B := 0) rfl _ _ rfl (Nat.zero_le _) _ OT rfl (HEW.out.ext ((Ext.alloc _ _).tr (Ext.drew _))) (.slice (some ⟨(wr).heap.size, 0, none⟩) 1 1) [eK] rfl ((SlR.lit1 (R := entR) (y := eK) (w := wr) (c := [.int .u64 eK.x, .slice aK eK.box.length cK]) ⟨_, rfl, HVK.out.ext hHX⟩).ext (Ext.drew _)) (by have := HTL.out; simp only [List.length_cons, List.length_nil]; omega) (Ext.tr hHX ((Ext.alloc _ _).tr (Ext.drew _))) ?_; intro v20 w20 hown20 hg20 hb20
                   obtain ⟨a20, c20, rfl, -, -⟩ := hown20.form
                   rw [List.length_append, List.length_singleton] at hown20
                   have hG20 := ((HGW.out.alloc (.cells #[.int .u64 eK.x, .slice aK eK.box.length cK] 41)).below (Ext.drew _)).grownT hg20 (HEW.out.ext ((Ext.alloc _ (.cells #[.int .u64 eK.x, .slice aK eK.box.length cK] 41)).tr (Ext.drew _))).row (by decide)
                   have q20 : w20.cell? ⟨w1.heap.size, 0, none⟩ = some (.slice aE OT.length cE) := (by rw [hG20.cell]; rfl)
                   have f20 := hG20.free 0
                   have hk20 : HoldT (fun u => Ext w1 u) w w20 := ⟨hb20, Ext.tr HX.out hb20⟩
                   have hkz : HoldT (fun u => Ext w1 u) w (w20.setCell ⟨w1.heap.size, 0, none⟩ (.slice a20 (OT.length + 1) c20)) := ⟨Below.setCell hb20 (Nat.le_refl _) _, Below.setCell (Ext.tr HX.out hb20) (Below.size HX.out) _⟩))
                   refine phPost_hold (by first | with_reducible assumption | exact HoldT.alloc hstab (by with_reducible assumption) _ | exact HoldT.alloc hstab (HoldT.alloc hstab (by with_reducible assumption) _) _) ?_
                   intro hk_))
              all_goals (
                go_wp2_with fail
                go_roundw
                case rel => exact ⟨n + 1, _, by rw [HOL.out]; omega, rfl, hG20.set 0 _, by rw [← HTK.out]; exact hown20.grownT (grownBy_set (grownBy_refl _ _) _ _) (RowT.blk hG20) (by decide) (by decide) (fun _ _ => Nat.zero_le _), hkz.has⟩
                case measure => (have := HOL.out; simp [intOf] <;> omega))
          · obtain rfl : n = es.length := by omega
            have hE2 := HE.out
            rw [show O.take es.length = O from List.take_of_length_le (by rw [HOL.out]; omega)] at hE2
            have hsl := hE2.sl.form
            have HE2 := Lib.hid hE2
            have HEQ := Lib.hid fun (w' : World) => Equalr_any p.base p.blind (prodE es) (prodE O) s.blind draw w' HPO.out.1 HPO.out.2.1 (in64_P (prodE_pos _)) (in64_P (prodE_pos _)) HSO.out.1 HDR.out
            have HQQ := Lib.hid (show equalP p.base p.blind (prodE es) (prodE O) s.blind draw = ⟨equalC p.base p.blind (prodE es) (prodE O) draw, ansP (equalC p.base p.blind (prodE es) (prodE O) draw) s.blind draw⟩ from rfl)
            generalize equalP p.base p.blind (prodE es) (prodE O) s.blind draw = EQP at *
            generalize ansP (equalC p.base p.blind (prodE es) (prodE O) draw) s.blind draw = eqs at *
            generalize equalC p.base p.blind (prodE es) (prodE O) draw = eqc at *
            have hol2 : (O.take es.length).length = O.length := by rw [HTL.out, HOL.out]
            have HG2 := Lib.hid (show Blk wr w1.heap.size #[.slice aE O.length cE, .int .u64 0, .int .u64 0] 34 by have h := HG.out; rw [hol2] at h; exact h)
            have HE3 := Lib.hid (show OwR entR 0 w1.heap.size wr (.slice aE O.length cE) O from HE2.out)
            clear hol2 hE2 hsl HTL HE HG HE2
            have HG := HG2; have HE2 := HE3
            go_wp2_with fail
            have hst := stabE wr
            have hk20 : HoldT (fun u => Ext wr u) w wr.drew := HoldT.drew hst ⟨Ext.refl _, Ext.tr HX.out HX2.out⟩
            try change Code.wp _ _ _ (Act.mk _ _) _
            refine wp_region_runR Ext 14 97 (HoldT (fun u => Ext wr u) _) [[], [(0, 82)], [], [(2, 84)], [], [(4, 86)], [], [(6, 88)], [(7, 89)], [], [(9, 91)], [], [(1, 83), (3, 85), (5, 87), (8, 90), (10, 92), (11, 93)], []] [(0, 82), (1, 83), (2, 84), (3, 85), (4, 86), (5, 87), (6, 88), (7, 89), (8, 90), (9, 91), (10, 92), (11, 93), (12, 94), (13, 95)] (by kernel_rfl) (by kernel_rfl) (by first | rfl | simp) (hk20) ?_
            simp only [List.take_succ_cons, List.take_zero, List.drop_succ_cons, List.drop_zero]
            refine sp_op (Ph.eq _) (fun u hu => by
              refine spArg_nil ?_
              have k1 := sec_cell (HCR.out.1.below (Ext.tr HX2.out hu.has))
              have k2 := pub_cell (HCR.out.2.1.below (Ext.tr HX2.out hu.has))
              have k3 : u.cell? ⟨w1.heap.size, 0, none⟩ = some (.slice aE O.length cE) := by rw [(HG.out.below hu.has).cell]; rfl
              go_wp2_with (fail)
              exact ⟨rfl, hu, Ext.refl _, slot_eq rfl⟩) ?_
            refine sp_op (Ph.eq _) (fun u hu => by
              refine spArg_eq 0 rfl rfl ?_
              refine spArg_nil ?_
              simp only [Act.put, List.setIfInBounds_toArray, List.set_cons_succ, List.set_cons_zero]
              have k1 := sec_cell (HCR.out.1.below (Ext.tr HX2.out hu.has))
              have k2 := pub_cell (HCR.out.2.1.below (Ext.tr HX2.out hu.has))
              have k3 : u.cell? ⟨w1.heap.size, 0, none⟩ = some (.slice aE O.length cE) := by rw [(HG.out.below hu.has).cell]; rfl
              go_wp2_with (fail)
              exact ⟨rfl, hu, Ext.refl _, slot_eq rfl⟩) ?_
            refine sp_op (Ph.eq _) (fun u hu => by
              refine spArg_nil ?_
              have k1 := sec_cell (HCR.out.1.below (Ext.tr HX2.out hu.has))
              have k2 := pub_cell (HCR.out.2.1.below (Ext.tr HX2.out hu.has))
              have k3 : u.cell? ⟨w1.heap.size, 0, none⟩ = some (.slice aE O.length cE) := by rw [(HG.out.below hu.has).cell]; rfl
              go_wp2_with (fail)
              exact ⟨rfl, hu, Ext.refl _, slot_eq rfl⟩) ?_
            refine sp_op (Ph.eq _) (fun u hu => by
              refine spArg_eq 0 rfl rfl ?_
              refine spArg_nil ?_
              simp only [Act.put, List.setIfInBounds_toArray, List.set_cons_succ, List.set_cons_zero]
              have k1 := sec_cell (HCR.out.1.below (Ext.tr HX2.out hu.has))
              have k2 := pub_cell (HCR.out.2.1.below (Ext.tr HX2.out hu.has))
              have k3 : u.cell? ⟨w1.heap.size, 0, none⟩ = some (.slice aE O.length cE) := by rw [(HG.out.below hu.has).cell]; rfl
              go_wp2_with (fail)
              exact ⟨rfl, hu, Ext.refl _, slot_eq rfl⟩) ?_
            refine sp_op (Ph.eq _) (fun u hu => by
              refine spArg_nil ?_
              have k1 := sec_cell (HCR.out.1.below (Ext.tr HX2.out hu.has))
              have k2 := pub_cell (HCR.out.2.1.below (Ext.tr HX2.out hu.has))
              have k3 : u.cell? ⟨w1.heap.size, 0, none⟩ = some (.slice aE O.length cE) := by rw [(HG.out.below hu.has).cell]; rfl
              go_wp2_with (fail)
              exact ⟨rfl, hu, Ext.refl _, slot_eq rfl⟩) ?_
            refine sp_op (Ph.eq _) (fun u hu => by
              refine spArg_eq 0 rfl rfl ?_
              refine spArg_nil ?_
              simp only [Act.put, List.setIfInBounds_toArray, List.set_cons_succ, List.set_cons_zero]
              have k1 := sec_cell (HCR.out.1.below (Ext.tr HX2.out hu.has))
              have k2 := pub_cell (HCR.out.2.1.below (Ext.tr HX2.out hu.has))
              have k3 : u.cell? ⟨w1.heap.size, 0, none⟩ = some (.slice aE O.length cE) := by rw [(HG.out.below hu.has).cell]; rfl
              go_wp2_with ((go_at_call 21; refine (hproductr_any es B _ _ (HLL.out.ext hu.up) (fun e he => (HEO.out e he).1) (by omega)).mono ?_; rintro e_ x_ ⟨rfl, hb_⟩))
              exact ⟨rfl, HoldT.step hst hu hb_, hb_, slot_eq rfl⟩) ?_
            refine sp_op (Ph.eq _) (fun u hu => by
              refine spArg_nil ?_
              have k1 := sec_cell (HCR.out.1.below (Ext.tr HX2.out hu.has))
              have k2 := pub_cell (HCR.out.2.1.below (Ext.tr HX2.out hu.has))
              have k3 : u.cell? ⟨w1.heap.size, 0, none⟩ = some (.slice aE O.length cE) := by rw [(HG.out.below hu.has).cell]; rfl
              go_wp2_with (fail)
              exact ⟨rfl, hu, Ext.refl _, slot_eq rfl⟩) ?_
            refine sp_op (Ph.eq _) (fun u hu => by
              refine spArg_eq 0 rfl rfl ?_
              refine spArg_nil ?_
              simp only [Act.put, List.setIfInBounds_toArray, List.set_cons_succ, List.set_cons_zero]
              have k1 := sec_cell (HCR.out.1.below (Ext.tr HX2.out hu.has))
              have k2 := pub_cell (HCR.out.2.1.below (Ext.tr HX2.out hu.has))
              have k3 : u.cell? ⟨w1.heap.size, 0, none⟩ = some (.slice aE O.length cE) := by rw [(HG.out.below hu.has).cell]; rfl
              go_wp2_with (fail)
              exact ⟨rfl, hu, Ext.refl _, slot_eq rfl⟩) ?_
            refine sp_op (Ph.eq _) (fun u hu => by
              refine spArg_eq 0 rfl rfl ?_
              refine spArg_nil ?_
              simp only [Act.put, List.setIfInBounds_toArray, List.set_cons_succ, List.set_cons_zero]
              have k1 := sec_cell (HCR.out.1.below (Ext.tr HX2.out hu.has))
              have k2 := pub_cell (HCR.out.2.1.below (Ext.tr HX2.out hu.has))
              have k3 : u.cell? ⟨w1.heap.size, 0, none⟩ = some (.slice aE O.length cE) := by rw [(HG.out.below hu.has).cell]; rfl
              go_wp2_with ((go_at_call 21; refine (hproductr_any O 0 _ _ (HE2.out.sl.ext hu.has) HOOK.out (by rw [HOL.out]; omega)).mono ?_; rintro e_ x_ ⟨rfl, hb_⟩))
              exact ⟨rfl, HoldT.step hst hu hb_, hb_, slot_eq rfl⟩) ?_
            refine sp_op (Ph.eq _) (fun u hu => by
              refine spArg_nil ?_
              have k1 := sec_cell (HCR.out.1.below (Ext.tr HX2.out hu.has))
              have k2 := pub_cell (HCR.out.2.1.below (Ext.tr HX2.out hu.has))
              have k3 : u.cell? ⟨w1.heap.size, 0, none⟩ = some (.slice aE O.length cE) := by rw [(HG.out.below hu.has).cell]; rfl
              go_wp2_with (fail)
              exact ⟨rfl, hu, Ext.refl _, slot_eq rfl⟩) ?_
            refine sp_op (Ph.eq _) (fun u hu => by
              refine spArg_eq 0 rfl rfl ?_
              refine spArg_nil ?_
              simp only [Act.put, List.setIfInBounds_toArray, List.set_cons_succ, List.set_cons_zero]
              have k1 := sec_cell (HCR.out.1.below (Ext.tr HX2.out hu.has))
              have k2 := pub_cell (HCR.out.2.1.below (Ext.tr HX2.out hu.has))
              have k3 : u.cell? ⟨w1.heap.size, 0, none⟩ = some (.slice aE O.length cE) := by rw [(HG.out.below hu.has).cell]; rfl
              go_wp2_with (fail)
              exact ⟨rfl, hu, Ext.refl _, slot_eq rfl⟩) ?_
            refine sp_op (Ph.eq _) (fun u hu => by
              refine spArg_nil ?_
              have k1 := sec_cell (HCR.out.1.below (Ext.tr HX2.out hu.has))
              have k2 := pub_cell (HCR.out.2.1.below (Ext.tr HX2.out hu.has))
              have k3 : u.cell? ⟨w1.heap.size, 0, none⟩ = some (.slice aE O.length cE) := by rw [(HG.out.below hu.has).cell]; rfl
              go_wp2_with (fail)
              exact ⟨rfl, hu, Ext.refl _, slot_eq rfl⟩) ?_
            refine sp_op (Ph.eq _) (fun u hu => by
              refine spArg_eq 10 rfl rfl ?_
              refine spArg_eq 8 rfl rfl ?_
              refine spArg_eq 6 rfl rfl ?_
              refine spArg_eq 3 rfl rfl ?_
              refine spArg_eq 1 rfl rfl ?_
              refine spArg_eq 0 rfl rfl ?_
              refine spArg_nil ?_
              simp only [Act.put, List.setIfInBounds_toArray, List.set_cons_succ, List.set_cons_zero]
              have k1 := sec_cell (HCR.out.1.below (Ext.tr HX2.out hu.has))
              have k2 := pub_cell (HCR.out.2.1.below (Ext.tr HX2.out hu.has))
              have k3 : u.cell? ⟨w1.heap.size, 0, none⟩ = some (.slice aE O.length cE) := by rw [(HG.out.below hu.has).cell]; rfl
              go_wp2_with ((go_at_call 20; refine (HEQ.out _).mono ?_; rintro e_ x_ ⟨rfl, hb_⟩))
              exact ⟨rfl, HoldT.step hst hu hb_, hb_, slot_eq rfl⟩) ?_
            refine sp_op (Ph.eq _) (fun u hu => by
              refine spArg_nil ?_
              have k1 := sec_cell (HCR.out.1.below (Ext.tr HX2.out hu.has))
              have k2 := pub_cell (HCR.out.2.1.below (Ext.tr HX2.out hu.has))
              have k3 : u.cell? ⟨w1.heap.size, 0, none⟩ = some (.slice aE O.length cE) := by rw [(HG.out.below hu.has).cell]; rfl
              go_wp2_with (fail)
              exact ⟨rfl, hu, Ext.refl _, slot_eq rfl⟩) ?_
            refine sp_end ?_
            intro u hu
            refine spArg_eq 13 rfl rfl ?_
            refine spArg_eq 12 rfl rfl ?_
            refine spArg_eq 11 rfl rfl ?_
            refine spArg_eq 10 rfl rfl ?_
            refine spArg_eq 9 rfl rfl ?_
            refine spArg_eq 8 rfl rfl ?_
            refine spArg_eq 7 rfl rfl ?_
            refine spArg_eq 6 rfl rfl ?_
            refine spArg_eq 5 rfl rfl ?_
            refine spArg_eq 4 rfl rfl ?_
            refine spArg_eq 3 rfl rfl ?_
            refine spArg_eq 2 rfl rfl ?_
            refine spArg_eq 1 rfl rfl ?_
            refine spArg_eq 0 rfl rfl ?_
            refine spArg_nil ?_
            simp only [Act.put, List.setIfInBounds_toArray, List.set_cons_succ, List.set_cons_zero]
            have hGb : w1.heap.size < wr.heap.size := HG.out.lt
            have hCb := HCR.out.2.2.lt
            go_wp2_with (first
              | (refine wpList_store_in rfl 26 (.tmp 95) _ rfl w1.heap.size 1 #[.int .u64 eqc, .int .u64 eqs] _ #[.slice aE O.length cE, .int .u64 eqc, .int .u64 eqs] _ rfl rfl (HG.out.below hu.has) (show 3 ≤ 3 by decide) info_proof (by intro v hv; simp at hv; rcases hv with rfl | rfl <;> rfl) rfl ?_; intro x7 hg7 hs7 hR7
                 have hZ7 := (HCR.out.2.2.below (Ext.tr HX2.out hu.has)).grownBy hg7 (some_ne (by omega))
                 have hE7 := (HE2.out.ext hu.has).grownT hg7 (RowT.blk (HG.out.below hu.has)) (by decide) (by decide) (fun _ _ => Nat.zero_le _)
                 have hbel7 : Ext w x7 := ext_row hu.up hg7 (Below.size HX.out)
                 clear hs7)
              | (refine wpList_load_row rfl 34 (.tmp 19) rfl w1.heap.size rfl _ _ (0, 0) _ hR7 Try.underlying34 rfl info_pas ?_)
              | (refine wpList_store_row rfl 34 (.tmp 12) _ rfl (w.heap.size + 1 + 1) #[.slice aE O.length cE, .int .u64 eqc, .int .u64 eqs] _ _ rfl rfl hZ7 rfl info_pas (by intro v hv; simp at hv; rcases hv with rfl | rfl | rfl <;> rfl) ?_; intro x8 hg8 hs8 hR8))
            refine bodyPost_ret (results_row_tmp Try.results8 _ _ (w.heap.size + 1 + 1) _ _ _ _ rfl rfl hR8 Try.underlying34 rfl info_pas) rfl ?_
            exact ⟨_, .slice none 0 0, by rw [HRR.out, HQQ.out]; rfl, by rw [HRR.out]; exact (hE7.mono (Nat.le_refl _) (Below.size HX.out)).grownT hg8 (RowT.blk hZ7) (by decide) (by decide) (fun _ _ => Nat.zero_le _), by rw [HFF.out]; exact OwR.nil _ _ _, ext_row hbel7 hg8 (by omega)⟩
      · have hpos : (0 : Int) < ((failsN s at_ es es.length).length : Int) := by
          have := List.length_pos_iff.2 hf
          show (0 : Int) < ((failsL s at_ es).length : Int)
          omega
        have hR := HRUN.out
        rw [if_neg hf] at hR
        have HRR := Lib.hid hR; clear hR hf
        go_wp2_with (refine wpList_store_row rfl 34 (.tmp 12) _ rfl (w.heap.size + 1 + 1) PasZ _ _ rfl rfl HCR.out.2.2 rfl info_pas (by intro v hv; simp at hv; rcases hv with rfl | rfl | rfl <;> rfl) ?_; intro x7 hg7 hs7 hR7)
        refine bodyPost_ret (results_row_tmp Try.results8 _ _ (w.heap.size + 1 + 1) _ _ _ _ rfl rfl hR7 Try.underlying34 rfl info_pas) rfl ?_
        exact ⟨.slice none 0 0, _, by rw [HRR.out]; rfl, by rw [HRR.out]; exact OwR.nil _ _ _, HOI2.out.grownT hg7 (RowT.blk HCR.out.2.2) (by decide) (by decide) (fun _ _ => Nat.zero_le _), ext_row HX.out hg7 (by omega)⟩
end Go.Proofs.Ytmbgcjfmfkddpaa
