/-
  A pass of a hop: Run of the program.
-/
import Derived.Test.YtmbgcjfmfkddpaaGreatHpo
namespace Go.Proofs.YtmbgcjfmfkddpaaGreat
set_option linter.unusedVariables false
set_option linter.unusedSimpArgs false
open Go Go.RowKit

set_option maxRecDepth 100000 in
set_option maxHeartbeats 8000000 in
theorem HRun_any (s : Sec) (p : Pub) (at_ : Int) (es : List Ent) (order : List Int) (draw : Int) (B : Nat) (vl vo : Value) (w : World) (hs : s.ok) (hp : p.ok) (hd : in64 draw) (hl : SlR entR B w vl es) (ho : SlR intR B w vo order)
    (heo : ∀ e ∈ es, e.ok ∧ e.box.length ≤ 20000000000000) (hn : es.length ≤ 1000000) (hno : order.length ≤ 9223372036854775807) :
    Calls Tryz.prog 11 #[.agg s.cells.toArray, .agg p.cells.toArray, .int .i64 at_, vl, vo, .int .u64 draw] w (RetH (runL s p at_ es order draw) (failsL s at_ es) w) := by
  obtain ⟨al, cl, rfl, hcl, hcl'⟩ := hl.form
  obtain ⟨ao, co, rfl, hco, hco'⟩ := ho.form
  have HLL := Lib.hid hl; have HOO := Lib.hid ho; have HEO := Lib.hid heo; have HSO := Lib.hid hs; have HPO := Lib.hid hp; have HDR := Lib.hid hd; have HNO := Lib.hid hno
  clear hl ho heo hs hp hd hno
  have HC0 := Lib.hid (show HoC w s.cells.toArray p.cells.toArray (((w.alloc (.cells s.cells.toArray 41)).alloc (.cells p.cells.toArray 49)).alloc (.cells PasZ 45)) from
    ⟨((Blk.new _ _ _).alloc _ |>.alloc _), (Blk.new2 _ _ _ _).alloc _, Blk.new3 _ _ _ _ _⟩)
  have hb0 := Lib.hid (show Ext w (((w.alloc (.cells s.cells.toArray 41)).alloc (.cells p.cells.toArray 49)).alloc (.cells PasZ 45)) from (show Below w.heap.size w _ by go_grown))
  have HPZ := Lib.hid (show p.cells.toArray.size = 10 by rw [List.size_toArray, p.length_cells])
  have HRUN := Lib.hid (show runL s p at_ es order draw = if failsL s at_ es = [] then ⟨orderL (opened s at_ es) order, equalP p.base p.blind (prodE es) (prodE (orderL (opened s at_ es) order)) s.blind draw⟩ else ⟨[], ⟨0, 0⟩⟩ from rfl)
  generalize runL s p at_ es order draw = RUN at *
  go_enter Tryz.func11, Tryz.ntmps11
  go_wp2_with fail
  go_loopw [14, 15, 16, 17, 18, 19, 22] (fun vo_ vb_ _ _ _ _ i wr => HRel1 w s.cells.toArray p.cells.toArray s at_ es vo_ vb_ i wr) (fun _ _ _ _ _ _ i _ => es.length - (intOf i).toNat)
  case atStart => exact ⟨0, Nat.zero_le _, rfl, OwR.nil _ _ _, OwR.nil _ _ _, HC0.out, hb0.out⟩
  case round =>
    obtain ⟨n, hnl, rfl, hoE, hoI, hC, hX⟩ := hrel
    have HX := Lib.hid hX; have HOE := Lib.hid hoE; have HOI := Lib.hid hoI; have HCR := Lib.hid hC
    obtain ⟨a14, c14, rfl, -, -⟩ := hoE.form
    obtain ⟨a15, c15, rfl, -, -⟩ := hoI.form
    clear hX hoE hoI hC
    by_cases hlt : n < es.length
    · obtain ⟨b, o, c', e1, -, -⟩ := HLL.out.open (by omega)
      obtain ⟨rfl, rfl⟩ : al = some ⟨b, o, none⟩ ∧ cl = c' := by injection e1 with e1 _ e3; exact ⟨e1, e3⟩
      clear e1
      obtain ⟨e, he⟩ : ∃ e, es[n]? = some e := ⟨_, List.getElem?_eq_getElem hlt⟩
      obtain ⟨ve, hrg, hve⟩ := slE_at HLL.out n e he
      obtain ⟨ae, ce, rfl, -, -⟩ := sees_form hve
      have heo := HEO.out e (List.mem_of_getElem? he)
      have HOP := Lib.hid fun (w' : World) (h : Ext w w') => (show Calls Tryz.prog 28 #[.agg s.cells.toArray, .int .i64 at_, .agg #[.int .u64 e.x, .slice ae e.box.length ce]] w' _ from HOpen_any s.blind s.mix s.inner at_ e.x e.box _ w' HSO.out.1 HSO.out.2.1 heo.1 (hve.below h (by decide)) heo.2)
      have hos := openedT_succ (s := s) (at_ := at_) he
      have hfs := failsN_succ (s := s) (at_ := at_) he
      rw [(openE_some (s := s) (at_ := at_) (e := e)).1] at hos
      rw [(openE_some (s := s) (at_ := at_) (e := e)).2] at hfs
      unfold RetOE at HOP
      have HRG := Lib.hid hrg
      clear hrg hve heo he
      generalize openE s.blind s.mix at_ e.x e.box = op at *
      generalize (op.getD (0, [])).1 = X at *
      generalize (op.getD (0, [])).2 = BX at *
      generalize op.isSome = K at *
      have HOS := Lib.hid hos; clear hos
      have HLO := Lib.hid (show (opened s at_ (es.take n)).length ≤ 1000000 by rw [length_opened, List.length_take]; omega)
      have HLF := Lib.hid (show (failsN s at_ es n).length ≤ 1000000 by have := length_failsN s at_ es n; omega)
      generalize opened s at_ (es.take n) = L1 at *
      generalize failsN s at_ es n = L2 at *
      have HIS := Lib.hid (show (Tryz.prog.info? 41).map (·.size) = some s.cells.toArray.size from info_sec)
      have tok1 := Lib.hid trivial
      cases K with
      | true =>
        have HFS := Lib.hid (show failsN s at_ es (n + 1) = L2 by simpa using hfs); clear hfs
        go_wp2_with (first
          | (refine wpList_load_mid rfl 36 (.tmp 25) rfl b (o + n * 2) rfl _ _ (range_below HRG.out HX.out) Tryz.underlying36 rfl info_entry ?_)
          | (have _t := tok1.out; refine wpList_allocB rfl _ rfl _ run_allocEnt ?_; intro x1 B17 hh1 hB1 e1; clear _t tok1)
          | (refine wpList_store_row rfl 36 (.tmp 17) _ rfl B17 #[.int .u64 e.x, .slice ae e.box.length ce] _ _ rfl rfl hh1 rfl info_entry (one_ent _ _ _ _) ?_; intro x2 hg2 hs2 hR2
             have e2 : Ext wr x2 := ext_rowK e1 hg2 hB1
             have hsec2 := HCR.out.1.below e2
             clear hs2 hh1)
          | (refine wpList_load_row rfl 41 (.tmp 6) rfl w.heap.size rfl _ _ (0, 0) _ hsec2 Tryz.underlying41 rfl HIS.out ?_)
          | (refine wpList_load_row rfl 36 (.tmp 17) rfl B17 rfl _ _ (0, 0) _ hR2 Tryz.underlying36 rfl info_entry ?_)
          | (go_at_call 28; refine (HOP.out _ (Ext.tr HX.out e2)).mono ?_; rintro r_ x3 ⟨v3, rfl, how3, hb3⟩; obtain ⟨a3, c3, rfl, -, -⟩ := owns_form how3; have e3 : Ext x2 x3 := hb3)
          | (refine wpList_allocB rfl _ rfl _ run_allocEnt ?_; intro x4 B18 hh4 hB4 e4)
          | (refine wpList_store_row rfl 36 (.tmp 18) _ rfl B18 #[.int .u64 X, .slice a3 BX.length c3] _ _ rfl rfl hh4 rfl info_entry (one_ent _ _ _ _) ?_; intro x5 hg5 hs5 hR5
             have e35 : Ext x3 x5 := ext_rowK e4 hg5 hB4
             have e5 : Ext wr x5 := Ext.tr (Ext.tr e2 e3) e35
             have hE5 := HOE.out.ext e5
             have hI5 := HOI.out.ext e5
             have hC5 := stabHoC _ _ _ _ _ HCR.out e5
             have hB5 := owns_below how3 e35
             have hb5 : Ext w x5 := Ext.tr HX.out e5
             clear hs5 hh4)
          | (at_builtin; refine appI (W := w) (B := 0) rfl _ _ rfl (Nat.zero_le _) _ L2 rfl (hI5.ext (Ext.alloc _ _)) (.slice (some ⟨x5.heap.size, 0, none⟩) 1 1) [(n : Int)] rfl (SlR.lit1 (R := intR) (y := (n : Int)) (c := [.int .i64 n]) rfl) (by have := HLF.out; simp only [List.length_cons, List.length_nil]; omega) (Ext.tr hb5 (Ext.alloc _ _)) ?_; intro v8 w8 hI8 hg8 hb8; have hrow8 := (hI5.ext (Ext.alloc x5 (.cells #[.int .i64 (n : Int)] intR.ty))).row; have hE8 := (hE5.ext (Ext.alloc _ _)).grownT hg8 hrow8 (by decide) (by decide) (fun _ _ => Nat.zero_le _); have hC8 := (stabHoC _ _ _ _ _ hC5 (Ext.alloc _ _)).grownT hg8 hrow8 (by decide) (by decide) (by decide); have hR8 := Blk.grownT (hR5.below (Ext.alloc _ _)) hg8 hrow8 (by decide); have hB8 := own_grown (owns_below hB5 (Ext.alloc _ _)) hg8 hrow8 (by decide); clear hI5 hE5 hC5 hR5 hB5 hb5)
          | (refine wpList_load_row rfl 36 (.tmp 18) rfl B18 rfl _ _ (0, 0) _ hR8 Tryz.underlying36 rfl info_entry ?_)
          | (at_builtin; refine appE (W := w) (B := 0) rfl _ _ rfl (Nat.zero_le _) _ L1 rfl (hE8.ext (Ext.alloc _ _)) (.slice (some ⟨w8.heap.size, 0, none⟩) 1 1) [⟨X, BX⟩] rfl (SlR.lit1 (R := entR) (y := ⟨X, BX⟩) (c := [.int .u64 X, .slice a3 BX.length c3]) ⟨_, rfl, slB_own hB8⟩) (by have := HLO.out; simp only [List.length_cons, List.length_nil]; omega) (Ext.tr hb8 (Ext.alloc _ _)) ?_; intro v9 w9 hown9 hg9 hb9
             have hrow9 := (hE8.ext (Ext.alloc w8 (.cells #[.int .u64 X, .slice a3 BX.length c3] 36))).row
             have hI9 := (hI8.ext (Ext.alloc _ _)).grownT hg9 hrow9 (by decide) (by decide) (fun _ _ => Nat.zero_le _)
             have hC9 := (stabHoC _ _ _ _ _ hC8 (Ext.alloc _ _)).grownT hg9 hrow9 (by decide) (by decide) (by decide))
          | (refine wpList_load_row rfl 36 (.tmp 18) rfl B18 rfl _ _ (0, 0) _ hR5 Tryz.underlying36 rfl info_entry ?_)
          | (at_builtin; refine appE (W := w) (B := 0) rfl _ _ rfl (Nat.zero_le _) _ L1 rfl (hE5.ext (Ext.alloc _ _)) (.slice (some ⟨x5.heap.size, 0, none⟩) 1 1) [⟨X, BX⟩] rfl (SlR.lit1 (R := entR) (y := ⟨X, BX⟩) (c := [.int .u64 X, .slice a3 BX.length c3]) ⟨_, rfl, slB_own hB5⟩) (by have := HLO.out; simp only [List.length_cons, List.length_nil]; omega) (Ext.tr hb5 (Ext.alloc _ _)) ?_; intro v9 w9 hown9 hg9 hb9
             have hrow9 := (hE5.ext (Ext.alloc x5 (.cells #[.int .u64 X, .slice a3 BX.length c3] 36))).row
             have hI9 := (hI5.ext (Ext.alloc _ _)).grownT hg9 hrow9 (by decide) (by decide) (fun _ _ => Nat.zero_le _)
             have hC9 := (stabHoC _ _ _ _ _ hC5 (Ext.alloc _ _)).grownT hg9 hrow9 (by decide) (by decide) (by decide)))
        go_roundw
        case rel => exact ⟨n + 1, by omega, rfl, by rw [← HOS.out]; exact hown9, by rw [HFS.out]; exact hI9, hC9, hb9⟩
        case measure => (simp [intOf] <;> omega)
      | false =>
        have HFS := Lib.hid (show failsN s at_ es (n + 1) = L2 ++ [(n : Int)] by simpa using hfs); clear hfs
        go_wp2_with (first
          | (refine wpList_load_mid rfl 36 (.tmp 25) rfl b (o + n * 2) rfl _ _ (range_below HRG.out HX.out) Tryz.underlying36 rfl info_entry ?_)
          | (have _t := tok1.out; refine wpList_allocB rfl _ rfl _ run_allocEnt ?_; intro x1 B17 hh1 hB1 e1; clear _t tok1)
          | (refine wpList_store_row rfl 36 (.tmp 17) _ rfl B17 #[.int .u64 e.x, .slice ae e.box.length ce] _ _ rfl rfl hh1 rfl info_entry (one_ent _ _ _ _) ?_; intro x2 hg2 hs2 hR2
             have e2 : Ext wr x2 := ext_rowK e1 hg2 hB1
             have hsec2 := HCR.out.1.below e2
             clear hs2 hh1)
          | (refine wpList_load_row rfl 41 (.tmp 6) rfl w.heap.size rfl _ _ (0, 0) _ hsec2 Tryz.underlying41 rfl HIS.out ?_)
          | (refine wpList_load_row rfl 36 (.tmp 17) rfl B17 rfl _ _ (0, 0) _ hR2 Tryz.underlying36 rfl info_entry ?_)
          | (go_at_call 28; refine (HOP.out _ (Ext.tr HX.out e2)).mono ?_; rintro r_ x3 ⟨v3, rfl, how3, hb3⟩; obtain ⟨a3, c3, rfl, -, -⟩ := owns_form how3; have e3 : Ext x2 x3 := hb3)
          | (refine wpList_allocB rfl _ rfl _ run_allocEnt ?_; intro x4 B18 hh4 hB4 e4)
          | (refine wpList_store_row rfl 36 (.tmp 18) _ rfl B18 #[.int .u64 X, .slice a3 BX.length c3] _ _ rfl rfl hh4 rfl info_entry (one_ent _ _ _ _) ?_; intro x5 hg5 hs5 hR5
             have e35 : Ext x3 x5 := ext_rowK e4 hg5 hB4
             have e5 : Ext wr x5 := Ext.tr (Ext.tr e2 e3) e35
             have hE5 := HOE.out.ext e5
             have hI5 := HOI.out.ext e5
             have hC5 := stabHoC _ _ _ _ _ HCR.out e5
             have hB5 := owns_below how3 e35
             have hb5 : Ext w x5 := Ext.tr HX.out e5
             clear hs5 hh4)
          | (at_builtin; refine appI (W := w) (B := 0) rfl _ _ rfl (Nat.zero_le _) _ L2 rfl (hI5.ext (Ext.alloc _ _)) (.slice (some ⟨x5.heap.size, 0, none⟩) 1 1) [(n : Int)] rfl (SlR.lit1 (R := intR) (y := (n : Int)) (c := [.int .i64 n]) rfl) (by have := HLF.out; simp only [List.length_cons, List.length_nil]; omega) (Ext.tr hb5 (Ext.alloc _ _)) ?_; intro v8 w8 hI8 hg8 hb8; have hrow8 := (hI5.ext (Ext.alloc x5 (.cells #[.int .i64 (n : Int)] intR.ty))).row; have hE8 := (hE5.ext (Ext.alloc _ _)).grownT hg8 hrow8 (by decide) (by decide) (fun _ _ => Nat.zero_le _); have hC8 := (stabHoC _ _ _ _ _ hC5 (Ext.alloc _ _)).grownT hg8 hrow8 (by decide) (by decide) (by decide); have hR8 := Blk.grownT (hR5.below (Ext.alloc _ _)) hg8 hrow8 (by decide); have hB8 := own_grown (owns_below hB5 (Ext.alloc _ _)) hg8 hrow8 (by decide); clear hI5 hE5 hC5 hR5 hB5 hb5)
          | (refine wpList_load_row rfl 36 (.tmp 18) rfl B18 rfl _ _ (0, 0) _ hR8 Tryz.underlying36 rfl info_entry ?_)
          | (at_builtin; refine appE (W := w) (B := 0) rfl _ _ rfl (Nat.zero_le _) _ L1 rfl (hE8.ext (Ext.alloc _ _)) (.slice (some ⟨w8.heap.size, 0, none⟩) 1 1) [⟨X, BX⟩] rfl (SlR.lit1 (R := entR) (y := ⟨X, BX⟩) (c := [.int .u64 X, .slice a3 BX.length c3]) ⟨_, rfl, slB_own hB8⟩) (by have := HLO.out; simp only [List.length_cons, List.length_nil]; omega) (Ext.tr hb8 (Ext.alloc _ _)) ?_; intro v9 w9 hown9 hg9 hb9
             have hrow9 := (hE8.ext (Ext.alloc w8 (.cells #[.int .u64 X, .slice a3 BX.length c3] 36))).row
             have hI9 := (hI8.ext (Ext.alloc _ _)).grownT hg9 hrow9 (by decide) (by decide) (fun _ _ => Nat.zero_le _)
             have hC9 := (stabHoC _ _ _ _ _ hC8 (Ext.alloc _ _)).grownT hg9 hrow9 (by decide) (by decide) (by decide))
          | (refine wpList_load_row rfl 36 (.tmp 18) rfl B18 rfl _ _ (0, 0) _ hR5 Tryz.underlying36 rfl info_entry ?_)
          | (at_builtin; refine appE (W := w) (B := 0) rfl _ _ rfl (Nat.zero_le _) _ L1 rfl (hE5.ext (Ext.alloc _ _)) (.slice (some ⟨x5.heap.size, 0, none⟩) 1 1) [⟨X, BX⟩] rfl (SlR.lit1 (R := entR) (y := ⟨X, BX⟩) (c := [.int .u64 X, .slice a3 BX.length c3]) ⟨_, rfl, slB_own hB5⟩) (by have := HLO.out; simp only [List.length_cons, List.length_nil]; omega) (Ext.tr hb5 (Ext.alloc _ _)) ?_; intro v9 w9 hown9 hg9 hb9
             have hrow9 := (hE5.ext (Ext.alloc x5 (.cells #[.int .u64 X, .slice a3 BX.length c3] 36))).row
             have hI9 := (hI5.ext (Ext.alloc _ _)).grownT hg9 hrow9 (by decide) (by decide) (fun _ _ => Nat.zero_le _)
             have hC9 := (stabHoC _ _ _ _ _ hC5 (Ext.alloc _ _)).grownT hg9 hrow9 (by decide) (by decide) (by decide)))
        go_roundw
        case rel => exact ⟨n + 1, by omega, rfl, by rw [← HOS.out]; exact hown9, by rw [HFS.out]; exact hI9, hC9, hb9⟩
        case measure => (simp [intOf] <;> omega)
    · obtain rfl : n = es.length := by omega
      have hoe := HOE.out
      have hoi := HOI.out
      rw [List.take_length] at hoe
      rw [show failsN s at_ es es.length = failsL s at_ es from rfl] at hoi
      have HOE2 := Lib.hid hoe; have HOI2 := Lib.hid hoi
      have HLO := Lib.hid (show (opened s at_ (es.take es.length)).length = es.length by rw [length_opened, List.length_take, Nat.min_self])
      rw [HLO.out] at *
      clear hoe hoi HOE HOI
      by_cases hf : failsL s at_ es = []
      · have hz : ¬ (0 : Int) < ((failsN s at_ es es.length).length : Int) := by
          show ¬ (0 : Int) < ((failsL s at_ es).length : Int); rw [hf]; exact Int.lt_irrefl 0
        have hR := HRUN.out
        rw [if_pos hf] at hR
        have HRR := Lib.hid hR; have HFF := Lib.hid hf; clear hR hf
        have HOL := Lib.hid (show (orderL (opened s at_ es) order).length = es.length by rw [length_orderL, length_opened])
        have HLL2 := Lib.hid (length_opened s at_ es)
        have HOOK := Lib.hid (orderL_ok (order := order) (opened_ok (s := s) (at_ := at_) (es := es)))
        have HORD := Lib.hid fun (v : Value) (hv : OwR entR 0 w.heap.size wr v (opened s at_ es)) => ordered_any (opened s at_ es) order B v _ w wr HX.out hv (HOO.out.ext HX.out) (by rw [length_opened]; exact hn) HNO.out
        unfold RetO2 at HORD
        generalize orderL (opened s at_ es) order = O at *
        generalize opened s at_ es = L at *
        have HEQ := Lib.hid fun (w' : World) => Equal_any p.base p.blind (prodE es) (prodE O) s.blind draw w' HPO.out.1 HPO.out.2.1 (in64_P (prodE_pos _)) (in64_P (prodE_pos _)) HSO.out.1 HDR.out
        have HQQ := Lib.hid (show equalP p.base p.blind (prodE es) (prodE O) s.blind draw = ⟨equalC p.base p.blind (prodE es) (prodE O) draw, ansP (equalC p.base p.blind (prodE es) (prodE O) draw) s.blind draw⟩ from rfl)
        generalize equalP p.base p.blind (prodE es) (prodE O) s.blind draw = EQP at *
        generalize ansP (equalC p.base p.blind (prodE es) (prodE O) draw) s.blind draw = eqs at *
        generalize equalC p.base p.blind (prodE es) (prodE O) draw = eqc at *
        have HV2 := Lib.hid (show OwR entR 0 w.heap.size wr (.slice a14 es.length c14) L from by have h := HOE2.out; rw [HLL2.out] at h; exact h)
        have HORD2 := Lib.hid (HORD.out _ HV2.out)
        clear HORD HOE2
        go_wp2_with (go_at_call 29; refine HORD2.out.mono ?_; rintro r_ wq ⟨vE, rfl, hE, hXq⟩; obtain ⟨aE, cE, rfl, -, -⟩ := hE.form; have HE := Lib.hid hE; have HXQ := Lib.hid hXq; have HCQ := Lib.hid (stabHoC _ _ _ _ _ HCR.out hXq); clear hE hXq)
        have hst := stabE wq
        have hk14 : HoldT (fun u => Ext wq u) w wq.drew := HoldT.drew hst ⟨Ext.refl _, Ext.tr HX.out HXQ.out⟩
        try change Code.wp _ _ _ (Act.mk _ _) _
        refine wp_region_runR Ext 14 67 (HoldT (fun u => Ext wq u) _) [[], [], [(1, 54)], [], [(3, 56)], [], [(5, 58)], [], [(7, 60)], [], [(9, 62)], [], [(2, 55), (4, 57), (6, 59), (8, 61), (10, 63), (11, 64)], [(0, 53), (12, 65)]] [(0, 53), (1, 54), (2, 55), (3, 56), (4, 57), (5, 58), (6, 59), (7, 60), (8, 61), (9, 62), (10, 63), (11, 64), (12, 65), (13, 66)] (by kernel_rfl) (by kernel_rfl) (by first | rfl | simp) (hk14) ?_
        simp only [List.take_succ_cons, List.take_zero, List.drop_succ_cons, List.drop_zero]
        refine sp_op (Ph.eq _) (fun u hu => by
          refine spArg_nil ?_
          have k1 := sec_cell (HCQ.out.1.below hu.has)
          have k2 := pub_cell (HCQ.out.2.1.below hu.has)
          go_wp2_with (fail)
          exact ⟨rfl, hu, Ext.refl _, slot_eq rfl⟩) ?_
        refine sp_op (Ph.eq _) (fun u hu => by
          refine spArg_nil ?_
          have k1 := sec_cell (HCQ.out.1.below hu.has)
          have k2 := pub_cell (HCQ.out.2.1.below hu.has)
          go_wp2_with (fail)
          exact ⟨rfl, hu, Ext.refl _, slot_eq rfl⟩) ?_
        refine sp_op (Ph.eq _) (fun u hu => by
          refine spArg_eq 0 rfl rfl ?_
          refine spArg_nil ?_
          simp only [Act.put, List.setIfInBounds_toArray, List.set_cons_succ, List.set_cons_zero]
          have k1 := sec_cell (HCQ.out.1.below hu.has)
          have k2 := pub_cell (HCQ.out.2.1.below hu.has)
          go_wp2_with (fail)
          exact ⟨rfl, hu, Ext.refl _, slot_eq rfl⟩) ?_
        refine sp_op (Ph.eq _) (fun u hu => by
          refine spArg_nil ?_
          have k1 := sec_cell (HCQ.out.1.below hu.has)
          have k2 := pub_cell (HCQ.out.2.1.below hu.has)
          go_wp2_with (fail)
          exact ⟨rfl, hu, Ext.refl _, slot_eq rfl⟩) ?_
        refine sp_op (Ph.eq _) (fun u hu => by
          refine spArg_eq 0 rfl rfl ?_
          refine spArg_nil ?_
          simp only [Act.put, List.setIfInBounds_toArray, List.set_cons_succ, List.set_cons_zero]
          have k1 := sec_cell (HCQ.out.1.below hu.has)
          have k2 := pub_cell (HCQ.out.2.1.below hu.has)
          go_wp2_with (fail)
          exact ⟨rfl, hu, Ext.refl _, slot_eq rfl⟩) ?_
        refine sp_op (Ph.eq _) (fun u hu => by
          refine spArg_nil ?_
          have k1 := sec_cell (HCQ.out.1.below hu.has)
          have k2 := pub_cell (HCQ.out.2.1.below hu.has)
          go_wp2_with (fail)
          exact ⟨rfl, hu, Ext.refl _, slot_eq rfl⟩) ?_
        refine sp_op (Ph.eq _) (fun u hu => by
          refine spArg_eq 0 rfl rfl ?_
          refine spArg_nil ?_
          simp only [Act.put, List.setIfInBounds_toArray, List.set_cons_succ, List.set_cons_zero]
          have k1 := sec_cell (HCQ.out.1.below hu.has)
          have k2 := pub_cell (HCQ.out.2.1.below hu.has)
          go_wp2_with ((go_at_call 31; refine (hproduct_any es B _ _ (HLL.out.ext hu.up) (fun e he => (HEO.out e he).1) (by omega)).mono ?_; rintro e_ x_ ⟨rfl, hb_⟩))
          exact ⟨rfl, HoldT.step hst hu hb_, hb_, slot_eq rfl⟩) ?_
        refine sp_op (Ph.eq _) (fun u hu => by
          refine spArg_nil ?_
          have k1 := sec_cell (HCQ.out.1.below hu.has)
          have k2 := pub_cell (HCQ.out.2.1.below hu.has)
          go_wp2_with (fail)
          exact ⟨rfl, hu, Ext.refl _, slot_eq rfl⟩) ?_
        refine sp_op (Ph.eq _) (fun u hu => by
          refine spArg_eq 0 rfl rfl ?_
          refine spArg_nil ?_
          simp only [Act.put, List.setIfInBounds_toArray, List.set_cons_succ, List.set_cons_zero]
          have k1 := sec_cell (HCQ.out.1.below hu.has)
          have k2 := pub_cell (HCQ.out.2.1.below hu.has)
          go_wp2_with ((go_at_call 31; refine (hproduct_any O 0 _ _ (HE.out.sl.ext hu.has) HOOK.out (by rw [HOL.out]; omega)).mono ?_; rintro e_ x_ ⟨rfl, hb_⟩))
          exact ⟨rfl, HoldT.step hst hu hb_, hb_, slot_eq rfl⟩) ?_
        refine sp_op (Ph.eq _) (fun u hu => by
          refine spArg_nil ?_
          have k1 := sec_cell (HCQ.out.1.below hu.has)
          have k2 := pub_cell (HCQ.out.2.1.below hu.has)
          go_wp2_with (fail)
          exact ⟨rfl, hu, Ext.refl _, slot_eq rfl⟩) ?_
        refine sp_op (Ph.eq _) (fun u hu => by
          refine spArg_eq 0 rfl rfl ?_
          refine spArg_nil ?_
          simp only [Act.put, List.setIfInBounds_toArray, List.set_cons_succ, List.set_cons_zero]
          have k1 := sec_cell (HCQ.out.1.below hu.has)
          have k2 := pub_cell (HCQ.out.2.1.below hu.has)
          go_wp2_with (fail)
          exact ⟨rfl, hu, Ext.refl _, slot_eq rfl⟩) ?_
        refine sp_op (Ph.eq _) (fun u hu => by
          refine spArg_nil ?_
          have k1 := sec_cell (HCQ.out.1.below hu.has)
          have k2 := pub_cell (HCQ.out.2.1.below hu.has)
          go_wp2_with (fail)
          exact ⟨rfl, hu, Ext.refl _, slot_eq rfl⟩) ?_
        refine sp_op (Ph.eq _) (fun u hu => by
          refine spArg_eq 9 rfl rfl ?_
          refine spArg_eq 7 rfl rfl ?_
          refine spArg_eq 5 rfl rfl ?_
          refine spArg_eq 3 rfl rfl ?_
          refine spArg_eq 1 rfl rfl ?_
          refine spArg_eq 0 rfl rfl ?_
          refine spArg_nil ?_
          simp only [Act.put, List.setIfInBounds_toArray, List.set_cons_succ, List.set_cons_zero]
          have k1 := sec_cell (HCQ.out.1.below hu.has)
          have k2 := pub_cell (HCQ.out.2.1.below hu.has)
          go_wp2_with ((go_at_call 30; refine (HEQ.out _).mono ?_; rintro e_ x_ ⟨rfl, hb_⟩))
          exact ⟨rfl, HoldT.step hst hu hb_, hb_, slot_eq rfl⟩) ?_
        refine sp_op (Ph.eq _) (fun u hu => by
          refine spArg_eq 12 rfl rfl ?_
          refine spArg_eq 0 rfl rfl ?_
          refine spArg_nil ?_
          simp only [Act.put, List.setIfInBounds_toArray, List.set_cons_succ, List.set_cons_zero]
          have k1 := sec_cell (HCQ.out.1.below hu.has)
          have k2 := pub_cell (HCQ.out.2.1.below hu.has)
          go_wp2_with (fail)
          exact ⟨rfl, hu, Ext.refl _, slot_eq rfl⟩) ?_
        refine sp_end ?_
        intro u hu
        refine spArg_eq 13 rfl rfl ?_
        refine spArg_eq 12 rfl rfl ?_
        refine spArg_eq 11 rfl rfl ?_
        refine spArg_eq 10 rfl rfl ?_
        refine spArg_eq 9 rfl rfl ?_
        refine spArg_eq 8 rfl rfl ?_
        refine spArg_eq 7 rfl rfl ?_
        refine spArg_eq 6 rfl rfl ?_
        refine spArg_eq 5 rfl rfl ?_
        refine spArg_eq 4 rfl rfl ?_
        refine spArg_eq 3 rfl rfl ?_
        refine spArg_eq 2 rfl rfl ?_
        refine spArg_eq 1 rfl rfl ?_
        refine spArg_eq 0 rfl rfl ?_
        refine spArg_nil ?_
        simp only [Act.put, List.setIfInBounds_toArray, List.set_cons_succ, List.set_cons_zero]
        go_wp2_with (refine wpList_store_row rfl 45 (.tmp 12) _ rfl (w.heap.size + 1 + 1) #[.slice aE O.length cE, .int .u64 eqc, .int .u64 eqs] _ _ rfl rfl (HCQ.out.2.2.below hu.has) rfl info_pas (by intro v hv; simp at hv; rcases hv with rfl | rfl | rfl <;> rfl) ?_; intro x8 hg8 hs8 hR8)
        refine bodyPost_ret (results_row_tmp Tryz.results11 _ _ (w.heap.size + 1 + 1) _ _ _ _ rfl rfl hR8 Tryz.underlying45 rfl info_pas) rfl ?_
        exact ⟨_, .slice none 0 0, by rw [HRR.out, HQQ.out]; rfl, by rw [HRR.out]; exact (HE.out.ext hu.has).grownT hg8 (RowT.blk (HCQ.out.2.2.below hu.has)) (by decide) (by decide) (fun _ _ => Nat.zero_le _), by rw [HFF.out]; exact OwR.nil _ _ _, ext_row hu.up hg8 (by omega)⟩
      · have hpos : (0 : Int) < ((failsN s at_ es es.length).length : Int) := by
          have := List.length_pos_iff.2 hf
          show (0 : Int) < ((failsL s at_ es).length : Int)
          omega
        have hR := HRUN.out
        rw [if_neg hf] at hR
        have HRR := Lib.hid hR; clear hR hf
        go_wp2_with (refine wpList_store_row rfl 45 (.tmp 12) _ rfl (w.heap.size + 1 + 1) PasZ _ _ rfl rfl HCR.out.2.2 rfl info_pas (by intro v hv; simp at hv; rcases hv with rfl | rfl | rfl <;> rfl) ?_; intro x7 hg7 hs7 hR7)
        refine bodyPost_ret (results_row_tmp Tryz.results11 _ _ (w.heap.size + 1 + 1) _ _ _ _ rfl rfl hR7 Tryz.underlying45 rfl info_pas) rfl ?_
        exact ⟨.slice none 0 0, _, by rw [HRR.out]; rfl, by rw [HRR.out]; exact OwR.nil _ _ _, HOI2.out.grownT hg7 (RowT.blk HCR.out.2.2) (by decide) (by decide) (fun _ _ => Nat.zero_le _), ext_row HX.out hg7 (by omega)⟩
end Go.Proofs.YtmbgcjfmfkddpaaGreat
