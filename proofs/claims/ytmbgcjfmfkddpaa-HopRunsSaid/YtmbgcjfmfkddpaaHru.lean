/-
  HopRuns: walked.
-/
import Derived.Test.YtmbgcjfmfkddpaaHal2
import Derived.Test.YtmbgcjfmfkddpaaSint
namespace Go.Proofs.Ytmbgcjfmfkddpaa
set_option linter.unusedVariables false
set_option linter.unusedSimpArgs false
open Go Go.RowKit

/-- The boxes of such a call. -/
def RuC (w : World) (SC PC : Array Value) (u : World) : Prop := Blk u w.heap.size SC 24 ∧ Blk u (w.heap.size + 1) PC 28
theorem RuC.below {w u u' : World} {SC PC : Array Value} (h : RuC w SC PC u) (e : Ext u u') : RuC w SC PC u' := ⟨h.1.below e, h.2.below e⟩
theorem SameInts1_any (p : List Int) (B : Nat) (v1 v2 : Value) (w : World) (hp : SlR intR B w v1 p) (hq : SlR intR B w v2 p) (hl : p.length ≤ 1000000000) :
    Calls Try.prog 10 #[v1, v2] w fun e w' => e = .returned (.bool true) ∧ Below w.heap.size w w' := by
  refine (SameIntsr_any p p B v1 v2 w hp hq hl hl).mono ?_
  rintro e w' ⟨rfl, h⟩
  exact ⟨by rw [decide_eq_true rfl], h⟩
theorem length_failsL (s : Sec) (at_ : Int) (es : List Ent) : (failsL s at_ es).length ≤ es.length := length_failsN s at_ es es.length
set_option maxRecDepth 100000 in
set_option maxHeartbeats 8000000 in
theorem HopRuns_any (s : Sec) (p : Pub) (at_ : Int) (es : List Ent) (order : List Int) (draw : Int) (vl vo : Value) (w : World) (hs : s.ok) (hp : p.ok) (hd : in64 draw) (hl : SlR entR w.heap.size w vl es) (ho : SlR intR w.heap.size w vo order) (heo : ∀ e ∈ es, e.ok) :
    Calls Try.prog 3 #[.agg s.cells.toArray, .agg p.cells.toArray, .int .i64 at_, vl, vo, .int .u64 draw] w fun e w' => e = .returned (.bool true) ∧ Below w.heap.size w w' := by
  obtain ⟨al, cl, rfl, hcl, hcl'⟩ := hl.form
  obtain ⟨ao, co, rfl, hco, hco'⟩ := ho.form
  have HLL := Lib.hid hl; have HOO := Lib.hid ho; have HEO := Lib.hid heo
  have HBE := Lib.hid fun (u : World) (h : Ext w u) => BigEntries_any es w.heap.size _ u (hl.ext h)
  have HIS := Lib.hid (show (Try.prog.info? 24).map (·.size) = some s.cells.toArray.size from info_sec)
  have HIP := Lib.hid (show (Try.prog.info? 28).map (·.size) = some p.cells.toArray.size from info_pub)
  have HC0 := Lib.hid (show RuC w s.cells.toArray p.cells.toArray ((w.alloc (.cells s.cells.toArray 24)).alloc (.cells p.cells.toArray 28)) from ⟨(Blk.new _ _ _).alloc _, Blk.new2 _ _ _ _⟩)
  have hb0 := Lib.hid (show Ext w ((w.alloc (.cells s.cells.toArray 24)).alloc (.cells p.cells.toArray 28)) from (Ext.alloc _ _).tr (Ext.alloc _ _))
  have HRU := Lib.hid fun (u : World) (v : Value) (h : Ext w u) (hb : (∀ x ∈ es, x.box.length ≤ 300) ∧ es.length ≤ 30) (hno : order.length ≤ 40) (hv : SlR intR w.heap.size u v order) => HRun_any s p at_ es order draw w.heap.size _ v u hs hp hd (hl.ext h) hv (fun e he => ⟨heo e he, Nat.le_trans (hb.1 e he) (by decide)⟩) (by omega) (by omega)
  have HHO := Lib.hid fun (u : World) (h : Ext w u) (hb : (∀ x ∈ es, x.box.length ≤ 300) ∧ es.length ≤ 30) (hno : order.length ≤ 40) => Hopr_any s p at_ es order draw w.heap.size _ _ u hs hp hd (hl.ext h) (ho.ext h) (fun e he => ⟨heo e he, Nat.le_trans (hb.1 e he) (by decide)⟩) (by omega) (by omega)
  have HOA := Lib.hid fun (e : Ent) (he : e ∈ es) (hb : (∀ x ∈ es, x.box.length ≤ 300) ∧ es.length ≤ 30) (u : World) (v : Value) (h : SeesB u v e.box) => (show Calls Try.prog 11 #[.agg s.cells.toArray, .int .i64 at_, .agg #[.int .u64 e.x, v]] u _ from HOpen_any s.blind s.mix s.inner at_ e.x e.box v u hs.1 hs.2.1 (heo e he) h (Nat.le_trans (hb.1 e he) (by decide)))
  have HOB := Lib.hid fun (e : Ent) (he : e ∈ es) (hb : (∀ x ∈ es, x.box.length ≤ 300) ∧ es.length ≤ 30) (u : World) (v : Value) (h : SeesB u v e.box) => (show Calls Try.prog 12 #[.agg s.cells.toArray, .int .i64 at_, .agg #[.int .u64 e.x, v]] u _ from OpenHop_any s.blind s.mix s.inner at_ e.x e.box v u hs.1 hs.2.1 (heo e he) h (Nat.le_trans (hb.1 e he) (by decide)))
  have HFL := Lib.hid (length_failsL s at_ es)
  have HRL := Lib.hid (show (runL s p at_ es order draw).es.length ≤ es.length from by
    unfold runL; split
    · show (orderL _ _).length ≤ _
      rw [length_orderL, length_opened]; exact Nat.le_refl _
    · exact Nat.zero_le _)
  unfold RetH at HRU HHO
  unfold RetOE at HOA HOB
  clear hl ho heo hs hp hd
  generalize runL s p at_ es order draw = RUN at *
  generalize failsL s at_ es = FL at *
  by_cases hno : (40 : Int) < (order.length : Int)
  · go_enter Try.func3, Try.ntmps3
    go_wp2_with (first
      | (go_at_call 5; refine (alive19_any _).mono ?_; rintro e w1 ⟨rfl, hb1⟩; have e1 : Ext w w1 := Ext.tr hb0.out hb1)
      | (go_at_call 6; refine (HBE.out _ e1).mono ?_; rintro e w2 ⟨⟨d, rfl, -⟩, hb2⟩; have e2 : Ext w w2 := Ext.tr e1 hb2; rcases d with _ | _))
    all_goals (go_ret; exact ⟨rfl, e2⟩)
  · have hno2 : order.length ≤ 40 := by omega
    go_enter Try.func3, Try.ntmps3
    go_wp2_with (first
      | (go_at_call 5; refine (alive19_any _).mono ?_; rintro e w1 ⟨rfl, hb1⟩; have e1 : Ext w w1 := Ext.tr hb0.out hb1; have HC1 := Lib.hid (HC0.out.below hb1))
      | (go_at_call 6; refine (HBE.out _ e1).mono ?_; rintro e w2 ⟨⟨d, rfl, hbg⟩, hb2⟩; have e2 : Ext w w2 := Ext.tr e1 hb2; have HC2 := Lib.hid (HC1.out.below hb2); rcases d with _ | _))
    rotate_left
    · go_ret
      exact ⟨rfl, e2⟩
    have HBG := Lib.hid (hbg (by trivial))
    have hes30 := HBG.out.2
    clear hbg
    have hst := stabE w2
    have hk5 : HoldT (fun u => Ext w2 u) w w2.drew := HoldT.drew hst ⟨Ext.refl _, e2⟩
    try change Code.wp _ _ _ (Act.mk _ _) _
    haveI hne_ : Nonempty (InC (fun u => Ext w2 u)) := ⟨⟨_, (hk5).1⟩⟩
    refine wp_region_tr (C := fun w_ => ∃ e_ : InC (fun u => Ext w2 u), w_ = e_.u) (.step [0, 1, 2, 3, 4, 6] (.alt 5 (.step [] (.alt 7 (.step [8, 9, 10] (.alt 11 (.step [] (.alt 12 (.fin [13]) .nil)) .nil)) (.alt 11 (.step [] (.alt 7 (.step [8, 9, 10] (.alt 12 (.fin [13]) .nil)) .nil)) .nil))) (.alt 11 (.step [] (.alt 5 (.step [] (.alt 7 (.step [8, 9, 10] (.alt 12 (.fin [13]) .nil)) .nil)) .nil)) .nil))) (by kernel_rfl) (by kernel_rfl) (fun _ _ _ _ hd_ h_ => ⟨hd_.symm.trans h_.1, h_.2⟩) ⟨⟨World.drew _, (hk5).1⟩, rfl⟩ ?_
    have hk_ := hk5
    repeat' (first
      | ((with_reducible refine wpTr_fin ?_)
         simp only [pickOps, List.flatMap_cons, List.flatMap_nil, List.drop_succ_cons, List.drop_zero, List.take_succ_cons, List.take_zero, List.cons_append, List.nil_append, List.append_nil]
         repeat (first | (first | (refine wpQuiet_load_row rfl 24 (.tmp 6) rfl w.heap.size rfl _ s.cells.toArray (0, 0) _ (fun w_ hw_ => by obtain ⟨e_, rfl⟩ := hw_; exact (HC2.out.below e_.has).1) Try.underlying24 rfl HIS.out ?_; simp only [Act.put, List.setIfInBounds_toArray, List.set_cons_succ, List.set_cons_zero]) | (refine wpQuiet_load_row rfl 28 (.tmp 7) rfl (w.heap.size + 1) rfl _ p.cells.toArray (0, 0) _ (fun w_ hw_ => by obtain ⟨e_, rfl⟩ := hw_; exact (HC2.out.below e_.has).2) Try.underlying28 rfl HIP.out ?_; simp only [Act.put, List.setIfInBounds_toArray, List.set_cons_succ, List.set_cons_zero])) | go_big_quiet_step (exact rfl))
         refine wpQuiet_nil ?_)
      | ((with_reducible refine wpTr_step ?_); simp only [pickOps, List.flatMap_cons, List.flatMap_nil, List.drop_succ_cons, List.drop_zero, List.take_succ_cons, List.take_zero, List.cons_append, List.nil_append, List.append_nil]; repeat (first | (first | (refine wpQuiet_load_row rfl 24 (.tmp 6) rfl w.heap.size rfl _ s.cells.toArray (0, 0) _ (fun w_ hw_ => by obtain ⟨e_, rfl⟩ := hw_; exact (HC2.out.below e_.has).1) Try.underlying24 rfl HIS.out ?_; simp only [Act.put, List.setIfInBounds_toArray, List.set_cons_succ, List.set_cons_zero]) | (refine wpQuiet_load_row rfl 28 (.tmp 7) rfl (w.heap.size + 1) rfl _ p.cells.toArray (0, 0) _ (fun w_ hw_ => by obtain ⟨e_, rfl⟩ := hw_; exact (HC2.out.below e_.has).2) Try.underlying28 rfl HIP.out ?_; simp only [Act.put, List.setIfInBounds_toArray, List.set_cons_succ, List.set_cons_zero])) | go_big_quiet_step (exact rfl))
         refine wpQuiet_nil ?_)
      | (with_reducible refine wpTr_one ?_)
      | (with_reducible refine wpTr_alt ?_ ?_)
      | (simp only [pickOps, List.flatMap_cons, List.flatMap_nil, List.drop_succ_cons, List.drop_zero, List.take_succ_cons, List.take_zero, List.cons_append, List.nil_append, List.append_nil]
         go_wp2_with (first
      | (at_builtin; refine appI (W := _) (B := w.heap.size) rfl _ _ rfl (Below.size hk_.up) (.slice none 0 0) [] rfl (OwR.nil _ _ _) _ order rfl (HOO.out.ext hk_.up) (by simp only [List.length_nil]; omega) (Ext.refl _) ?_; intro v4 w4 hown4 hg4 hb4; rw [List.nil_append] at hown4; have hk4 := HoldT.step hst hk_ hb4; have e4' : Ext _ w4 := hb4; obtain ⟨a4, c4, rfl, -, -⟩ := hown4.form)
      | (go_at_call 7; refine (HRU.out _ _ hk_.up HBG.out hno2 hown4.sl.ext).mono ?_; rintro r_ x5 ⟨vE, vB, rfl, hE5, hB5, e5⟩; obtain ⟨aE, cE, rfl, -, -⟩ := hE5.form; obtain ⟨aB, cB, rfl, -, -⟩ := hB5.form; have hk5 := HoldT.step hst hk_ e5; have e5' : Ext _ x5 := e5)
      | (refine wpList_allocB rfl _ rfl PasZ run_allocPas2 ?_; intro x6 g hG hg6 e6; have hg0 := Nat.le_trans (Below.size hk_.has) hg6; have hk6 := HoldT.step hst hk_ e6; have e6' : Ext _ x6 := e6)
      | (refine wpList_store_row rfl 34 (.tmp 15) _ rfl g #[.slice aE RUN.es.length cE, .int .u64 RUN.p.c, .int .u64 RUN.p.s] _ _ rfl rfl (exBl hG) rfl info_pas (one_pas2 _ _ _ _ _) ?_; intro x7 hg7 hs7 hR7
         have hwg : w.heap.size ≤ g := Nat.le_trans (Below.size e2) hg0
         have hbel7 : Ext w2 x7 := ext_row hk_.has hg7 hg0
         have hk7 : HoldT (fun u => Ext w2 u) w x7 := ⟨hbel7, ext_row hk_.up hg7 hwg⟩
         have hE7 := (hE5.ext (w := x5)).grownT hg7 (RowT.blk (exBl hG)) (by decide) (by decide) (fun _ _ => Nat.zero_le _)
         have hB7 := (hB5.ext (w := x5)).grownT hg7 (RowT.blk (exBl hG)) (by decide) (by decide) (fun _ _ => Nat.zero_le _)
         clear hs7))
         refine phPost_hold (by first | with_reducible assumption | exact HoldT.alloc hstab (by with_reducible assumption) _ | exact HoldT.alloc hstab (HoldT.alloc hstab (by with_reducible assumption) _) _) ?_
         intro hk_))
    all_goals (
      have hup7 : Ext w x7 := hk_.up
      have hsec7 := (HC2.out.below hbel7).1
      have hpub7 := (HC2.out.below hbel7).2
      have HE7 := Lib.hid hE7.sl; have HB7 := Lib.hid hB7.sl
      clear hE7 hB7 hE5 hB5
      go_wp2_with (first
        | (refine wpList_load_row rfl 24 (.tmp 6) rfl w.heap.size rfl _ _ (0, 0) _ hsec7 Try.underlying24 rfl HIS.out ?_)
        | (refine wpList_load_row rfl 28 (.tmp 7) rfl (w.heap.size + 1) rfl _ _ (0, 0) _ hpub7 Try.underlying28 rfl HIP.out ?_)
        | (go_at_call 8; refine (HHO.out _ hup7 HBG.out hno2).mono ?_; rintro r_ x8 ⟨vE8, vB8, rfl, hE8, hB8, hb8⟩; obtain ⟨aE8, cE8, rfl, -, -⟩ := hE8.form; obtain ⟨aB8, cB8, rfl, -, -⟩ := hB8.form; have e8 : Ext x7 x8 := hb8)
        | (refine wpList_allocB rfl _ rfl PasZ run_allocPas2 ?_; intro x9 g9 hh9 hg9b e9)
        | (refine wpList_store_row rfl 34 (.tmp 17) _ rfl g9 #[.slice aE8 RUN.es.length cE8, .int .u64 RUN.p.c, .int .u64 RUN.p.s] _ _ rfl rfl hh9 rfl info_pas (one_pas2 _ _ _ _ _) ?_; intro x10 hg10 hs10 hR10
           have e810 : Ext x8 x10 := ext_rowK e9 hg10 hg9b
           have e710 : Ext x7 x10 := Ext.tr e8 e810
           have hR7b := hR7.below e710
           have HE10 := Lib.hid (hE8.sl.ext e810); have HB10 := Lib.hid (hB8.sl.ext e810)
           clear hs10 hh9 hE8 hB8)
        | (refine wpList_load_row rfl 34 (.tmp 15) rfl g rfl _ _ (0, 0) _ hR7b Try.underlying34 rfl info_pas ?_)
        | (refine wpList_load_row rfl 34 (.tmp 17) rfl g9 rfl _ _ (0, 0) _ hR10 Try.underlying34 rfl info_pas ?_)
        | (go_at_call 9; refine (same19_any RUN.es RUN.p.c RUN.p.s w.heap.size _ _ _ ((HE7.out.ext e710).mono (Nat.zero_le _)) (HE10.out.mono (Nat.zero_le _)) (by have := HRL.out; omega)).mono ?_; rintro r_ x11 ⟨rfl, hb11⟩; have e11 : Ext x10 x11 := hb11)
        | (go_at_call 10; refine (SameInts1_any FL w.heap.size _ _ _ ((HB7.out.ext (Ext.tr e710 e11)).mono (Nat.zero_le _)) ((HB10.out.ext e11).mono (Nat.zero_le _)) (by have := HFL.out; omega)).mono ?_; rintro r_ x12 ⟨rfl, hb12⟩; have e12 : Ext x7 x12 := Ext.tr (Ext.tr e710 e11) hb12))
      have hC12 := Lib.hid ((HC2.out.below hbel7).below e12)
      have hX12 := Lib.hid (Ext.tr hup7 e12)
      go_loopw [19, 20, 21, 22, 23] (fun iv _ _ _ _ wr => ∃ n : Nat, iv = .int .i64 n ∧ n ≤ es.length ∧ Ext w wr ∧ Ext x12 wr) (fun iv _ _ _ _ _ => es.length - (intOf iv).toNat)
      case atStart => exact ⟨0, rfl, Nat.zero_le _, hX12.out, Ext.refl _⟩
      case round =>
        obtain ⟨n, rfl, hnl, hX, hX2⟩ := hrel
        have HX := Lib.hid hX; have HX2 := Lib.hid hX2
        clear hX hX2
        by_cases hlt : n < es.length
        · obtain ⟨b, o, c', e0, -, -⟩ := HLL.out.open (by omega)
          obtain ⟨rfl, rfl⟩ : al = some ⟨b, o, none⟩ ∧ cl = c' := by injection e0 with e1 _ e3; exact ⟨e1, e3⟩
          clear e0
          obtain ⟨e, he⟩ : ∃ e, es[n]? = some e := ⟨_, List.getElem?_eq_getElem hlt⟩
          obtain ⟨ve, hrg, hve⟩ := slE_at HLL.out n e he
          obtain ⟨ae, ce, rfl, -, -⟩ := sees_form hve
          have HVE := Lib.hid hve
          have HPA := Lib.hid fun (u : World) (h : Ext w u) => HOA.out e (List.mem_of_getElem? he) HBG.out u _ (hve.below h (by decide))
          have HPB := Lib.hid fun (u : World) (h : Ext w u) => HOB.out e (List.mem_of_getElem? he) HBG.out u _ (hve.below h (by decide))
          have HRG := Lib.hid hrg
          clear hrg hve he
          generalize openE s.blind s.mix at_ e.x e.box = op at *
          generalize (op.getD (0, [])).1 = X at *
          generalize (op.getD (0, [])).2 = BX at *
          generalize op.isSome = K at *
          have hdn : decide (es.length ≤ n) = false := decide_eq_false (by omega)
          go_wp2_with fail
          generalize wr = wa at *
          have hstR := stabE wa
          have hk12 : HoldT (fun u => Ext wa u) w wa.drew := HoldT.drew hstR ⟨Ext.refl _, HX.out⟩
          have hq3 : ∀ e_ : InC (fun u => Ext wa u), e_.u.cell? ⟨b, o + n * 2, none⟩ = some (.int .u64 e.x) := fun e_ => by have := range_below HRG.out (Ext.tr HX.out e_.has) 0 _ rfl; rwa [Nat.add_zero] at this
          have hq4 : ∀ e_ : InC (fun u => Ext wa u), e_.u.cell? ⟨b, o + n * 2 + 1, none⟩ = some (.slice ae e.box.length ce) := fun e_ => range_below HRG.out (Ext.tr HX.out e_.has) 1 _ rfl
          try change Code.wp _ _ _ (Act.mk _ _) _
          haveI hne_ : Nonempty (InC (fun u => Ext wa u)) := ⟨⟨_, (hk12).1⟩⟩
          refine wp_region_tr (C := fun w_ => ∃ e_ : InC (fun u => Ext wa u), w_ = e_.u) (.step [0, 1, 2, 3, 4, 5] (.alt 6 (.step [7, 8, 9] (.alt 10 (.step [] (.alt 11 (.fin [12]) .nil)) .nil)) (.alt 10 (.step [] (.alt 6 (.step [7, 8, 9] (.alt 11 (.fin [12]) .nil)) .nil)) .nil))) (by kernel_rfl) (by kernel_rfl) (fun _ _ _ _ hd_ h_ => ⟨hd_.symm.trans h_.1, h_.2⟩) ⟨⟨World.drew _, (hk12).1⟩, rfl⟩ ?_
          have hk_ := hk12
          repeat' (first
            | ((with_reducible refine wpTr_fin ?_)
               simp only [pickOps, List.flatMap_cons, List.flatMap_nil, List.drop_succ_cons, List.drop_zero, List.take_succ_cons, List.take_zero, List.cons_append, List.nil_append, List.append_nil]
               repeat (first | ((refine wpQuiet_load_row rfl 24 (.tmp 6) rfl w.heap.size rfl _ s.cells.toArray (0, 0) _ (fun w_ hw_ => by obtain ⟨e_, rfl⟩ := hw_; exact (hC12.out.below (Ext.tr HX2.out e_.has)).1) Try.underlying24 rfl HIS.out ?_; simp only [Act.put, List.setIfInBounds_toArray, List.set_cons_succ, List.set_cons_zero])) | go_big_quiet_step (exact rfl))
               refine wpQuiet_nil ?_)
            | ((with_reducible refine wpTr_step ?_); simp only [pickOps, List.flatMap_cons, List.flatMap_nil, List.drop_succ_cons, List.drop_zero, List.take_succ_cons, List.take_zero, List.cons_append, List.nil_append, List.append_nil]; repeat (first | ((refine wpQuiet_load_row rfl 24 (.tmp 6) rfl w.heap.size rfl _ s.cells.toArray (0, 0) _ (fun w_ hw_ => by obtain ⟨e_, rfl⟩ := hw_; exact (hC12.out.below (Ext.tr HX2.out e_.has)).1) Try.underlying24 rfl HIS.out ?_; simp only [Act.put, List.setIfInBounds_toArray, List.set_cons_succ, List.set_cons_zero])) | go_big_quiet_step (exact rfl))
               refine wpQuiet_nil ?_)
            | (with_reducible refine wpTr_one ?_)
            | (with_reducible refine wpTr_alt ?_ ?_)
            | (simp only [pickOps, List.flatMap_cons, List.flatMap_nil, List.drop_succ_cons, List.drop_zero, List.take_succ_cons, List.take_zero, List.cons_append, List.nil_append, List.append_nil]
               go_wp2_with (first
            | (go_at_call 11; refine (HPA.out _ (Ext.tr HX.out hk_.has)).mono ?_; rintro r_ y5 ⟨v5, rfl, how5, e5⟩; obtain ⟨a5, c5, rfl, -, -⟩ := owns_form how5; have hk5 := HoldT.step hstR hk_ e5; have e5' : Ext _ y5 := e5)
            | (refine wpList_allocB rfl _ rfl _ run_allocEnt ?_; intro y6 ga hGa hga6 e6; have hga0 := Nat.le_trans (Below.size hk_.has) hga6; have hk6 := HoldT.step hstR hk_ e6; have e6' : Ext _ y6 := e6)
            | (refine wpList_store_row rfl 41 (.tmp 20) _ rfl ga #[.int .u64 X, .slice a5 BX.length c5] _ _ rfl rfl (exBl hGa) rfl info_entry (one_ent _ _ _ _) ?_; intro y7 hga7 hsa7 hRa7
               have hbelA : Ext wa y7 := ext_row hk_.has hga7 hga0
               have hwga : w.heap.size ≤ ga := Nat.le_trans (Below.size HX.out) hga0
               have hkA : HoldT (fun u => Ext wa u) w y7 := ⟨hbelA, ext_row hk_.up hga7 hwga⟩
               have hBA := own_grown (exO how5) hga7 (RowT.blk (exBl hGa)) (by decide)
               clear hsa7))
               refine phPost_hold (by first | with_reducible assumption | exact HoldT.alloc hstab (by with_reducible assumption) _ | exact HoldT.alloc hstab (HoldT.alloc hstab (by with_reducible assumption) _) _) ?_
               intro hk_))
          all_goals (
            have hupA : Ext w y7 := hk_.up
            have HBA := Lib.hid (sees_of_owns hBA)
            clear hBA how5
            go_wp2_with fail
            clear hq3 hq4
            have hstS := stabE y7
            have hk13 : HoldT (fun u => Ext y7 u) w y7.drew := HoldT.drew hstS ⟨Ext.refl _, hupA⟩
            have hq5 : ∀ e_ : InC (fun u => Ext y7 u), e_.u.cell? ⟨b, o + n * 2, none⟩ = some (.int .u64 e.x) := fun e_ => by have := range_below HRG.out (Ext.tr hupA e_.has) 0 _ rfl; rwa [Nat.add_zero] at this
            have hq6 : ∀ e_ : InC (fun u => Ext y7 u), e_.u.cell? ⟨b, o + n * 2 + 1, none⟩ = some (.slice ae e.box.length ce) := fun e_ => range_below HRG.out (Ext.tr hupA e_.has) 1 _ rfl
            try change Code.wp _ _ _ (Act.mk _ _) _
            haveI hne_ : Nonempty (InC (fun u => Ext y7 u)) := ⟨⟨_, (hk13).1⟩⟩
            refine wp_region_tr (C := fun w_ => ∃ e_ : InC (fun u => Ext y7 u), w_ = e_.u) (.step [0, 1, 2, 3, 4, 5] (.alt 6 (.step [7, 8, 9] (.alt 10 (.step [] (.alt 11 (.fin [12]) .nil)) .nil)) (.alt 10 (.step [] (.alt 6 (.step [7, 8, 9] (.alt 11 (.fin [12]) .nil)) .nil)) .nil))) (by kernel_rfl) (by kernel_rfl) (fun _ _ _ _ hd_ h_ => ⟨hd_.symm.trans h_.1, h_.2⟩) ⟨⟨World.drew _, (hk13).1⟩, rfl⟩ ?_
            have hk_ := hk13
            repeat' (first
              | ((with_reducible refine wpTr_fin ?_)
                 simp only [pickOps, List.flatMap_cons, List.flatMap_nil, List.drop_succ_cons, List.drop_zero, List.take_succ_cons, List.take_zero, List.cons_append, List.nil_append, List.append_nil]
                 repeat (first | ((refine wpQuiet_load_row rfl 24 (.tmp 6) rfl w.heap.size rfl _ s.cells.toArray (0, 0) _ (fun w_ hw_ => by obtain ⟨e_, rfl⟩ := hw_; exact (hC12.out.below (Ext.tr HX2.out (Ext.tr hbelA e_.has))).1) Try.underlying24 rfl HIS.out ?_; simp only [Act.put, List.setIfInBounds_toArray, List.set_cons_succ, List.set_cons_zero])) | go_big_quiet_step (exact rfl))
                 refine wpQuiet_nil ?_)
              | ((with_reducible refine wpTr_step ?_); simp only [pickOps, List.flatMap_cons, List.flatMap_nil, List.drop_succ_cons, List.drop_zero, List.take_succ_cons, List.take_zero, List.cons_append, List.nil_append, List.append_nil]; repeat (first | ((refine wpQuiet_load_row rfl 24 (.tmp 6) rfl w.heap.size rfl _ s.cells.toArray (0, 0) _ (fun w_ hw_ => by obtain ⟨e_, rfl⟩ := hw_; exact (hC12.out.below (Ext.tr HX2.out (Ext.tr hbelA e_.has))).1) Try.underlying24 rfl HIS.out ?_; simp only [Act.put, List.setIfInBounds_toArray, List.set_cons_succ, List.set_cons_zero])) | go_big_quiet_step (exact rfl))
                 refine wpQuiet_nil ?_)
              | (with_reducible refine wpTr_one ?_)
              | (with_reducible refine wpTr_alt ?_ ?_)
              | (simp only [pickOps, List.flatMap_cons, List.flatMap_nil, List.drop_succ_cons, List.drop_zero, List.take_succ_cons, List.take_zero, List.cons_append, List.nil_append, List.append_nil]
                 go_wp2_with (first
              | (go_at_call 12; refine (HPB.out _ (Ext.tr hupA hk_.has)).mono ?_; rintro r_ z5 ⟨u5, rfl, howz, f5⟩; obtain ⟨az, cz, rfl, -, -⟩ := owns_form howz; have hkz5 := HoldT.step hstS hk_ f5; have f5' : Ext _ z5 := f5)
              | (refine wpList_allocB rfl _ rfl _ run_allocEnt ?_; intro z6 gz hGz hgz6 f6; have hgz0 := Nat.le_trans (Below.size hk_.has) hgz6; have hkz6 := HoldT.step hstS hk_ f6; have f6' : Ext _ z6 := f6)
              | (refine wpList_store_row rfl 41 (.tmp 22) _ rfl gz #[.int .u64 X, .slice az BX.length cz] _ _ rfl rfl (exBl hGz) rfl info_entry (one_ent _ _ _ _) ?_; intro z7 hgz7 hsz7 hRz7
                 have hbelZ : Ext y7 z7 := ext_row hk_.has hgz7 hgz0
                 have hwgz : w.heap.size ≤ gz := Nat.le_trans (Below.size hupA) hgz0
                 have hkZ : HoldT (fun u => Ext y7 u) w z7 := ⟨hbelZ, ext_row hk_.up hgz7 hwgz⟩
                 have hBZ := own_grown (exO howz) hgz7 (RowT.blk (exBl hGz)) (by decide)
                 clear hsz7))
                 refine phPost_hold (by first | with_reducible assumption | exact HoldT.alloc hstab (by with_reducible assumption) _ | exact HoldT.alloc hstab (HoldT.alloc hstab (by with_reducible assumption) _) _) ?_
                 intro hk_))
            all_goals (
              clear hq5 hq6
              have hRa8 := hRa7.below hbelZ
              have HBZ := Lib.hid (sees_of_owns hBZ)
              have hupZ : Ext w z7 := hk_.up
              clear hBZ howz
              go_wp2_with (first
                | (refine wpList_load_row rfl 41 (.tmp 20) rfl ga rfl _ _ (0, 0) _ hRa8 Try.underlying41 rfl info_entry ?_)
                | (refine wpList_load_row rfl 41 (.tmp 22) rfl gz rfl _ _ (0, 0) _ hRz7 Try.underlying41 rfl info_entry ?_)
                | (go_at_call 13; refine (SameEnt_any ⟨X, BX⟩ _ _ _ (HBA.out.below hbelZ (by decide)) HBZ.out).mono ?_; rintro r_ z9 ⟨rfl, hz9⟩; have ez9 : Ext z7 z9 := hz9))
              go_roundw
              case rel => exact ⟨n + 1, rfl, by omega, Ext.tr hupZ ez9, Ext.tr (Ext.tr (Ext.tr HX2.out hbelA) hbelZ) ez9⟩
              case measure => (simp [intOf] <;> omega)))
        · obtain rfl : n = es.length := by omega
          go_wp2_with fail
          go_ret
          exact ⟨rfl, HX.out⟩)
end Go.Proofs.Ytmbgcjfmfkddpaa
