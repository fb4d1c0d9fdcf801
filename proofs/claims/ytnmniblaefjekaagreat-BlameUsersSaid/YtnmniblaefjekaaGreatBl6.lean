/-
  Who is to blame: both programs.
-/
import Derived.Test.YtnmniblaefjekaaGreatBl5
namespace Go.Proofs.YtnmniblaefjekaaGreat
set_option linter.unusedVariables false
set_option linter.unusedSimpArgs false
open Go Go.RowKit

def stpR : Rp Stp where
  ty := 57
  sz := 8
  T := [5]
  rel := fun B w cs t => ∃ v, cs = (stpC t v).toList ∧ SlR byteR B w v t.e.box
  pos := by decide
  len := fun ⟨v, h, _⟩ => by rw [h]; rfl
  one := fun ⟨v, h, hv⟩ u hu => by
    obtain ⟨a, c, rfl, _⟩ := hv.form
    rw [h] at hu; simp [stpC] at hu; rcases hu with rfl | rfl | rfl | rfl | rfl | rfl | rfl | rfl <;> rfl
  keep := fun ⟨v, h, hv⟩ s => ⟨v, h, hv.keep s⟩
  mono := fun ⟨v, h, hv⟩ hB => ⟨v, h, hv.mono hB⟩
def entsR : Rp (List Ent) := entR.sl 55
theorem slT_at {B : Nat} {w : World} {b o m c : Nat} {l : List Stp} (h : SlR stpR B w (.slice (some ⟨b, o, none⟩) m c) l) (i : Nat) (t : Stp) (hi : l[i]? = some t) :
    ∃ v, w.rangeAt b (o + i * 8) (stpC t v).toList ∧ SeesB w v t.e.box := by
  obtain ⟨ch, ⟨v, rfl, hv⟩, _, hr⟩ := h.at i t hi
  exact ⟨v, hr, hv.bytes⟩
theorem slP_at {B : Nat} {w : World} {b o m c : Nat} {l : List Pub} (h : SlR pubR B w (.slice (some ⟨b, o, none⟩) m c) l) (i : Nat) (p : Pub) (hi : l[i]? = some p) : w.rangeAt b (o + i * 10) p.cells := by
  obtain ⟨ch, h1, _, hr⟩ := h.at i p hi
  have : ch = p.cells := h1
  rw [this] at hr; exact hr
theorem slL_at {B : Nat} {w : World} {b o m c : Nat} {l : List (List Ent)} (h : SlR entsR B w (.slice (some ⟨b, o, none⟩) m c) l) (i : Nat) (es : List Ent) (hi : l[i]? = some es) : ∃ v, w.cell? ⟨b, o + i, none⟩ = some v ∧ SlR entR B w v es := by
  obtain ⟨ch, ⟨v, rfl, hv⟩, _, hr⟩ := h.at i es hi
  exact ⟨v, by have := hr 0 v rfl; rwa [show entsR.sz = 1 from rfl, Nat.mul_one, Nat.add_zero] at this, hv⟩
theorem info_verd : (Tryz.prog.info? 65).map (·.size) = some 2 := by kernel_rfl
abbrev VerC (a b : Int) : Array Value := #[.int .i64 a, .int .i64 b]
/-- What is known of such a call's own memory. -/
def TrC (w : World) (EC : Array Value) (u : World) : Prop := Blk u w.heap.size (VerC 0 0) 65 ∧ Blk u (w.heap.size + 1) EC 32
theorem stabTrC (w : World) (EC : Array Value) : Stab (TrC w EC) := Stab.and (Stab.blk _ _ _) (Stab.blk _ _ _)
def TraceRel (w : World) (l : List Pub) (lists : List (List Ent)) (steps : List Stp) (h : Nat) (r : Int × Int) (at_ i : Value) (wr : World) : Prop :=
  ∃ (n : Nat) (e : Ent) (ve : Value) (a : Int), n ≤ h ∧ i = .int .i64 ((n : Int) - 1) ∧ at_ = .int .i64 a ∧ inI a ∧ e.ok ∧ SeesB wr ve e.box ∧ e.box.length ≤ 20000000000000 ∧ TrC w #[.int .u64 e.x, ve] wr ∧ Ext w wr ∧ traceN l lists steps h n e a = r

set_option maxRecDepth 100000 in
set_option maxHeartbeats 8000000 in
theorem Trace_any (l : List Pub) (lists : List (List Ent)) (at_ : Int) (steps : List Stp) (B : Nat) (vl vls vs : Value) (w : World) (hl : SlR pubR B w vl l) (hls : SlR entsR B w vls lists) (hs : SlR stpR B w vs steps)
    (hlo : ∀ p ∈ l, p.ok) (hso : ∀ t ∈ steps, t.ok ∧ t.e.box.length ≤ 20000000000000) (hlso : ∀ es ∈ lists, es.length ≤ 1000000000 ∧ ∀ e ∈ es, e.ok ∧ e.box.length ≤ 20000000000000) (hat : inI at_) (hl1 : l.length ≤ 1000000000) (hl2 : lists.length ≤ 1000000000) (hl3 : steps.length ≤ 1000000000) :
    Calls Tryz.prog 25 #[vl, vls, .int .i64 at_, vs] w fun r w' => r = .returned (.agg (VerC (traceL l lists at_ steps).1 (traceL l lists at_ steps).2)) ∧ Below w.heap.size w w' := by
  obtain ⟨al, cl, rfl, hcl, hcl'⟩ := hl.form
  obtain ⟨als, cls, rfl, hcls, hcls'⟩ := hls.form
  obtain ⟨as_, cs, rfl, hcs, hcs'⟩ := hs.form
  obtain ⟨at0, at1⟩ := hat
  have hR0 := Lib.hid (Blk.new w (VerC 0 0) 65)
  have hb0 := Lib.hid (show Below w.heap.size w (w.alloc (.cells (VerC 0 0) 65)) by go_grown)
  by_cases h0 : lists.length = 0
  · have HF := Lib.hid (show traceL l lists at_ steps = (0, 0) by unfold traceL; rw [List.eq_nil_of_length_eq_zero h0]; rfl)
    generalize traceL l lists at_ steps = D at *
    rw [h0]
    clear hlo hso hlso
    go_enter Tryz.func25, Tryz.ntmps25
    go_wp2_with (refine wpList_store_row rfl 65 (.tmp 8) _ rfl w.heap.size (VerC 0 0) _ _ rfl rfl hR0.out rfl info_verd (by intro v hv; simp at hv; rcases hv with rfl | rfl <;> rfl) ?_; intro x7 hg7 hs7 hR7)
    refine bodyPost_ret (results_cell_row Tryz.results25 _ _ w.heap.size _ _ (0, 0) _ rfl hR7 Tryz.underlying65 rfl info_verd) rfl ⟨by rw [HF.out], hb0.out.grown hg7 hb0.out.size (fun k hk => by cases hk; exact Nat.le_refl _)⟩
  · obtain ⟨H, hH⟩ : ∃ H, lists.length = H + 1 := ⟨lists.length - 1, by omega⟩
    by_cases hlen : lists.length ≤ l.length
    · obtain ⟨last, hlast⟩ : ∃ x, lists[H]? = some x := ⟨_, List.getElem?_eq_getElem (by omega)⟩
      obtain ⟨ph, hph⟩ : ∃ x, l[H]? = some x := ⟨_, List.getElem?_eq_getElem (by omega)⟩
      obtain ⟨bL, oL, cL, e1, -, -⟩ := hls.open (by omega)
      obtain ⟨rfl, rfl⟩ : als = some ⟨bL, oL, none⟩ ∧ cls = cL := by injection e1 with e1 _ e3; exact ⟨e1, e3⟩
      obtain ⟨bP, oP, cP, e2, -, -⟩ := hl.open (by omega)
      obtain ⟨rfl, rfl⟩ : al = some ⟨bP, oP, none⟩ ∧ cl = cP := by injection e2 with e1 _ e3; exact ⟨e1, e3⟩
      obtain ⟨va, hva, hsa⟩ := slL_at hls H last hlast
      obtain ⟨aa, ca, rfl, hac, hac'⟩ := hsa.form
      clear e1 e2
      have hT : traceL l lists at_ steps = if 0 ≤ at_ ∧ at_ < last.length then (match last[at_.toNat]?, steps[0]? with
          | some e, some t => if failedL ph (H : Int) e t then traceN l lists steps H H e at_ else (2, (H : Int))
          | _, _ => (2, (H : Int))) else (0, 0) := by
        unfold traceL
        rw [List.getLast?_eq_getElem?, hH, Nat.add_sub_cancel, hlast, hph]
        rfl
      by_cases hr : 0 ≤ at_ ∧ at_ < last.length
      · rw [if_pos hr] at hT
        obtain ⟨A, rfl⟩ : ∃ A : Nat, at_ = A := ⟨at_.toNat, by omega⟩
        have hAl : A < last.length := by omega
        obtain ⟨e0, he0⟩ : ∃ x, last[A]? = some x := ⟨_, List.getElem?_eq_getElem hAl⟩
        rw [Int.toNat_natCast, he0] at hT
        obtain ⟨bA, oA, cA, e1, -, -⟩ := hsa.open (by omega)
        obtain ⟨rfl, rfl⟩ : aa = some ⟨bA, oA, none⟩ ∧ ca = cA := by injection e1 with e1 _ e3; exact ⟨e1, e3⟩
        clear e1
        obtain ⟨ve0, hrg0, hve0⟩ := slE_at hsa A e0 he0
        obtain ⟨ae, ce, rfl, -, -⟩ := sees_form hve0
        have he0o := (hlso last (List.mem_of_getElem? hlast)).2 e0 (List.mem_of_getElem? he0)
        have hpho := hlo ph (List.mem_of_getElem? hph)
        have hpr := slP_at hl H ph hph
        have hd1 : ¬ (l.length : Int) < (H : Int) + 1 := by omega
        have hd2 : decide (last.length ≤ A) = false := decide_eq_false (by omega)
        have hdH : decide ((H : Int) < 0) = false := decide_eq_false (by omega)
        have hd3 : decide ((A : Int) < 0) = false := decide_eq_false (by omega)
        have hva0 := (hb0.out.cell (World.block_lt_of_cell? w _ hva)).trans hva
        have r0 := range_below hrg0 hb0.out 0 _ rfl
        have r1 := range_below hrg0 hb0.out 1 _ rfl
        simp only [Nat.add_zero] at r0
        have HVE0 := Lib.hid hve0; have HE0O := Lib.hid he0o; have HPHO := Lib.hid hpho; have HPR := Lib.hid hpr
        have HHL := Lib.hid (show H ≤ 1000000000 by omega)
        have HSL := Lib.hid hl; have HSLS := Lib.hid hls; have HSS := Lib.hid hs
        have HLO := Lib.hid hlo; have HSO := Lib.hid hso; have HLSO := Lib.hid hlso
        have HLEN := Lib.hid hlen; have HHH := Lib.hid hH
        clear hve0 he0o hpho hpr hrg0 hsa hva hr hl hls hs hlo hso hlso he0 hlast hph
        rw [hH]
        clear hH hlen h0
        cases steps with
        | nil =>
          have HT := Lib.hid (show traceL l lists A [] = (2, (H : Int)) from hT)
          clear hT
          generalize traceL l lists A [] = D at *
          rw [List.length_nil]
          go_enter Tryz.func25, Tryz.ntmps25
          go_wp2_with fail
          clear r0 r1 hva0
          have hst := stabTrC w #[.int .u64 e0.x, .slice ae e0.box.length ce]
          have hk : HoldT (TrC w #[.int .u64 e0.x, .slice ae e0.box.length ce]) w ((w.alloc (.cells (VerC 0 0) 65)).alloc (.cells #[.int .u64 e0.x, .slice ae e0.box.length ce] 32)).drew := HoldT.drew hst ⟨⟨hR0.out.alloc _, Blk.new2 w _ _ _⟩, by go_grown⟩
          try change Code.wp _ _ _ (Act.mk _ _) _
          refine wp_region_runR Ext 16 109 (HoldT (TrC w #[.int .u64 e0.x, .slice ae e0.box.length ce]) _) [[], [(0, 46)], [(1, 47)], [(2, 48)], [(3, 49)], [(3, 49)], [(4, 50), (5, 51), (3, 49)], [(6, 52), (3, 49)], [(3, 49)], [(3, 49)], [(3, 49)], [(10, 56), (3, 49)], [(11, 57), (3, 49)], [(7, 53), (8, 54), (9, 55), (12, 58), (3, 49)], [(13, 59), (3, 49)], [(3, 49), (14, 60)]] [(0, 46), (1, 47), (2, 48), (3, 49), (4, 50), (5, 51), (6, 52), (7, 53), (8, 54), (9, 55), (10, 56), (11, 57), (12, 58), (13, 59), (14, 60), (15, 61)] (by kernel_rfl) (by kernel_rfl) (by first | rfl | simp) (hk) ?_
          simp only [List.take_succ_cons, List.take_zero, List.drop_succ_cons, List.drop_zero]
          refine sp_op (Ph.eq _) (fun u hu => by
            refine spArg_nil ?_
            go_wp2_with (fail)
            exact ⟨rfl, hu, Ext.refl _, slot_eq rfl⟩) ?_
          refine sp_op (Ph.eq _) (fun u hu => by
            refine spArg_eq 0 rfl rfl ?_
            refine spArg_nil ?_
            simp only [Act.put, List.setIfInBounds_toArray, List.set_cons_succ, List.set_cons_zero]
            go_wp2_with (fail)
            exact ⟨rfl, hu, Ext.refl _, slot_eq rfl⟩) ?_
          refine sp_op (Ph.eq _) (fun u hu => by
            refine spArg_eq 0 rfl rfl ?_
            refine spArg_nil ?_
            simp only [Act.put, List.setIfInBounds_toArray, List.set_cons_succ, List.set_cons_zero]
            go_wp2_with (fail)
            exact ⟨rfl, hu, Ext.refl _, slot_eq rfl⟩) ?_
          refine sp_op (Ph.eq _) (fun u hu => by
            refine spArg_eq 0 rfl rfl ?_
            refine spArg_nil ?_
            simp only [Act.put, List.setIfInBounds_toArray, List.set_cons_succ, List.set_cons_zero]
            go_wp2_with (fail)
            exact ⟨rfl, hu, Ext.refl _, slot_eq rfl⟩) ?_
          refine sp_op (Ph.eq _) (fun u hu => by
            refine spArg_eq 0 rfl rfl ?_
            refine spArg_nil ?_
            simp only [Act.put, List.setIfInBounds_toArray, List.set_cons_succ, List.set_cons_zero]
            go_wp2_with (fail)
            exact ⟨rfl, hu, Ext.refl _, slot_eq rfl⟩) ?_
          refine sp_op (Ph.eq _) (fun u hu => by
            refine spArg_eq 1 rfl rfl ?_
            refine spArg_nil ?_
            simp only [Act.put, List.setIfInBounds_toArray, List.set_cons_succ, List.set_cons_zero]
            go_wp2_with (fail)
            exact ⟨rfl, hu, Ext.refl _, slot_eq rfl⟩) ?_
          refine sp_op (Ph.eq _) (fun u hu => by
            refine spArg_eq 1 rfl rfl ?_
            refine spArg_eq 0 rfl rfl ?_
            refine spArg_eq 2 rfl rfl ?_
            refine spArg_nil ?_
            simp only [Act.put, List.setIfInBounds_toArray, List.set_cons_succ, List.set_cons_zero]
            go_wp2_with (fail)
            exact ⟨rfl, hu, Ext.refl _, slot_eq rfl⟩) ?_
          refine sp_op (Ph.eq _) (fun u hu => by
            refine spArg_eq 0 rfl rfl ?_
            refine spArg_eq 3 rfl rfl ?_
            refine spArg_nil ?_
            simp only [Act.put, List.setIfInBounds_toArray, List.set_cons_succ, List.set_cons_zero]
            go_wp2_with (fail)
            exact ⟨rfl, hu, Ext.refl _, slot_eq rfl⟩) ?_
          refine sp_op (Ph.eq _) (fun u hu => by
            refine spArg_eq 4 rfl rfl ?_
            refine spArg_nil ?_
            simp only [Act.put, List.setIfInBounds_toArray, List.set_cons_succ, List.set_cons_zero]
            go_wp2_with (fail)
            exact ⟨rfl, hu, Ext.refl _, slot_eq rfl⟩) ?_
          refine sp_op (Ph.eq _) (fun u hu => by
            refine spArg_eq 5 rfl rfl ?_
            refine spArg_nil ?_
            simp only [Act.put, List.setIfInBounds_toArray, List.set_cons_succ, List.set_cons_zero]
            go_wp2_with (fail)
            exact ⟨rfl, hu, Ext.refl _, slot_eq rfl⟩) ?_
          refine sp_op (Ph.eq _) (fun u hu => by
            refine spArg_eq 6 rfl rfl ?_
            refine spArg_nil ?_
            simp only [Act.put, List.setIfInBounds_toArray, List.set_cons_succ, List.set_cons_zero]
            go_wp2_with (fail)
            exact ⟨rfl, hu, Ext.refl _, slot_eq rfl⟩) ?_
          refine sp_op (Ph.eq _) (fun u hu => by
            refine spArg_eq 0 rfl rfl ?_
            refine spArg_eq 7 rfl rfl ?_
            refine spArg_nil ?_
            simp only [Act.put, List.setIfInBounds_toArray, List.set_cons_succ, List.set_cons_zero]
            go_wp2_with (fail)
            exact ⟨rfl, hu, Ext.refl _, slot_eq rfl⟩) ?_
          refine sp_op (Ph.eq _) (fun u hu => by
            refine spArg_eq 0 rfl rfl ?_
            refine spArg_eq 8 rfl rfl ?_
            refine spArg_nil ?_
            simp only [Act.put, List.setIfInBounds_toArray, List.set_cons_succ, List.set_cons_zero]
            go_wp2_with (fail)
            exact ⟨rfl, hu, Ext.refl _, slot_eq rfl⟩) ?_
          refine sp_op (Ph.eq _) (fun u hu => by
            refine spArg_eq 5 rfl rfl ?_
            refine spArg_eq 4 rfl rfl ?_
            refine spArg_eq 3 rfl rfl ?_
            refine spArg_eq 0 rfl rfl ?_
            refine spArg_eq 9 rfl rfl ?_
            refine spArg_nil ?_
            simp only [Act.put, List.setIfInBounds_toArray, List.set_cons_succ, List.set_cons_zero]
            go_wp2_with (fail)
            exact ⟨rfl, hu, Ext.refl _, slot_eq rfl⟩) ?_
          refine sp_op (Ph.eq _) (fun u hu => by
            refine spArg_eq 0 rfl rfl ?_
            refine spArg_eq 10 rfl rfl ?_
            refine spArg_nil ?_
            simp only [Act.put, List.setIfInBounds_toArray, List.set_cons_succ, List.set_cons_zero]
            go_wp2_with (fail)
            exact ⟨rfl, hu, Ext.refl _, slot_eq rfl⟩) ?_
          refine sp_op (Ph.eq _) (fun u hu => by
            refine spArg_eq 11 rfl rfl ?_
            refine spArg_eq 0 rfl rfl ?_
            refine spArg_nil ?_
            simp only [Act.put, List.setIfInBounds_toArray, List.set_cons_succ, List.set_cons_zero]
            go_wp2_with (fail)
            exact ⟨rfl, hu, Ext.refl _, slot_eq rfl⟩) ?_
          refine sp_end ?_
          intro u hu
          refine spArg_eq 15 rfl rfl ?_
          refine spArg_eq 14 rfl rfl ?_
          refine spArg_eq 13 rfl rfl ?_
          refine spArg_eq 12 rfl rfl ?_
          refine spArg_eq 11 rfl rfl ?_
          refine spArg_eq 10 rfl rfl ?_
          refine spArg_eq 9 rfl rfl ?_
          refine spArg_eq 8 rfl rfl ?_
          refine spArg_eq 7 rfl rfl ?_
          refine spArg_eq 6 rfl rfl ?_
          refine spArg_eq 5 rfl rfl ?_
          refine spArg_eq 4 rfl rfl ?_
          refine spArg_eq 3 rfl rfl ?_
          refine spArg_eq 2 rfl rfl ?_
          refine spArg_eq 1 rfl rfl ?_
          refine spArg_eq 0 rfl rfl ?_
          refine spArg_nil ?_
          simp only [Act.put, List.setIfInBounds_toArray, List.set_cons_succ, List.set_cons_zero]
          go_wp2_with (refine wpList_store_row rfl 65 (.tmp 8) _ rfl w.heap.size (VerC 2 H) _ _ rfl rfl hu.has.1 rfl info_verd (by intro v hv; simp at hv; rcases hv with rfl | rfl <;> rfl) ?_; intro x7 hg7 hs7 hR7)
          refine bodyPost_ret (results_cell_row Tryz.results25 _ _ w.heap.size _ _ (0, 0) _ rfl hR7 Tryz.underlying65 rfl info_verd) rfl ⟨by rw [HT.out], hu.up.grown hg7 hu.up.size (fun k hk => by cases hk; exact Nat.le_refl _)⟩
        | cons t0 ts =>
          obtain ⟨bS, oS, cS, e1, -, -⟩ := HSS.out.open (by simp)
          obtain ⟨rfl, rfl⟩ : as_ = some ⟨bS, oS, none⟩ ∧ cs = cS := by injection e1 with e1 _ e3; exact ⟨e1, e3⟩
          clear e1
          obtain ⟨vt0, hrt0, hvt0⟩ := slT_at HSS.out 0 t0 rfl
          rw [Nat.zero_mul, Nat.add_zero] at hrt0
          have hto := HSO.out t0 (by simp)
          have hFA := fun (w' : World) (h1 : SeesB w' (.slice ae e0.box.length ce) e0.box) (h2 : SeesB w' vt0 t0.e.box) => Failed_any ph H e0 t0 (.slice ae e0.box.length ce) vt0 w' HPHO.out HE0O.out.1 hto.1 h1 h2 HE0O.out.2
          have HVT0 := Lib.hid hvt0; have HRT0 := Lib.hid hrt0
          have hT2 : traceL l lists A (t0 :: ts) = if failedL ph (H : Int) e0 t0 then traceN l lists (t0 :: ts) H H e0 A else (2, (H : Int)) := hT
          clear hT hvt0 hrt0 hto
          generalize hst0 : t0 :: ts = steps at *
          obtain ⟨M, hM⟩ : ∃ M, steps.length = M + 1 := ⟨ts.length, by rw [← hst0]; rfl⟩
          have HMM := Lib.hid hM
          clear hst0
          have hz1 : ((M : Int) + 1 == 0) = false := by rw [beq_eq_false_iff_ne]; omega
          have hz2 : decide ((M : Int) + 1 < 1) = false := decide_eq_false (by omega)
          have hz3 : ¬ ((M : Int) + 1 < 1) := by omega
          generalize hDt : traceL l lists A steps = D at *
          clear hDt
          by_cases hf : failedL ph (H : Int) e0 t0
          · rw [if_pos hf] at hT2
            simp only [decide_eq_true hf] at hFA
            have HT2 := Lib.hid hT2
            have HFA := Lib.hid hFA
            clear hT2 hFA hf
            rw [hM]
            clear hM
            go_enter Tryz.func25, Tryz.ntmps25
            go_wp2_with fail
            clear r0 r1 hva0
            have hst := stabTrC w #[.int .u64 e0.x, .slice ae e0.box.length ce]
            have hk : HoldT (TrC w #[.int .u64 e0.x, .slice ae e0.box.length ce]) w ((w.alloc (.cells (VerC 0 0) 65)).alloc (.cells #[.int .u64 e0.x, .slice ae e0.box.length ce] 32)).drew := HoldT.drew hst ⟨⟨hR0.out.alloc _, Blk.new2 w _ _ _⟩, by go_grown⟩
            try change Code.wp _ _ _ (Act.mk _ _) _
            refine wp_region_runR Ext 16 109 (HoldT (TrC w #[.int .u64 e0.x, .slice ae e0.box.length ce]) _) [[], [(0, 46)], [(1, 47)], [(2, 48)], [(3, 49)], [(3, 49)], [(4, 50), (5, 51), (3, 49)], [(6, 52), (3, 49)], [(3, 49)], [(3, 49)], [(3, 49)], [(10, 56), (3, 49)], [(11, 57), (3, 49)], [(7, 53), (8, 54), (9, 55), (12, 58), (3, 49)], [(13, 59), (3, 49)], [(3, 49), (14, 60)]] [(0, 46), (1, 47), (2, 48), (3, 49), (4, 50), (5, 51), (6, 52), (7, 53), (8, 54), (9, 55), (10, 56), (11, 57), (12, 58), (13, 59), (14, 60), (15, 61)] (by kernel_rfl) (by kernel_rfl) (by first | rfl | simp) (hk) ?_
            simp only [List.take_succ_cons, List.take_zero, List.drop_succ_cons, List.drop_zero]
            refine sp_op (Ph.eq _) (fun u hu => by
              refine spArg_nil ?_
              go_wp2_with (fail)
              exact ⟨rfl, hu, Ext.refl _, slot_eq rfl⟩) ?_
            refine sp_op (Ph.eq _) (fun u hu => by
              refine spArg_eq 0 rfl rfl ?_
              refine spArg_nil ?_
              simp only [Act.put, List.setIfInBounds_toArray, List.set_cons_succ, List.set_cons_zero]
              go_wp2_with (fail)
              exact ⟨rfl, hu, Ext.refl _, slot_eq rfl⟩) ?_
            refine sp_op (Ph.eq _) (fun u hu => by
              refine spArg_eq 0 rfl rfl ?_
              refine spArg_nil ?_
              simp only [Act.put, List.setIfInBounds_toArray, List.set_cons_succ, List.set_cons_zero]
              go_wp2_with (fail)
              exact ⟨rfl, hu, Ext.refl _, slot_eq rfl⟩) ?_
            refine sp_op (Ph.eq _) (fun u hu => by
              refine spArg_eq 0 rfl rfl ?_
              refine spArg_nil ?_
              simp only [Act.put, List.setIfInBounds_toArray, List.set_cons_succ, List.set_cons_zero]
              go_wp2_with (fail)
              exact ⟨rfl, hu, Ext.refl _, slot_eq rfl⟩) ?_
            refine sp_op (Ph.eq _) (fun u hu => by
              refine spArg_eq 0 rfl rfl ?_
              refine spArg_nil ?_
              simp only [Act.put, List.setIfInBounds_toArray, List.set_cons_succ, List.set_cons_zero]
              go_wp2_with (fail)
              exact ⟨rfl, hu, Ext.refl _, slot_eq rfl⟩) ?_
            refine sp_op (Ph.eq _) (fun u hu => by
              refine spArg_eq 1 rfl rfl ?_
              refine spArg_nil ?_
              simp only [Act.put, List.setIfInBounds_toArray, List.set_cons_succ, List.set_cons_zero]
              go_wp2_with (fail)
              exact ⟨rfl, hu, Ext.refl _, slot_eq rfl⟩) ?_
            refine sp_op (Ph.eq _) (fun u hu => by
              refine spArg_eq 1 rfl rfl ?_
              refine spArg_eq 0 rfl rfl ?_
              refine spArg_eq 2 rfl rfl ?_
              refine spArg_nil ?_
              simp only [Act.put, List.setIfInBounds_toArray, List.set_cons_succ, List.set_cons_zero]
              go_wp2_with (fail)
              exact ⟨rfl, hu, Ext.refl _, slot_eq rfl⟩) ?_
            refine sp_op (Ph.eq _) (fun u hu => by
              refine spArg_eq 0 rfl rfl ?_
              refine spArg_eq 3 rfl rfl ?_
              refine spArg_nil ?_
              simp only [Act.put, List.setIfInBounds_toArray, List.set_cons_succ, List.set_cons_zero]
              go_wp2_with ((refine wpList_load_midG rfl 60 _ rfl bP (oP + H * 10) rfl _ _ (range_below HPR.out hu.up) Tryz.underlying60 rfl info_pub ?_))
              exact ⟨rfl, hu, Ext.refl _, slot_eq rfl⟩) ?_
            refine sp_op (Ph.eq _) (fun u hu => by
              refine spArg_eq 4 rfl rfl ?_
              refine spArg_nil ?_
              simp only [Act.put, List.setIfInBounds_toArray, List.set_cons_succ, List.set_cons_zero]
              go_wp2_with (fail)
              exact ⟨rfl, hu, Ext.refl _, slot_eq rfl⟩) ?_
            refine sp_op (Ph.eq _) (fun u hu => by
              refine spArg_eq 5 rfl rfl ?_
              refine spArg_nil ?_
              simp only [Act.put, List.setIfInBounds_toArray, List.set_cons_succ, List.set_cons_zero]
              go_wp2_with ((refine wpList_load_rowG rfl 32 _ rfl (w.heap.size + 1) rfl _ _ (0, 0) _ hu.has.2 Tryz.underlying32 rfl info_entry ?_))
              exact ⟨rfl, hu, Ext.refl _, slot_eq rfl⟩) ?_
            refine sp_op (Ph.eq _) (fun u hu => by
              refine spArg_eq 6 rfl rfl ?_
              refine spArg_nil ?_
              simp only [Act.put, List.setIfInBounds_toArray, List.set_cons_succ, List.set_cons_zero]
              go_wp2_with (fail)
              exact ⟨rfl, hu, Ext.refl _, slot_eq rfl⟩) ?_
            refine sp_op (Ph.eq _) (fun u hu => by
              refine spArg_eq 0 rfl rfl ?_
              refine spArg_eq 7 rfl rfl ?_
              refine spArg_nil ?_
              simp only [Act.put, List.setIfInBounds_toArray, List.set_cons_succ, List.set_cons_zero]
              go_wp2_with (fail)
              exact ⟨rfl, hu, Ext.refl _, slot_eq rfl⟩) ?_
            refine sp_op (Ph.eq _) (fun u hu => by
              refine spArg_eq 0 rfl rfl ?_
              refine spArg_eq 8 rfl rfl ?_
              refine spArg_nil ?_
              simp only [Act.put, List.setIfInBounds_toArray, List.set_cons_succ, List.set_cons_zero]
              go_wp2_with ((refine wpList_load_midG rfl 57 _ rfl bS oS rfl _ _ (range_below HRT0.out hu.up) Tryz.underlying57 rfl info_stp ?_))
              exact ⟨rfl, hu, Ext.refl _, slot_eq rfl⟩) ?_
            refine sp_op (Ph.eq _) (fun u hu => by
              refine spArg_eq 5 rfl rfl ?_
              refine spArg_eq 4 rfl rfl ?_
              refine spArg_eq 3 rfl rfl ?_
              refine spArg_eq 0 rfl rfl ?_
              refine spArg_eq 9 rfl rfl ?_
              refine spArg_nil ?_
              simp only [Act.put, List.setIfInBounds_toArray, List.set_cons_succ, List.set_cons_zero]
              go_wp2_with ((go_at_call 29; refine (HFA.out _ (HVE0.out.below hu.up (by decide)) (HVT0.out.below hu.up (by decide))).mono ?_; rintro e x1 ⟨rfl, hb1⟩))
              exact ⟨rfl, HoldT.step hst hu hb1, hb1, slot_eq rfl⟩) ?_
            refine sp_op (Ph.eq _) (fun u hu => by
              refine spArg_eq 0 rfl rfl ?_
              refine spArg_eq 10 rfl rfl ?_
              refine spArg_nil ?_
              simp only [Act.put, List.setIfInBounds_toArray, List.set_cons_succ, List.set_cons_zero]
              go_wp2_with (fail)
              exact ⟨rfl, hu, Ext.refl _, slot_eq rfl⟩) ?_
            refine sp_op (Ph.eq _) (fun u hu => by
              refine spArg_eq 11 rfl rfl ?_
              refine spArg_eq 0 rfl rfl ?_
              refine spArg_nil ?_
              simp only [Act.put, List.setIfInBounds_toArray, List.set_cons_succ, List.set_cons_zero]
              go_wp2_with (fail)
              exact ⟨rfl, hu, Ext.refl _, slot_eq rfl⟩) ?_
            refine sp_end ?_
            intro u hu
            refine spArg_eq 15 rfl rfl ?_
            refine spArg_eq 14 rfl rfl ?_
            refine spArg_eq 13 rfl rfl ?_
            refine spArg_eq 12 rfl rfl ?_
            refine spArg_eq 11 rfl rfl ?_
            refine spArg_eq 10 rfl rfl ?_
            refine spArg_eq 9 rfl rfl ?_
            refine spArg_eq 8 rfl rfl ?_
            refine spArg_eq 7 rfl rfl ?_
            refine spArg_eq 6 rfl rfl ?_
            refine spArg_eq 5 rfl rfl ?_
            refine spArg_eq 4 rfl rfl ?_
            refine spArg_eq 3 rfl rfl ?_
            refine spArg_eq 2 rfl rfl ?_
            refine spArg_eq 1 rfl rfl ?_
            refine spArg_eq 0 rfl rfl ?_
            refine spArg_nil ?_
            simp only [Act.put, List.setIfInBounds_toArray, List.set_cons_succ, List.set_cons_zero]
            have hve' := HVE0.out.below hu.up (by decide)
            have hC0 := hu.has; have hup0 := hu.up
            clear hu hk hst hz1 hz2 hz3
            go_wp2_with fail
            go_loopw [2, 11, 12] (fun a i _ wr => TraceRel w l lists steps H D a i wr) (fun _ i _ _ => (intOf i + 1).toNat)
            case atStart => exact ⟨H, e0, .slice ae e0.box.length ce, A, Nat.le_refl _, rfl, rfl, ⟨by omega, by omega⟩, HE0O.out.1, hve', HE0O.out.2, hC0, hup0, HT2.out.symm⟩
            case round =>
              clear hve' hC0 hup0 HVE0 HE0O HT2 HFA HVT0 HRT0
              obtain ⟨n, e, ve, a, hn, rfl, rfl, hia, heo, hve, hbl, hC, hext, htr⟩ := hrel
              obtain ⟨a9, c9, rfl, -, -⟩ := sees_form hve
              cases n with
              | zero =>
                have HT := Lib.hid htr; clear htr
                rw [show ((0 : Nat) : Int) - 1 = -1 from rfl]
                go_wp2_with (refine wpList_store_row rfl 65 (.tmp 8) _ rfl w.heap.size (VerC 1 a) _ _ rfl rfl hC.1 rfl info_verd (by intro v hv; simp at hv; rcases hv with rfl | rfl <;> rfl) ?_; intro x7 hg7 hs7 hR7)
                refine bodyPost_ret (results_cell_row Tryz.results25 _ _ w.heap.size _ _ (0, 0) _ rfl hR7 Tryz.underlying65 rfl info_verd) rfl ⟨by rw [← HT.out]; rfl, Below.grown hext hg7 (Below.size hext) (fun k hk => by cases hk; exact Nat.le_refl _)⟩
              | succ m =>
                rw [show (((m + 1 : Nat) : Int) - 1) = (m : Int) from by omega]
                have hHb := HHL.out
                obtain ⟨K, hK⟩ : ∃ K, H = m + K := ⟨H - m, by omega⟩
                have hHK : (H : Int) - (m : Int) = (K : Int) := by omega
                obtain ⟨pm, hpm⟩ : ∃ x, l[m]? = some x := ⟨_, List.getElem?_eq_getElem (by have := HLEN.out; have := HHH.out; omega)⟩
                obtain ⟨im, him⟩ : ∃ x, lists[m]? = some x := ⟨_, List.getElem?_eq_getElem (by have := HHH.out; omega)⟩
                have htr2 : (match l[m]?, lists[m]?, steps[H - m]? with
                  | some p, some ins, some t => if passedL p m ins e t then traceN l lists steps H m t.e t.frm else (2, (m : Int))
                  | _, _, _ => (2, (m : Int))) = D := htr
                clear htr
                rw [hpm, him, show H - m = K from by omega] at htr2
                have hst2 : Stab (fun u => TrC w #[.int .u64 e.x, .slice a9 e.box.length c9] u ∧ SeesB u (.slice a9 e.box.length c9) e.box) := Stab.and (stabTrC w #[.int .u64 e.x, .slice a9 e.box.length c9]) (Stab.sees _ _ _ _ (by decide))
                have hkr : HoldT (fun u => TrC w #[.int .u64 e.x, .slice a9 e.box.length c9] u ∧ SeesB u (.slice a9 e.box.length c9) e.box) w wr.drew := HoldT.drew hst2 ⟨⟨hC, hve⟩, hext⟩
                have HMS := HMM.out
                by_cases hks : K < steps.length
                · obtain ⟨t, ht⟩ : ∃ x, steps[K]? = some x := ⟨_, List.getElem?_eq_getElem hks⟩
                  rw [ht] at htr2
                  have hd4 : decide (M + 1 ≤ K) = false := decide_eq_false (by omega)
                  have hd5 : ¬ ((M : Int) + 1 ≤ (K : Int)) := by omega
                  have hd6 : decide ((M : Int) + 1 ≤ (K : Int)) = false := decide_eq_false (by omega)
                  obtain ⟨vt, hrt, hvt⟩ := slT_at HSS.out K t ht
                  obtain ⟨av, cv, rfl, -, -⟩ := sees_form hvt
                  obtain ⟨vi, hvi, hsi⟩ := slL_at HSLS.out m im him
                  have hto := HSO.out t (List.mem_of_getElem? ht)
                  have hpo := HLO.out pm (List.mem_of_getElem? hpm)
                  have hio := HLSO.out im (List.mem_of_getElem? him)
                  have hPA := fun (w' : World) (h1 : SlR entR B w' vi im) (h2 : SeesB w' (.slice a9 e.box.length c9) e.box) (h3 : SeesB w' (.slice av t.e.box.length cv) t.e.box) => Passed_any pm m im e t B vi (.slice a9 e.box.length c9) (.slice av t.e.box.length cv) w' hpo heo hto.1 h1 h2 h3 hto.2 hio.1
                  have HLM := Lib.hid hvi; have HSI := Lib.hid hsi; have HVT := Lib.hid hvt; have HRT := Lib.hid hrt; have HPM := Lib.hid (slP_at HSL.out m pm hpm); have HTO := Lib.hid hto
                  have HRE := Lib.hid (show w.rangeAt bS (oS + K * 8 + 1) [.int .u64 t.e.x, .slice av t.e.box.length cv] from fun j v hj => by
                    rw [Nat.add_assoc]
                    match j, hj with
                    | 0, hj => exact hrt 1 v hj
                    | 1, hj => exact hrt 2 v hj)
                  clear hvi hsi hvt hrt hto hpo hio hpm him ht hK hC hext
                  by_cases hp : passedL pm m im e t
                  · simp only [decide_eq_true hp] at hPA
                    have htr3 : traceN l lists steps H m t.e t.frm = D := by simpa only [if_pos hp] using htr2
                    have HTR := Lib.hid htr3
                    have HPA := Lib.hid hPA
                    clear htr2 htr3 hPA hp
                    go_wp2_with fail
                    try change Code.wp _ _ _ (Act.mk _ _) _
                    refine wp_region_runR Ext 22 109 (HoldT (fun u => TrC w #[.int .u64 e.x, .slice a9 e.box.length c9] u ∧ SeesB u (.slice a9 e.box.length c9) e.box) _) [[], [], [(1, 74)], [(0, 73), (2, 75)], [(3, 76)], [(4, 77)], [(4, 77)], [(5, 78), (6, 79), (4, 77)], [(7, 80), (4, 77)], [(4, 77)], [(4, 77)], [(4, 77)], [(10, 83), (11, 84), (4, 77)], [(12, 85), (4, 77)], [(4, 77)], [(4, 77)], [(4, 77)], [(15, 88), (16, 89), (4, 77)], [(17, 90), (4, 77)], [(8, 81), (9, 82), (13, 86), (14, 87), (18, 91), (4, 77)], [(19, 92), (4, 77)], [(4, 77), (20, 93)]] [(0, 73), (1, 74), (2, 75), (3, 76), (4, 77), (5, 78), (6, 79), (7, 80), (8, 81), (9, 82), (10, 83), (11, 84), (12, 85), (13, 86), (14, 87), (15, 88), (16, 89), (17, 90), (18, 91), (19, 92), (20, 93), (21, 94)] (by kernel_rfl) (by kernel_rfl) (by first | rfl | simp) (hkr) ?_
                    simp only [List.take_succ_cons, List.take_zero, List.drop_succ_cons, List.drop_zero]
                    refine sp_op (Ph.eq _) (fun u hu => by
                      refine spArg_nil ?_
                      have hlm := (Below.cell hu.up (World.block_lt_of_cell? w _ HLM.out)).trans HLM.out
                      go_wp2_with (fail)
                      exact ⟨rfl, hu, Ext.refl _, slot_eq rfl⟩) ?_
                    refine sp_op (Ph.eq _) (fun u hu => by
                      refine spArg_nil ?_
                      have hlm := (Below.cell hu.up (World.block_lt_of_cell? w _ HLM.out)).trans HLM.out
                      go_wp2_with (fail)
                      exact ⟨rfl, hu, Ext.refl _, slot_eq rfl⟩) ?_
                    refine sp_op (Ph.eq _) (fun u hu => by
                      refine spArg_eq 0 rfl rfl ?_
                      refine spArg_nil ?_
                      simp only [Act.put, List.setIfInBounds_toArray, List.set_cons_succ, List.set_cons_zero]
                      have hlm := (Below.cell hu.up (World.block_lt_of_cell? w _ HLM.out)).trans HLM.out
                      go_wp2_with (fail)
                      exact ⟨rfl, hu, Ext.refl _, slot_eq rfl⟩) ?_
                    refine sp_op (Ph.eq _) (fun u hu => by
                      refine spArg_eq 2 rfl rfl ?_
                      refine spArg_eq 0 rfl rfl ?_
                      refine spArg_nil ?_
                      simp only [Act.put, List.setIfInBounds_toArray, List.set_cons_succ, List.set_cons_zero]
                      have hlm := (Below.cell hu.up (World.block_lt_of_cell? w _ HLM.out)).trans HLM.out
                      go_wp2_with (fail)
                      exact ⟨rfl, hu, Ext.refl _, slot_eq rfl⟩) ?_
                    refine sp_op (Ph.eq _) (fun u hu => by
                      refine spArg_eq 0 rfl rfl ?_
                      refine spArg_nil ?_
                      simp only [Act.put, List.setIfInBounds_toArray, List.set_cons_succ, List.set_cons_zero]
                      have hlm := (Below.cell hu.up (World.block_lt_of_cell? w _ HLM.out)).trans HLM.out
                      go_wp2_with (fail)
                      exact ⟨rfl, hu, Ext.refl _, slot_eq rfl⟩) ?_
                    refine sp_op (Ph.eq _) (fun u hu => by
                      refine spArg_eq 0 rfl rfl ?_
                      refine spArg_nil ?_
                      simp only [Act.put, List.setIfInBounds_toArray, List.set_cons_succ, List.set_cons_zero]
                      have hlm := (Below.cell hu.up (World.block_lt_of_cell? w _ HLM.out)).trans HLM.out
                      go_wp2_with (fail)
                      exact ⟨rfl, hu, Ext.refl _, slot_eq rfl⟩) ?_
                    refine sp_op (Ph.eq _) (fun u hu => by
                      refine spArg_eq 1 rfl rfl ?_
                      refine spArg_nil ?_
                      simp only [Act.put, List.setIfInBounds_toArray, List.set_cons_succ, List.set_cons_zero]
                      have hlm := (Below.cell hu.up (World.block_lt_of_cell? w _ HLM.out)).trans HLM.out
                      go_wp2_with (fail)
                      exact ⟨rfl, hu, Ext.refl _, slot_eq rfl⟩) ?_
                    refine sp_op (Ph.eq _) (fun u hu => by
                      refine spArg_eq 1 rfl rfl ?_
                      refine spArg_eq 0 rfl rfl ?_
                      refine spArg_eq 2 rfl rfl ?_
                      refine spArg_nil ?_
                      simp only [Act.put, List.setIfInBounds_toArray, List.set_cons_succ, List.set_cons_zero]
                      have hlm := (Below.cell hu.up (World.block_lt_of_cell? w _ HLM.out)).trans HLM.out
                      go_wp2_with (fail)
                      exact ⟨rfl, hu, Ext.refl _, slot_eq rfl⟩) ?_
                    refine sp_op (Ph.eq _) (fun u hu => by
                      refine spArg_eq 0 rfl rfl ?_
                      refine spArg_eq 3 rfl rfl ?_
                      refine spArg_nil ?_
                      simp only [Act.put, List.setIfInBounds_toArray, List.set_cons_succ, List.set_cons_zero]
                      have hlm := (Below.cell hu.up (World.block_lt_of_cell? w _ HLM.out)).trans HLM.out
                      go_wp2_with ((refine wpList_load_midG rfl 60 _ rfl bP (oP + m * 10) rfl _ _ (range_below HPM.out hu.up) Tryz.underlying60 rfl info_pub ?_))
                      exact ⟨rfl, hu, Ext.refl _, slot_eq rfl⟩) ?_
                    refine sp_op (Ph.eq _) (fun u hu => by
                      refine spArg_eq 4 rfl rfl ?_
                      refine spArg_nil ?_
                      simp only [Act.put, List.setIfInBounds_toArray, List.set_cons_succ, List.set_cons_zero]
                      have hlm := (Below.cell hu.up (World.block_lt_of_cell? w _ HLM.out)).trans HLM.out
                      go_wp2_with (fail)
                      exact ⟨rfl, hu, Ext.refl _, slot_eq rfl⟩) ?_
                    refine sp_op (Ph.eq _) (fun u hu => by
                      refine spArg_eq 5 rfl rfl ?_
                      refine spArg_nil ?_
                      simp only [Act.put, List.setIfInBounds_toArray, List.set_cons_succ, List.set_cons_zero]
                      have hlm := (Below.cell hu.up (World.block_lt_of_cell? w _ HLM.out)).trans HLM.out
                      go_wp2_with (fail)
                      exact ⟨rfl, hu, Ext.refl _, slot_eq rfl⟩) ?_
                    refine sp_op (Ph.eq _) (fun u hu => by
                      refine spArg_eq 6 rfl rfl ?_
                      refine spArg_nil ?_
                      simp only [Act.put, List.setIfInBounds_toArray, List.set_cons_succ, List.set_cons_zero]
                      have hlm := (Below.cell hu.up (World.block_lt_of_cell? w _ HLM.out)).trans HLM.out
                      go_wp2_with (fail)
                      exact ⟨rfl, hu, Ext.refl _, slot_eq rfl⟩) ?_
                    refine sp_op (Ph.eq _) (fun u hu => by
                      refine spArg_eq 1 rfl rfl ?_
                      refine spArg_eq 0 rfl rfl ?_
                      refine spArg_eq 7 rfl rfl ?_
                      refine spArg_nil ?_
                      simp only [Act.put, List.setIfInBounds_toArray, List.set_cons_succ, List.set_cons_zero]
                      have hlm := (Below.cell hu.up (World.block_lt_of_cell? w _ HLM.out)).trans HLM.out
                      go_wp2_with (fail)
                      exact ⟨rfl, hu, Ext.refl _, slot_eq rfl⟩) ?_
                    refine sp_op (Ph.eq _) (fun u hu => by
                      refine spArg_eq 0 rfl rfl ?_
                      refine spArg_eq 8 rfl rfl ?_
                      refine spArg_nil ?_
                      simp only [Act.put, List.setIfInBounds_toArray, List.set_cons_succ, List.set_cons_zero]
                      have hlm := (Below.cell hu.up (World.block_lt_of_cell? w _ HLM.out)).trans HLM.out
                      go_wp2_with (fail)
                      exact ⟨rfl, hu, Ext.refl _, slot_eq rfl⟩) ?_
                    refine sp_op (Ph.eq _) (fun u hu => by
                      refine spArg_eq 9 rfl rfl ?_
                      refine spArg_nil ?_
                      simp only [Act.put, List.setIfInBounds_toArray, List.set_cons_succ, List.set_cons_zero]
                      have hlm := (Below.cell hu.up (World.block_lt_of_cell? w _ HLM.out)).trans HLM.out
                      go_wp2_with ((refine wpList_load_rowG rfl 32 _ rfl (w.heap.size + 1) rfl _ _ (0, 0) _ hu.has.1.2 Tryz.underlying32 rfl info_entry ?_))
                      exact ⟨rfl, hu, Ext.refl _, slot_eq rfl⟩) ?_
                    refine sp_op (Ph.eq _) (fun u hu => by
                      refine spArg_eq 10 rfl rfl ?_
                      refine spArg_nil ?_
                      simp only [Act.put, List.setIfInBounds_toArray, List.set_cons_succ, List.set_cons_zero]
                      have hlm := (Below.cell hu.up (World.block_lt_of_cell? w _ HLM.out)).trans HLM.out
                      go_wp2_with (fail)
                      exact ⟨rfl, hu, Ext.refl _, slot_eq rfl⟩) ?_
                    refine sp_op (Ph.eq _) (fun u hu => by
                      refine spArg_eq 11 rfl rfl ?_
                      refine spArg_nil ?_
                      simp only [Act.put, List.setIfInBounds_toArray, List.set_cons_succ, List.set_cons_zero]
                      have hlm := (Below.cell hu.up (World.block_lt_of_cell? w _ HLM.out)).trans HLM.out
                      go_wp2_with (fail)
                      exact ⟨rfl, hu, Ext.refl _, slot_eq rfl⟩) ?_
                    refine sp_op (Ph.eq _) (fun u hu => by
                      refine spArg_eq 1 rfl rfl ?_
                      refine spArg_eq 0 rfl rfl ?_
                      refine spArg_eq 12 rfl rfl ?_
                      refine spArg_nil ?_
                      simp only [Act.put, List.setIfInBounds_toArray, List.set_cons_succ, List.set_cons_zero]
                      have hlm := (Below.cell hu.up (World.block_lt_of_cell? w _ HLM.out)).trans HLM.out
                      go_wp2_with (fail)
                      exact ⟨rfl, hu, Ext.refl _, slot_eq rfl⟩) ?_
                    refine sp_op (Ph.eq _) (fun u hu => by
                      refine spArg_eq 0 rfl rfl ?_
                      refine spArg_eq 13 rfl rfl ?_
                      refine spArg_nil ?_
                      simp only [Act.put, List.setIfInBounds_toArray, List.set_cons_succ, List.set_cons_zero]
                      have hlm := (Below.cell hu.up (World.block_lt_of_cell? w _ HLM.out)).trans HLM.out
                      go_wp2_with ((refine wpList_load_midG rfl 57 _ rfl bS (oS + K * 8) rfl _ _ (range_below HRT.out hu.up) Tryz.underlying57 rfl info_stp ?_))
                      exact ⟨rfl, hu, Ext.refl _, slot_eq rfl⟩) ?_
                    refine sp_op (Ph.eq _) (fun u hu => by
                      refine spArg_eq 10 rfl rfl ?_
                      refine spArg_eq 9 rfl rfl ?_
                      refine spArg_eq 5 rfl rfl ?_
                      refine spArg_eq 4 rfl rfl ?_
                      refine spArg_eq 0 rfl rfl ?_
                      refine spArg_eq 14 rfl rfl ?_
                      refine spArg_nil ?_
                      simp only [Act.put, List.setIfInBounds_toArray, List.set_cons_succ, List.set_cons_zero]
                      have hlm := (Below.cell hu.up (World.block_lt_of_cell? w _ HLM.out)).trans HLM.out
                      go_wp2_with ((go_at_call 28; refine (HPA.out _ (HSI.out.ext hu.up) hu.has.2 (HVT.out.below hu.up (by decide))).mono ?_; rintro e x1 ⟨rfl, hb1⟩))
                      exact ⟨rfl, HoldT.step hst2 hu hb1, hb1, slot_eq rfl⟩) ?_
                    refine sp_op (Ph.eq _) (fun u hu => by
                      refine spArg_eq 0 rfl rfl ?_
                      refine spArg_eq 15 rfl rfl ?_
                      refine spArg_nil ?_
                      simp only [Act.put, List.setIfInBounds_toArray, List.set_cons_succ, List.set_cons_zero]
                      have hlm := (Below.cell hu.up (World.block_lt_of_cell? w _ HLM.out)).trans HLM.out
                      go_wp2_with (fail)
                      exact ⟨rfl, hu, Ext.refl _, slot_eq rfl⟩) ?_
                    refine sp_op (Ph.eq _) (fun u hu => by
                      refine spArg_eq 16 rfl rfl ?_
                      refine spArg_eq 0 rfl rfl ?_
                      refine spArg_nil ?_
                      simp only [Act.put, List.setIfInBounds_toArray, List.set_cons_succ, List.set_cons_zero]
                      have hlm := (Below.cell hu.up (World.block_lt_of_cell? w _ HLM.out)).trans HLM.out
                      go_wp2_with (fail)
                      exact ⟨rfl, hu, Ext.refl _, slot_eq rfl⟩) ?_
                    refine sp_end ?_
                    intro u hu
                    refine spArg_eq 21 rfl rfl ?_
                    refine spArg_eq 20 rfl rfl ?_
                    refine spArg_eq 19 rfl rfl ?_
                    refine spArg_eq 18 rfl rfl ?_
                    refine spArg_eq 17 rfl rfl ?_
                    refine spArg_eq 16 rfl rfl ?_
                    refine spArg_eq 15 rfl rfl ?_
                    refine spArg_eq 14 rfl rfl ?_
                    refine spArg_eq 13 rfl rfl ?_
                    refine spArg_eq 12 rfl rfl ?_
                    refine spArg_eq 11 rfl rfl ?_
                    refine spArg_eq 10 rfl rfl ?_
                    refine spArg_eq 9 rfl rfl ?_
                    refine spArg_eq 8 rfl rfl ?_
                    refine spArg_eq 7 rfl rfl ?_
                    refine spArg_eq 6 rfl rfl ?_
                    refine spArg_eq 5 rfl rfl ?_
                    refine spArg_eq 4 rfl rfl ?_
                    refine spArg_eq 3 rfl rfl ?_
                    refine spArg_eq 2 rfl rfl ?_
                    refine spArg_eq 1 rfl rfl ?_
                    refine spArg_eq 0 rfl rfl ?_
                    refine spArg_nil ?_
                    simp only [Act.put, List.setIfInBounds_toArray, List.set_cons_succ, List.set_cons_zero]
                    have hstw : Stab (fun u => Ext w u) := fun _ _ h hb => Ext.tr h hb
                    have hkw : HoldT (fun u => Ext w u) w u.drew := HoldT.drew hstw ⟨hu.up, hu.up⟩
                    have hsf : ∀ e : InC (fun u => Ext w u), e.u.cell? ⟨bS, oS + K * 8, none⟩ = some (.int .i64 t.frm) := fun e => by have := range_below HRT.out e.has 0 _ rfl; rwa [Nat.add_zero] at this
                    have hse0 : ∀ e : InC (fun u => Ext w u), e.u.cell? ⟨bS, oS + K * 8 + 1, none⟩ = some (.int .u64 t.e.x) := fun e => by have := range_below HRE.out e.has 0 _ rfl; rwa [Nat.add_zero] at this
                    have hse1 : ∀ e : InC (fun u => Ext w u), e.u.cell? ⟨bS, oS + K * 8 + 1 + 1, none⟩ = some (.slice av t.e.box.length cv) := fun e => range_below HRE.out e.has 1 _ rfl
                    have hu9 := hu
                    go_wp2_with fail
                    try change Code.wp _ _ _ (Act.mk _ _) _
                    haveI hne_ : Nonempty (InC (fun u => Ext w u)) := ⟨⟨_, (hkw).1⟩⟩
                    refine wp_region_tr (C := fun w_ => ∃ e_ : InC (fun u => Ext w u), w_ = e_.u) (.step [0, 1, 2, 3, 4, 5, 6, 7, 8, 9] (.alt 10 (.fin [11]) .nil)) (by kernel_rfl) (by kernel_rfl) (fun _ _ _ _ hd_ h_ => ⟨hd_.symm.trans h_.1, h_.2⟩) ⟨⟨World.drew _, (hkw).1⟩, rfl⟩ ?_
                    have hk_ := hkw
                    repeat' (first
                      | ((with_reducible refine wpTr_fin ?_)
                         simp only [pickOps, List.flatMap_cons, List.flatMap_nil, List.drop_succ_cons, List.drop_zero, List.take_succ_cons, List.take_zero, List.cons_append, List.nil_append, List.append_nil]
                         repeat (go_big_quiet_step (exact rfl))
                         refine wpQuiet_nil ?_)
                      | ((with_reducible refine wpTr_step ?_); simp only [pickOps, List.flatMap_cons, List.flatMap_nil, List.drop_succ_cons, List.drop_zero, List.take_succ_cons, List.take_zero, List.cons_append, List.nil_append, List.append_nil]; repeat (go_big_quiet_step (exact rfl))
                         refine wpQuiet_nil ?_)
                      | (with_reducible refine wpTr_one ?_)
                      | (with_reducible refine wpTr_alt ?_ ?_)
                      | (simp only [pickOps, List.flatMap_cons, List.flatMap_nil, List.drop_succ_cons, List.drop_zero, List.take_succ_cons, List.take_zero, List.cons_append, List.nil_append, List.append_nil]
                         go_wp2_with ((refine wpList_store_row rfl 32 (.tmp 10) _ rfl (w.heap.size + 1) #[.int .u64 t.e.x, .slice av t.e.box.length cv] _ _ rfl rfl (Blk.drew hu9.has.1.2) rfl info_entry (by intro v hv; simp at hv; rcases hv with rfl | rfl <;> rfl) ?_; intro x8 hg8 hs8 hR8; have hv8 : Blk x8 w.heap.size (VerC 0 0) 65 := Blk.grownBy (Blk.drew hu9.has.1.1) hg8 (some_ne (by omega)); have hup8 : Below w.heap.size w x8 := hkw.up.grown hg8 hkw.up.size (fun k hk => by cases hk; omega); have hk8 : HoldT (fun u => Ext w u) w x8 := ⟨hup8, hup8⟩))
                         refine phPost_hold (by first | with_reducible assumption | exact HoldT.alloc hstab (by with_reducible assumption) _ | exact HoldT.alloc hstab (HoldT.alloc hstab (by with_reducible assumption) _) _) ?_
                         intro hk_))
                    go_wp2_with fail
                    go_roundw
                    case rel => exact ⟨m, t.e, .slice av t.e.box.length cv, t.frm, by omega, rfl, rfl, HTO.out.1.1, HTO.out.1.2.1, HVT.out.below hup8 (by decide), HTO.out.2, ⟨hv8, hR8⟩, hup8, HTR.out⟩
                    case measure => (show ((m : Int) - 1 + 1).toNat < ((m : Int) + 1).toNat; omega)
                  · simp only [decide_eq_false hp] at hPA
                    have htr3 : (2, (m : Int)) = D := by simpa only [if_neg hp] using htr2
                    have HT := Lib.hid htr3.symm
                    have HPA := Lib.hid hPA
                    clear htr2 htr3 hPA hp
                    go_wp2_with fail
                    try change Code.wp _ _ _ (Act.mk _ _) _
                    refine wp_region_runR Ext 22 109 (HoldT (fun u => TrC w #[.int .u64 e.x, .slice a9 e.box.length c9] u ∧ SeesB u (.slice a9 e.box.length c9) e.box) _) [[], [], [(1, 74)], [(0, 73), (2, 75)], [(3, 76)], [(4, 77)], [(4, 77)], [(5, 78), (6, 79), (4, 77)], [(7, 80), (4, 77)], [(4, 77)], [(4, 77)], [(4, 77)], [(10, 83), (11, 84), (4, 77)], [(12, 85), (4, 77)], [(4, 77)], [(4, 77)], [(4, 77)], [(15, 88), (16, 89), (4, 77)], [(17, 90), (4, 77)], [(8, 81), (9, 82), (13, 86), (14, 87), (18, 91), (4, 77)], [(19, 92), (4, 77)], [(4, 77), (20, 93)]] [(0, 73), (1, 74), (2, 75), (3, 76), (4, 77), (5, 78), (6, 79), (7, 80), (8, 81), (9, 82), (10, 83), (11, 84), (12, 85), (13, 86), (14, 87), (15, 88), (16, 89), (17, 90), (18, 91), (19, 92), (20, 93), (21, 94)] (by kernel_rfl) (by kernel_rfl) (by first | rfl | simp) (hkr) ?_
                    simp only [List.take_succ_cons, List.take_zero, List.drop_succ_cons, List.drop_zero]
                    refine sp_op (Ph.eq _) (fun u hu => by
                      refine spArg_nil ?_
                      have hlm := (Below.cell hu.up (World.block_lt_of_cell? w _ HLM.out)).trans HLM.out
                      go_wp2_with (fail)
                      exact ⟨rfl, hu, Ext.refl _, slot_eq rfl⟩) ?_
                    refine sp_op (Ph.eq _) (fun u hu => by
                      refine spArg_nil ?_
                      have hlm := (Below.cell hu.up (World.block_lt_of_cell? w _ HLM.out)).trans HLM.out
                      go_wp2_with (fail)
                      exact ⟨rfl, hu, Ext.refl _, slot_eq rfl⟩) ?_
                    refine sp_op (Ph.eq _) (fun u hu => by
                      refine spArg_eq 0 rfl rfl ?_
                      refine spArg_nil ?_
                      simp only [Act.put, List.setIfInBounds_toArray, List.set_cons_succ, List.set_cons_zero]
                      have hlm := (Below.cell hu.up (World.block_lt_of_cell? w _ HLM.out)).trans HLM.out
                      go_wp2_with (fail)
                      exact ⟨rfl, hu, Ext.refl _, slot_eq rfl⟩) ?_
                    refine sp_op (Ph.eq _) (fun u hu => by
                      refine spArg_eq 2 rfl rfl ?_
                      refine spArg_eq 0 rfl rfl ?_
                      refine spArg_nil ?_
                      simp only [Act.put, List.setIfInBounds_toArray, List.set_cons_succ, List.set_cons_zero]
                      have hlm := (Below.cell hu.up (World.block_lt_of_cell? w _ HLM.out)).trans HLM.out
                      go_wp2_with (fail)
                      exact ⟨rfl, hu, Ext.refl _, slot_eq rfl⟩) ?_
                    refine sp_op (Ph.eq _) (fun u hu => by
                      refine spArg_eq 0 rfl rfl ?_
                      refine spArg_nil ?_
                      simp only [Act.put, List.setIfInBounds_toArray, List.set_cons_succ, List.set_cons_zero]
                      have hlm := (Below.cell hu.up (World.block_lt_of_cell? w _ HLM.out)).trans HLM.out
                      go_wp2_with (fail)
                      exact ⟨rfl, hu, Ext.refl _, slot_eq rfl⟩) ?_
                    refine sp_op (Ph.eq _) (fun u hu => by
                      refine spArg_eq 0 rfl rfl ?_
                      refine spArg_nil ?_
                      simp only [Act.put, List.setIfInBounds_toArray, List.set_cons_succ, List.set_cons_zero]
                      have hlm := (Below.cell hu.up (World.block_lt_of_cell? w _ HLM.out)).trans HLM.out
                      go_wp2_with (fail)
                      exact ⟨rfl, hu, Ext.refl _, slot_eq rfl⟩) ?_
                    refine sp_op (Ph.eq _) (fun u hu => by
                      refine spArg_eq 1 rfl rfl ?_
                      refine spArg_nil ?_
                      simp only [Act.put, List.setIfInBounds_toArray, List.set_cons_succ, List.set_cons_zero]
                      have hlm := (Below.cell hu.up (World.block_lt_of_cell? w _ HLM.out)).trans HLM.out
                      go_wp2_with (fail)
                      exact ⟨rfl, hu, Ext.refl _, slot_eq rfl⟩) ?_
                    refine sp_op (Ph.eq _) (fun u hu => by
                      refine spArg_eq 1 rfl rfl ?_
                      refine spArg_eq 0 rfl rfl ?_
                      refine spArg_eq 2 rfl rfl ?_
                      refine spArg_nil ?_
                      simp only [Act.put, List.setIfInBounds_toArray, List.set_cons_succ, List.set_cons_zero]
                      have hlm := (Below.cell hu.up (World.block_lt_of_cell? w _ HLM.out)).trans HLM.out
                      go_wp2_with (fail)
                      exact ⟨rfl, hu, Ext.refl _, slot_eq rfl⟩) ?_
                    refine sp_op (Ph.eq _) (fun u hu => by
                      refine spArg_eq 0 rfl rfl ?_
                      refine spArg_eq 3 rfl rfl ?_
                      refine spArg_nil ?_
                      simp only [Act.put, List.setIfInBounds_toArray, List.set_cons_succ, List.set_cons_zero]
                      have hlm := (Below.cell hu.up (World.block_lt_of_cell? w _ HLM.out)).trans HLM.out
                      go_wp2_with ((refine wpList_load_midG rfl 60 _ rfl bP (oP + m * 10) rfl _ _ (range_below HPM.out hu.up) Tryz.underlying60 rfl info_pub ?_))
                      exact ⟨rfl, hu, Ext.refl _, slot_eq rfl⟩) ?_
                    refine sp_op (Ph.eq _) (fun u hu => by
                      refine spArg_eq 4 rfl rfl ?_
                      refine spArg_nil ?_
                      simp only [Act.put, List.setIfInBounds_toArray, List.set_cons_succ, List.set_cons_zero]
                      have hlm := (Below.cell hu.up (World.block_lt_of_cell? w _ HLM.out)).trans HLM.out
                      go_wp2_with (fail)
                      exact ⟨rfl, hu, Ext.refl _, slot_eq rfl⟩) ?_
                    refine sp_op (Ph.eq _) (fun u hu => by
                      refine spArg_eq 5 rfl rfl ?_
                      refine spArg_nil ?_
                      simp only [Act.put, List.setIfInBounds_toArray, List.set_cons_succ, List.set_cons_zero]
                      have hlm := (Below.cell hu.up (World.block_lt_of_cell? w _ HLM.out)).trans HLM.out
                      go_wp2_with (fail)
                      exact ⟨rfl, hu, Ext.refl _, slot_eq rfl⟩) ?_
                    refine sp_op (Ph.eq _) (fun u hu => by
                      refine spArg_eq 6 rfl rfl ?_
                      refine spArg_nil ?_
                      simp only [Act.put, List.setIfInBounds_toArray, List.set_cons_succ, List.set_cons_zero]
                      have hlm := (Below.cell hu.up (World.block_lt_of_cell? w _ HLM.out)).trans HLM.out
                      go_wp2_with (fail)
                      exact ⟨rfl, hu, Ext.refl _, slot_eq rfl⟩) ?_
                    refine sp_op (Ph.eq _) (fun u hu => by
                      refine spArg_eq 1 rfl rfl ?_
                      refine spArg_eq 0 rfl rfl ?_
                      refine spArg_eq 7 rfl rfl ?_
                      refine spArg_nil ?_
                      simp only [Act.put, List.setIfInBounds_toArray, List.set_cons_succ, List.set_cons_zero]
                      have hlm := (Below.cell hu.up (World.block_lt_of_cell? w _ HLM.out)).trans HLM.out
                      go_wp2_with (fail)
                      exact ⟨rfl, hu, Ext.refl _, slot_eq rfl⟩) ?_
                    refine sp_op (Ph.eq _) (fun u hu => by
                      refine spArg_eq 0 rfl rfl ?_
                      refine spArg_eq 8 rfl rfl ?_
                      refine spArg_nil ?_
                      simp only [Act.put, List.setIfInBounds_toArray, List.set_cons_succ, List.set_cons_zero]
                      have hlm := (Below.cell hu.up (World.block_lt_of_cell? w _ HLM.out)).trans HLM.out
                      go_wp2_with (fail)
                      exact ⟨rfl, hu, Ext.refl _, slot_eq rfl⟩) ?_
                    refine sp_op (Ph.eq _) (fun u hu => by
                      refine spArg_eq 9 rfl rfl ?_
                      refine spArg_nil ?_
                      simp only [Act.put, List.setIfInBounds_toArray, List.set_cons_succ, List.set_cons_zero]
                      have hlm := (Below.cell hu.up (World.block_lt_of_cell? w _ HLM.out)).trans HLM.out
                      go_wp2_with ((refine wpList_load_rowG rfl 32 _ rfl (w.heap.size + 1) rfl _ _ (0, 0) _ hu.has.1.2 Tryz.underlying32 rfl info_entry ?_))
                      exact ⟨rfl, hu, Ext.refl _, slot_eq rfl⟩) ?_
                    refine sp_op (Ph.eq _) (fun u hu => by
                      refine spArg_eq 10 rfl rfl ?_
                      refine spArg_nil ?_
                      simp only [Act.put, List.setIfInBounds_toArray, List.set_cons_succ, List.set_cons_zero]
                      have hlm := (Below.cell hu.up (World.block_lt_of_cell? w _ HLM.out)).trans HLM.out
                      go_wp2_with (fail)
                      exact ⟨rfl, hu, Ext.refl _, slot_eq rfl⟩) ?_
                    refine sp_op (Ph.eq _) (fun u hu => by
                      refine spArg_eq 11 rfl rfl ?_
                      refine spArg_nil ?_
                      simp only [Act.put, List.setIfInBounds_toArray, List.set_cons_succ, List.set_cons_zero]
                      have hlm := (Below.cell hu.up (World.block_lt_of_cell? w _ HLM.out)).trans HLM.out
                      go_wp2_with (fail)
                      exact ⟨rfl, hu, Ext.refl _, slot_eq rfl⟩) ?_
                    refine sp_op (Ph.eq _) (fun u hu => by
                      refine spArg_eq 1 rfl rfl ?_
                      refine spArg_eq 0 rfl rfl ?_
                      refine spArg_eq 12 rfl rfl ?_
                      refine spArg_nil ?_
                      simp only [Act.put, List.setIfInBounds_toArray, List.set_cons_succ, List.set_cons_zero]
                      have hlm := (Below.cell hu.up (World.block_lt_of_cell? w _ HLM.out)).trans HLM.out
                      go_wp2_with (fail)
                      exact ⟨rfl, hu, Ext.refl _, slot_eq rfl⟩) ?_
                    refine sp_op (Ph.eq _) (fun u hu => by
                      refine spArg_eq 0 rfl rfl ?_
                      refine spArg_eq 13 rfl rfl ?_
                      refine spArg_nil ?_
                      simp only [Act.put, List.setIfInBounds_toArray, List.set_cons_succ, List.set_cons_zero]
                      have hlm := (Below.cell hu.up (World.block_lt_of_cell? w _ HLM.out)).trans HLM.out
                      go_wp2_with ((refine wpList_load_midG rfl 57 _ rfl bS (oS + K * 8) rfl _ _ (range_below HRT.out hu.up) Tryz.underlying57 rfl info_stp ?_))
                      exact ⟨rfl, hu, Ext.refl _, slot_eq rfl⟩) ?_
                    refine sp_op (Ph.eq _) (fun u hu => by
                      refine spArg_eq 10 rfl rfl ?_
                      refine spArg_eq 9 rfl rfl ?_
                      refine spArg_eq 5 rfl rfl ?_
                      refine spArg_eq 4 rfl rfl ?_
                      refine spArg_eq 0 rfl rfl ?_
                      refine spArg_eq 14 rfl rfl ?_
                      refine spArg_nil ?_
                      simp only [Act.put, List.setIfInBounds_toArray, List.set_cons_succ, List.set_cons_zero]
                      have hlm := (Below.cell hu.up (World.block_lt_of_cell? w _ HLM.out)).trans HLM.out
                      go_wp2_with ((go_at_call 28; refine (HPA.out _ (HSI.out.ext hu.up) hu.has.2 (HVT.out.below hu.up (by decide))).mono ?_; rintro e x1 ⟨rfl, hb1⟩))
                      exact ⟨rfl, HoldT.step hst2 hu hb1, hb1, slot_eq rfl⟩) ?_
                    refine sp_op (Ph.eq _) (fun u hu => by
                      refine spArg_eq 0 rfl rfl ?_
                      refine spArg_eq 15 rfl rfl ?_
                      refine spArg_nil ?_
                      simp only [Act.put, List.setIfInBounds_toArray, List.set_cons_succ, List.set_cons_zero]
                      have hlm := (Below.cell hu.up (World.block_lt_of_cell? w _ HLM.out)).trans HLM.out
                      go_wp2_with (fail)
                      exact ⟨rfl, hu, Ext.refl _, slot_eq rfl⟩) ?_
                    refine sp_op (Ph.eq _) (fun u hu => by
                      refine spArg_eq 16 rfl rfl ?_
                      refine spArg_eq 0 rfl rfl ?_
                      refine spArg_nil ?_
                      simp only [Act.put, List.setIfInBounds_toArray, List.set_cons_succ, List.set_cons_zero]
                      have hlm := (Below.cell hu.up (World.block_lt_of_cell? w _ HLM.out)).trans HLM.out
                      go_wp2_with (fail)
                      exact ⟨rfl, hu, Ext.refl _, slot_eq rfl⟩) ?_
                    refine sp_end ?_
                    intro u hu
                    refine spArg_eq 21 rfl rfl ?_
                    refine spArg_eq 20 rfl rfl ?_
                    refine spArg_eq 19 rfl rfl ?_
                    refine spArg_eq 18 rfl rfl ?_
                    refine spArg_eq 17 rfl rfl ?_
                    refine spArg_eq 16 rfl rfl ?_
                    refine spArg_eq 15 rfl rfl ?_
                    refine spArg_eq 14 rfl rfl ?_
                    refine spArg_eq 13 rfl rfl ?_
                    refine spArg_eq 12 rfl rfl ?_
                    refine spArg_eq 11 rfl rfl ?_
                    refine spArg_eq 10 rfl rfl ?_
                    refine spArg_eq 9 rfl rfl ?_
                    refine spArg_eq 8 rfl rfl ?_
                    refine spArg_eq 7 rfl rfl ?_
                    refine spArg_eq 6 rfl rfl ?_
                    refine spArg_eq 5 rfl rfl ?_
                    refine spArg_eq 4 rfl rfl ?_
                    refine spArg_eq 3 rfl rfl ?_
                    refine spArg_eq 2 rfl rfl ?_
                    refine spArg_eq 1 rfl rfl ?_
                    refine spArg_eq 0 rfl rfl ?_
                    refine spArg_nil ?_
                    simp only [Act.put, List.setIfInBounds_toArray, List.set_cons_succ, List.set_cons_zero]
                    go_wp2_with (refine wpList_store_row rfl 65 (.tmp 8) _ rfl w.heap.size (VerC 2 m) _ _ rfl rfl hu.has.1.1 rfl info_verd (by intro v hv; simp at hv; rcases hv with rfl | rfl <;> rfl) ?_; intro x7 hg7 hs7 hR7)
                    refine bodyPost_ret (results_cell_row Tryz.results25 _ _ w.heap.size _ _ (0, 0) _ rfl hR7 Tryz.underlying65 rfl info_verd) rfl ⟨by rw [HT.out], hu.up.grown hg7 hu.up.size (fun k hk => by cases hk; exact Nat.le_refl _)⟩
                · rw [show steps[K]? = none from List.getElem?_eq_none (by omega)] at htr2
                  have HT := Lib.hid (show D = (2, (m : Int)) from htr2.symm)
                  have hd4 : decide (M + 1 ≤ K) = true := decide_eq_true (by omega)
                  have hd5 : ((M : Int) + 1 ≤ (K : Int)) := by omega
                  have hd6 : decide ((M : Int) + 1 ≤ (K : Int)) = true := decide_eq_true (by omega)
                  clear htr2 hC hext hpm him hK
                  go_wp2_with fail
                  try change Code.wp _ _ _ (Act.mk _ _) _
                  refine wp_region_runR Ext 22 109 (HoldT (fun u => TrC w #[.int .u64 e.x, .slice a9 e.box.length c9] u ∧ SeesB u (.slice a9 e.box.length c9) e.box) _) [[], [], [(1, 74)], [(0, 73), (2, 75)], [(3, 76)], [(4, 77)], [(4, 77)], [(5, 78), (6, 79), (4, 77)], [(7, 80), (4, 77)], [(4, 77)], [(4, 77)], [(4, 77)], [(10, 83), (11, 84), (4, 77)], [(12, 85), (4, 77)], [(4, 77)], [(4, 77)], [(4, 77)], [(15, 88), (16, 89), (4, 77)], [(17, 90), (4, 77)], [(8, 81), (9, 82), (13, 86), (14, 87), (18, 91), (4, 77)], [(19, 92), (4, 77)], [(4, 77), (20, 93)]] [(0, 73), (1, 74), (2, 75), (3, 76), (4, 77), (5, 78), (6, 79), (7, 80), (8, 81), (9, 82), (10, 83), (11, 84), (12, 85), (13, 86), (14, 87), (15, 88), (16, 89), (17, 90), (18, 91), (19, 92), (20, 93), (21, 94)] (by kernel_rfl) (by kernel_rfl) (by first | rfl | simp) (hkr) ?_
                  simp only [List.take_succ_cons, List.take_zero, List.drop_succ_cons, List.drop_zero]
                  refine sp_op (Ph.eq _) (fun u hu => by
                    refine spArg_nil ?_
                    go_wp2_with (fail)
                    exact ⟨rfl, hu, Ext.refl _, slot_eq rfl⟩) ?_
                  refine sp_op (Ph.eq _) (fun u hu => by
                    refine spArg_nil ?_
                    go_wp2_with (fail)
                    exact ⟨rfl, hu, Ext.refl _, slot_eq rfl⟩) ?_
                  refine sp_op (Ph.eq _) (fun u hu => by
                    refine spArg_eq 0 rfl rfl ?_
                    refine spArg_nil ?_
                    simp only [Act.put, List.setIfInBounds_toArray, List.set_cons_succ, List.set_cons_zero]
                    go_wp2_with (fail)
                    exact ⟨rfl, hu, Ext.refl _, slot_eq rfl⟩) ?_
                  refine sp_op (Ph.eq _) (fun u hu => by
                    refine spArg_eq 2 rfl rfl ?_
                    refine spArg_eq 0 rfl rfl ?_
                    refine spArg_nil ?_
                    simp only [Act.put, List.setIfInBounds_toArray, List.set_cons_succ, List.set_cons_zero]
                    go_wp2_with (fail)
                    exact ⟨rfl, hu, Ext.refl _, slot_eq rfl⟩) ?_
                  refine sp_op (Ph.eq _) (fun u hu => by
                    refine spArg_eq 0 rfl rfl ?_
                    refine spArg_nil ?_
                    simp only [Act.put, List.setIfInBounds_toArray, List.set_cons_succ, List.set_cons_zero]
                    go_wp2_with (fail)
                    exact ⟨rfl, hu, Ext.refl _, slot_eq rfl⟩) ?_
                  refine sp_op (Ph.eq _) (fun u hu => by
                    refine spArg_eq 0 rfl rfl ?_
                    refine spArg_nil ?_
                    simp only [Act.put, List.setIfInBounds_toArray, List.set_cons_succ, List.set_cons_zero]
                    go_wp2_with (fail)
                    exact ⟨rfl, hu, Ext.refl _, slot_eq rfl⟩) ?_
                  refine sp_op (Ph.eq _) (fun u hu => by
                    refine spArg_eq 1 rfl rfl ?_
                    refine spArg_nil ?_
                    simp only [Act.put, List.setIfInBounds_toArray, List.set_cons_succ, List.set_cons_zero]
                    go_wp2_with (fail)
                    exact ⟨rfl, hu, Ext.refl _, slot_eq rfl⟩) ?_
                  refine sp_op (Ph.eq _) (fun u hu => by
                    refine spArg_eq 1 rfl rfl ?_
                    refine spArg_eq 0 rfl rfl ?_
                    refine spArg_eq 2 rfl rfl ?_
                    refine spArg_nil ?_
                    simp only [Act.put, List.setIfInBounds_toArray, List.set_cons_succ, List.set_cons_zero]
                    go_wp2_with (fail)
                    exact ⟨rfl, hu, Ext.refl _, slot_eq rfl⟩) ?_
                  refine sp_op (Ph.eq _) (fun u hu => by
                    refine spArg_eq 0 rfl rfl ?_
                    refine spArg_eq 3 rfl rfl ?_
                    refine spArg_nil ?_
                    simp only [Act.put, List.setIfInBounds_toArray, List.set_cons_succ, List.set_cons_zero]
                    go_wp2_with (fail)
                    exact ⟨rfl, hu, Ext.refl _, slot_eq rfl⟩) ?_
                  refine sp_op (Ph.eq _) (fun u hu => by
                    refine spArg_eq 4 rfl rfl ?_
                    refine spArg_nil ?_
                    simp only [Act.put, List.setIfInBounds_toArray, List.set_cons_succ, List.set_cons_zero]
                    go_wp2_with (fail)
                    exact ⟨rfl, hu, Ext.refl _, slot_eq rfl⟩) ?_
                  refine sp_op (Ph.eq _) (fun u hu => by
                    refine spArg_eq 5 rfl rfl ?_
                    refine spArg_nil ?_
                    simp only [Act.put, List.setIfInBounds_toArray, List.set_cons_succ, List.set_cons_zero]
                    go_wp2_with (fail)
                    exact ⟨rfl, hu, Ext.refl _, slot_eq rfl⟩) ?_
                  refine sp_op (Ph.eq _) (fun u hu => by
                    refine spArg_eq 6 rfl rfl ?_
                    refine spArg_nil ?_
                    simp only [Act.put, List.setIfInBounds_toArray, List.set_cons_succ, List.set_cons_zero]
                    go_wp2_with (fail)
                    exact ⟨rfl, hu, Ext.refl _, slot_eq rfl⟩) ?_
                  refine sp_op (Ph.eq _) (fun u hu => by
                    refine spArg_eq 1 rfl rfl ?_
                    refine spArg_eq 0 rfl rfl ?_
                    refine spArg_eq 7 rfl rfl ?_
                    refine spArg_nil ?_
                    simp only [Act.put, List.setIfInBounds_toArray, List.set_cons_succ, List.set_cons_zero]
                    go_wp2_with (fail)
                    exact ⟨rfl, hu, Ext.refl _, slot_eq rfl⟩) ?_
                  refine sp_op (Ph.eq _) (fun u hu => by
                    refine spArg_eq 0 rfl rfl ?_
                    refine spArg_eq 8 rfl rfl ?_
                    refine spArg_nil ?_
                    simp only [Act.put, List.setIfInBounds_toArray, List.set_cons_succ, List.set_cons_zero]
                    go_wp2_with (fail)
                    exact ⟨rfl, hu, Ext.refl _, slot_eq rfl⟩) ?_
                  refine sp_op (Ph.eq _) (fun u hu => by
                    refine spArg_eq 9 rfl rfl ?_
                    refine spArg_nil ?_
                    simp only [Act.put, List.setIfInBounds_toArray, List.set_cons_succ, List.set_cons_zero]
                    go_wp2_with (fail)
                    exact ⟨rfl, hu, Ext.refl _, slot_eq rfl⟩) ?_
                  refine sp_op (Ph.eq _) (fun u hu => by
                    refine spArg_eq 10 rfl rfl ?_
                    refine spArg_nil ?_
                    simp only [Act.put, List.setIfInBounds_toArray, List.set_cons_succ, List.set_cons_zero]
                    go_wp2_with (fail)
                    exact ⟨rfl, hu, Ext.refl _, slot_eq rfl⟩) ?_
                  refine sp_op (Ph.eq _) (fun u hu => by
                    refine spArg_eq 11 rfl rfl ?_
                    refine spArg_nil ?_
                    simp only [Act.put, List.setIfInBounds_toArray, List.set_cons_succ, List.set_cons_zero]
                    go_wp2_with (fail)
                    exact ⟨rfl, hu, Ext.refl _, slot_eq rfl⟩) ?_
                  refine sp_op (Ph.eq _) (fun u hu => by
                    refine spArg_eq 1 rfl rfl ?_
                    refine spArg_eq 0 rfl rfl ?_
                    refine spArg_eq 12 rfl rfl ?_
                    refine spArg_nil ?_
                    simp only [Act.put, List.setIfInBounds_toArray, List.set_cons_succ, List.set_cons_zero]
                    go_wp2_with (fail)
                    exact ⟨rfl, hu, Ext.refl _, slot_eq rfl⟩) ?_
                  refine sp_op (Ph.eq _) (fun u hu => by
                    refine spArg_eq 0 rfl rfl ?_
                    refine spArg_eq 13 rfl rfl ?_
                    refine spArg_nil ?_
                    simp only [Act.put, List.setIfInBounds_toArray, List.set_cons_succ, List.set_cons_zero]
                    go_wp2_with (fail)
                    exact ⟨rfl, hu, Ext.refl _, slot_eq rfl⟩) ?_
                  refine sp_op (Ph.eq _) (fun u hu => by
                    refine spArg_eq 10 rfl rfl ?_
                    refine spArg_eq 9 rfl rfl ?_
                    refine spArg_eq 5 rfl rfl ?_
                    refine spArg_eq 4 rfl rfl ?_
                    refine spArg_eq 0 rfl rfl ?_
                    refine spArg_eq 14 rfl rfl ?_
                    refine spArg_nil ?_
                    simp only [Act.put, List.setIfInBounds_toArray, List.set_cons_succ, List.set_cons_zero]
                    go_wp2_with (fail)
                    exact ⟨rfl, hu, Ext.refl _, slot_eq rfl⟩) ?_
                  refine sp_op (Ph.eq _) (fun u hu => by
                    refine spArg_eq 0 rfl rfl ?_
                    refine spArg_eq 15 rfl rfl ?_
                    refine spArg_nil ?_
                    simp only [Act.put, List.setIfInBounds_toArray, List.set_cons_succ, List.set_cons_zero]
                    go_wp2_with (fail)
                    exact ⟨rfl, hu, Ext.refl _, slot_eq rfl⟩) ?_
                  refine sp_op (Ph.eq _) (fun u hu => by
                    refine spArg_eq 16 rfl rfl ?_
                    refine spArg_eq 0 rfl rfl ?_
                    refine spArg_nil ?_
                    simp only [Act.put, List.setIfInBounds_toArray, List.set_cons_succ, List.set_cons_zero]
                    go_wp2_with (fail)
                    exact ⟨rfl, hu, Ext.refl _, slot_eq rfl⟩) ?_
                  refine sp_end ?_
                  intro u hu
                  refine spArg_eq 21 rfl rfl ?_
                  refine spArg_eq 20 rfl rfl ?_
                  refine spArg_eq 19 rfl rfl ?_
                  refine spArg_eq 18 rfl rfl ?_
                  refine spArg_eq 17 rfl rfl ?_
                  refine spArg_eq 16 rfl rfl ?_
                  refine spArg_eq 15 rfl rfl ?_
                  refine spArg_eq 14 rfl rfl ?_
                  refine spArg_eq 13 rfl rfl ?_
                  refine spArg_eq 12 rfl rfl ?_
                  refine spArg_eq 11 rfl rfl ?_
                  refine spArg_eq 10 rfl rfl ?_
                  refine spArg_eq 9 rfl rfl ?_
                  refine spArg_eq 8 rfl rfl ?_
                  refine spArg_eq 7 rfl rfl ?_
                  refine spArg_eq 6 rfl rfl ?_
                  refine spArg_eq 5 rfl rfl ?_
                  refine spArg_eq 4 rfl rfl ?_
                  refine spArg_eq 3 rfl rfl ?_
                  refine spArg_eq 2 rfl rfl ?_
                  refine spArg_eq 1 rfl rfl ?_
                  refine spArg_eq 0 rfl rfl ?_
                  refine spArg_nil ?_
                  simp only [Act.put, List.setIfInBounds_toArray, List.set_cons_succ, List.set_cons_zero]
                  go_wp2_with (refine wpList_store_row rfl 65 (.tmp 8) _ rfl w.heap.size (VerC 2 m) _ _ rfl rfl hu.has.1.1 rfl info_verd (by intro v hv; simp at hv; rcases hv with rfl | rfl <;> rfl) ?_; intro x7 hg7 hs7 hR7)
                  refine bodyPost_ret (results_cell_row Tryz.results25 _ _ w.heap.size _ _ (0, 0) _ rfl hR7 Tryz.underlying65 rfl info_verd) rfl ⟨by rw [HT.out], hu.up.grown hg7 hu.up.size (fun k hk => by cases hk; exact Nat.le_refl _)⟩
          · rw [if_neg hf] at hT2
            simp only [decide_eq_false hf] at hFA
            have HT := Lib.hid hT2
            have HFA := Lib.hid hFA
            clear hT2 hFA hf
            rw [hM]
            clear hM
            go_enter Tryz.func25, Tryz.ntmps25
            go_wp2_with fail
            clear r0 r1 hva0
            have hst := stabTrC w #[.int .u64 e0.x, .slice ae e0.box.length ce]
            have hk : HoldT (TrC w #[.int .u64 e0.x, .slice ae e0.box.length ce]) w ((w.alloc (.cells (VerC 0 0) 65)).alloc (.cells #[.int .u64 e0.x, .slice ae e0.box.length ce] 32)).drew := HoldT.drew hst ⟨⟨hR0.out.alloc _, Blk.new2 w _ _ _⟩, by go_grown⟩
            try change Code.wp _ _ _ (Act.mk _ _) _
            refine wp_region_runR Ext 16 109 (HoldT (TrC w #[.int .u64 e0.x, .slice ae e0.box.length ce]) _) [[], [(0, 46)], [(1, 47)], [(2, 48)], [(3, 49)], [(3, 49)], [(4, 50), (5, 51), (3, 49)], [(6, 52), (3, 49)], [(3, 49)], [(3, 49)], [(3, 49)], [(10, 56), (3, 49)], [(11, 57), (3, 49)], [(7, 53), (8, 54), (9, 55), (12, 58), (3, 49)], [(13, 59), (3, 49)], [(3, 49), (14, 60)]] [(0, 46), (1, 47), (2, 48), (3, 49), (4, 50), (5, 51), (6, 52), (7, 53), (8, 54), (9, 55), (10, 56), (11, 57), (12, 58), (13, 59), (14, 60), (15, 61)] (by kernel_rfl) (by kernel_rfl) (by first | rfl | simp) (hk) ?_
            simp only [List.take_succ_cons, List.take_zero, List.drop_succ_cons, List.drop_zero]
            refine sp_op (Ph.eq _) (fun u hu => by
              refine spArg_nil ?_
              go_wp2_with (fail)
              exact ⟨rfl, hu, Ext.refl _, slot_eq rfl⟩) ?_
            refine sp_op (Ph.eq _) (fun u hu => by
              refine spArg_eq 0 rfl rfl ?_
              refine spArg_nil ?_
              simp only [Act.put, List.setIfInBounds_toArray, List.set_cons_succ, List.set_cons_zero]
              go_wp2_with (fail)
              exact ⟨rfl, hu, Ext.refl _, slot_eq rfl⟩) ?_
            refine sp_op (Ph.eq _) (fun u hu => by
              refine spArg_eq 0 rfl rfl ?_
              refine spArg_nil ?_
              simp only [Act.put, List.setIfInBounds_toArray, List.set_cons_succ, List.set_cons_zero]
              go_wp2_with (fail)
              exact ⟨rfl, hu, Ext.refl _, slot_eq rfl⟩) ?_
            refine sp_op (Ph.eq _) (fun u hu => by
              refine spArg_eq 0 rfl rfl ?_
              refine spArg_nil ?_
              simp only [Act.put, List.setIfInBounds_toArray, List.set_cons_succ, List.set_cons_zero]
              go_wp2_with (fail)
              exact ⟨rfl, hu, Ext.refl _, slot_eq rfl⟩) ?_
            refine sp_op (Ph.eq _) (fun u hu => by
              refine spArg_eq 0 rfl rfl ?_
              refine spArg_nil ?_
              simp only [Act.put, List.setIfInBounds_toArray, List.set_cons_succ, List.set_cons_zero]
              go_wp2_with (fail)
              exact ⟨rfl, hu, Ext.refl _, slot_eq rfl⟩) ?_
            refine sp_op (Ph.eq _) (fun u hu => by
              refine spArg_eq 1 rfl rfl ?_
              refine spArg_nil ?_
              simp only [Act.put, List.setIfInBounds_toArray, List.set_cons_succ, List.set_cons_zero]
              go_wp2_with (fail)
              exact ⟨rfl, hu, Ext.refl _, slot_eq rfl⟩) ?_
            refine sp_op (Ph.eq _) (fun u hu => by
              refine spArg_eq 1 rfl rfl ?_
              refine spArg_eq 0 rfl rfl ?_
              refine spArg_eq 2 rfl rfl ?_
              refine spArg_nil ?_
              simp only [Act.put, List.setIfInBounds_toArray, List.set_cons_succ, List.set_cons_zero]
              go_wp2_with (fail)
              exact ⟨rfl, hu, Ext.refl _, slot_eq rfl⟩) ?_
            refine sp_op (Ph.eq _) (fun u hu => by
              refine spArg_eq 0 rfl rfl ?_
              refine spArg_eq 3 rfl rfl ?_
              refine spArg_nil ?_
              simp only [Act.put, List.setIfInBounds_toArray, List.set_cons_succ, List.set_cons_zero]
              go_wp2_with ((refine wpList_load_midG rfl 60 _ rfl bP (oP + H * 10) rfl _ _ (range_below HPR.out hu.up) Tryz.underlying60 rfl info_pub ?_))
              exact ⟨rfl, hu, Ext.refl _, slot_eq rfl⟩) ?_
            refine sp_op (Ph.eq _) (fun u hu => by
              refine spArg_eq 4 rfl rfl ?_
              refine spArg_nil ?_
              simp only [Act.put, List.setIfInBounds_toArray, List.set_cons_succ, List.set_cons_zero]
              go_wp2_with (fail)
              exact ⟨rfl, hu, Ext.refl _, slot_eq rfl⟩) ?_
            refine sp_op (Ph.eq _) (fun u hu => by
              refine spArg_eq 5 rfl rfl ?_
              refine spArg_nil ?_
              simp only [Act.put, List.setIfInBounds_toArray, List.set_cons_succ, List.set_cons_zero]
              go_wp2_with ((refine wpList_load_rowG rfl 32 _ rfl (w.heap.size + 1) rfl _ _ (0, 0) _ hu.has.2 Tryz.underlying32 rfl info_entry ?_))
              exact ⟨rfl, hu, Ext.refl _, slot_eq rfl⟩) ?_
            refine sp_op (Ph.eq _) (fun u hu => by
              refine spArg_eq 6 rfl rfl ?_
              refine spArg_nil ?_
              simp only [Act.put, List.setIfInBounds_toArray, List.set_cons_succ, List.set_cons_zero]
              go_wp2_with (fail)
              exact ⟨rfl, hu, Ext.refl _, slot_eq rfl⟩) ?_
            refine sp_op (Ph.eq _) (fun u hu => by
              refine spArg_eq 0 rfl rfl ?_
              refine spArg_eq 7 rfl rfl ?_
              refine spArg_nil ?_
              simp only [Act.put, List.setIfInBounds_toArray, List.set_cons_succ, List.set_cons_zero]
              go_wp2_with (fail)
              exact ⟨rfl, hu, Ext.refl _, slot_eq rfl⟩) ?_
            refine sp_op (Ph.eq _) (fun u hu => by
              refine spArg_eq 0 rfl rfl ?_
              refine spArg_eq 8 rfl rfl ?_
              refine spArg_nil ?_
              simp only [Act.put, List.setIfInBounds_toArray, List.set_cons_succ, List.set_cons_zero]
              go_wp2_with ((refine wpList_load_midG rfl 57 _ rfl bS oS rfl _ _ (range_below HRT0.out hu.up) Tryz.underlying57 rfl info_stp ?_))
              exact ⟨rfl, hu, Ext.refl _, slot_eq rfl⟩) ?_
            refine sp_op (Ph.eq _) (fun u hu => by
              refine spArg_eq 5 rfl rfl ?_
              refine spArg_eq 4 rfl rfl ?_
              refine spArg_eq 3 rfl rfl ?_
              refine spArg_eq 0 rfl rfl ?_
              refine spArg_eq 9 rfl rfl ?_
              refine spArg_nil ?_
              simp only [Act.put, List.setIfInBounds_toArray, List.set_cons_succ, List.set_cons_zero]
              go_wp2_with ((go_at_call 29; refine (HFA.out _ (HVE0.out.below hu.up (by decide)) (HVT0.out.below hu.up (by decide))).mono ?_; rintro e x1 ⟨rfl, hb1⟩))
              exact ⟨rfl, HoldT.step hst hu hb1, hb1, slot_eq rfl⟩) ?_
            refine sp_op (Ph.eq _) (fun u hu => by
              refine spArg_eq 0 rfl rfl ?_
              refine spArg_eq 10 rfl rfl ?_
              refine spArg_nil ?_
              simp only [Act.put, List.setIfInBounds_toArray, List.set_cons_succ, List.set_cons_zero]
              go_wp2_with (fail)
              exact ⟨rfl, hu, Ext.refl _, slot_eq rfl⟩) ?_
            refine sp_op (Ph.eq _) (fun u hu => by
              refine spArg_eq 11 rfl rfl ?_
              refine spArg_eq 0 rfl rfl ?_
              refine spArg_nil ?_
              simp only [Act.put, List.setIfInBounds_toArray, List.set_cons_succ, List.set_cons_zero]
              go_wp2_with (fail)
              exact ⟨rfl, hu, Ext.refl _, slot_eq rfl⟩) ?_
            refine sp_end ?_
            intro u hu
            refine spArg_eq 15 rfl rfl ?_
            refine spArg_eq 14 rfl rfl ?_
            refine spArg_eq 13 rfl rfl ?_
            refine spArg_eq 12 rfl rfl ?_
            refine spArg_eq 11 rfl rfl ?_
            refine spArg_eq 10 rfl rfl ?_
            refine spArg_eq 9 rfl rfl ?_
            refine spArg_eq 8 rfl rfl ?_
            refine spArg_eq 7 rfl rfl ?_
            refine spArg_eq 6 rfl rfl ?_
            refine spArg_eq 5 rfl rfl ?_
            refine spArg_eq 4 rfl rfl ?_
            refine spArg_eq 3 rfl rfl ?_
            refine spArg_eq 2 rfl rfl ?_
            refine spArg_eq 1 rfl rfl ?_
            refine spArg_eq 0 rfl rfl ?_
            refine spArg_nil ?_
            simp only [Act.put, List.setIfInBounds_toArray, List.set_cons_succ, List.set_cons_zero]
            go_wp2_with (refine wpList_store_row rfl 65 (.tmp 8) _ rfl w.heap.size (VerC 2 H) _ _ rfl rfl hu.has.1 rfl info_verd (by intro v hv; simp at hv; rcases hv with rfl | rfl <;> rfl) ?_; intro x7 hg7 hs7 hR7)
            refine bodyPost_ret (results_cell_row Tryz.results25 _ _ w.heap.size _ _ (0, 0) _ rfl hR7 Tryz.underlying65 rfl info_verd) rfl ⟨by rw [HT.out], hu.up.grown hg7 hu.up.size (fun k hk => by cases hk; exact Nat.le_refl _)⟩
      · rw [if_neg hr] at hT
        have HF := Lib.hid hT; clear hT
        generalize traceL l lists at_ steps = D at *
        have hd1 : ¬ (l.length : Int) < (H : Int) + 1 := by omega
        have hva0 := (hb0.out.cell (World.block_lt_of_cell? w _ hva)).trans hva
        rw [hH]
        by_cases h3 : at_ < 0
        · skip
          clear hlo hso hlso
          go_enter Tryz.func25, Tryz.ntmps25
          go_wp2_with (refine wpList_store_row rfl 65 (.tmp 8) _ rfl w.heap.size (VerC 0 0) _ _ rfl rfl hR0.out rfl info_verd (by intro v hv; simp at hv; rcases hv with rfl | rfl <;> rfl) ?_; intro x7 hg7 hs7 hR7)
          refine bodyPost_ret (results_cell_row Tryz.results25 _ _ w.heap.size _ _ (0, 0) _ rfl hR7 Tryz.underlying65 rfl info_verd) rfl ⟨by rw [HF.out], hb0.out.grown hg7 hb0.out.size (fun k hk => by cases hk; exact Nat.le_refl _)⟩
        · have h4 : (last.length : Int) ≤ at_ := by omega
          clear hlo hso hlso
          go_enter Tryz.func25, Tryz.ntmps25
          go_wp2_with (refine wpList_store_row rfl 65 (.tmp 8) _ rfl w.heap.size (VerC 0 0) _ _ rfl rfl hR0.out rfl info_verd (by intro v hv; simp at hv; rcases hv with rfl | rfl <;> rfl) ?_; intro x7 hg7 hs7 hR7)
          refine bodyPost_ret (results_cell_row Tryz.results25 _ _ w.heap.size _ _ (0, 0) _ rfl hR7 Tryz.underlying65 rfl info_verd) rfl ⟨by rw [HF.out], hb0.out.grown hg7 hb0.out.size (fun k hk => by cases hk; exact Nat.le_refl _)⟩
    · have HF := Lib.hid (show traceL l lists at_ steps = (0, 0) by
        unfold traceL
        rw [show l[lists.length - 1]? = none from List.getElem?_eq_none (by omega)]
        cases lists.getLast? <;> rfl)
      generalize traceL l lists at_ steps = D at *
      have hd1 : (l.length : Int) < (H : Int) + 1 := by omega
      rw [hH]
      clear hlo hso hlso
      go_enter Tryz.func25, Tryz.ntmps25
      go_wp2_with (refine wpList_store_row rfl 65 (.tmp 8) _ rfl w.heap.size (VerC 0 0) _ _ rfl rfl hR0.out rfl info_verd (by intro v hv; simp at hv; rcases hv with rfl | rfl <;> rfl) ?_; intro x7 hg7 hs7 hR7)
      refine bodyPost_ret (results_cell_row Tryz.results25 _ _ w.heap.size _ _ (0, 0) _ rfl hR7 Tryz.underlying65 rfl info_verd) rfl ⟨by rw [HF.out], hb0.out.grown hg7 hb0.out.size (fun k hk => by cases hk; exact Nat.le_refl _)⟩
end Go.Proofs.YtnmniblaefjekaaGreat
