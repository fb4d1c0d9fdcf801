/-
  A pass checked: the program.
  A pass checked: the reference.
-/
import Derived.Test.YtmbgcjfmfkddpaaGreatHal2
namespace Go.Proofs.YtmbgcjfmfkddpaaGreat
set_option linter.unusedVariables false
set_option linter.unusedSimpArgs false
open Go Go.RowKit

/-- One entry of a pass, beside what came in. -/
def chkE (ins : List Ent) (e : Ent) : Bool := decide (okP e.x) && (match ins[0]? with | some e0 => decide (e.box.length + 16 = e0.box.length) | none => false)
def checkB (p : Pub) (ins : List Ent) (x : Pas) : Bool := decide (x.es.length = ins.length) && x.es.all (chkE ins) && decide (equalOk p.base p.blind (prodE ins) (prodE x.es) x.p.c x.p.s)
theorem all_take_succ {L : List Ent} {f : Ent → Bool} {n : Nat} {e : Ent} (h : (L.take n).all f = true) (he : L[n]? = some e) (hf : f e = true) : (L.take (n + 1)).all f = true := by
  rw [← take_succ_of he, List.all_append, h]; simp [hf]
theorem all_false {L : List Ent} {f : Ent → Bool} {n : Nat} {e : Ent} (he : L[n]? = some e) (hf : f e = false) : L.all f = false := by
  rw [List.all_eq_false]
  exact ⟨e, List.mem_of_getElem? he, by rw [hf]; decide⟩
theorem chkE_some {ins : List Ent} {e e0 : Ent} (h0 : ins[0]? = some e0) : chkE ins e = (decide (okP e.x) && decide (e.box.length + 16 = e0.box.length)) := by unfold chkE; rw [h0]
/-- The boxes of such a call. -/
def CkC (w : World) (PC XC : Array Value) (u : World) : Prop := Blk u w.heap.size PC 49 ∧ Blk u (w.heap.size + 1) XC 45
theorem CkC.below {w u u' : World} {PC XC : Array Value} (h : CkC w PC XC u) (e : Ext u u') : CkC w PC XC u' := ⟨h.1.below e, h.2.below e⟩
theorem pas_cell {u : World} {g : Nat} {a : Option Addr} {n c : Nat} {x y : Int} {t : TypeId} (h : Blk u g #[.slice a n c, .int .u64 x, .int .u64 y] t) : u.cell? ⟨g, 0, none⟩ = some (.slice a n c) ∧ u.cell? ⟨g, 1, none⟩ = some (.int .u64 x) ∧ u.cell? ⟨g, 2, none⟩ = some (.int .u64 y) :=
  ⟨by rw [h.cell]; rfl, by rw [h.cell]; rfl, by rw [h.cell]; rfl⟩
theorem pas_prf2 {u : World} {g : Nat} {a : Option Addr} {n c : Nat} {x y : Int} {t : TypeId} (h : Blk u g #[.slice a n c, .int .u64 x, .int .u64 y] t) : u.rangeAt g 1 [.int .u64 x, .int .u64 y] := fun j v hj => by
  rcases j with _ | _ | j
  · cases hj; rw [h.cell]; rfl
  · cases hj; rw [h.cell]; rfl
  · simp at hj
set_option maxRecDepth 100000 in
set_option maxHeartbeats 4000000 in
theorem HCheck_any (p : Pub) (ins : List Ent) (x : Pas) (B : Nat) (vi vx : Value) (w : World) (hp : p.ok) (hc : x.p.ok) (hi : SlR entR B w vi ins) (hx : SlR entR B w vx x.es)
    (hio : ∀ e ∈ ins, e.ok) (hxo : ∀ e ∈ x.es, e.ok ∧ e.box.length ≤ 20000000000000) (hil : ins.length ≤ 1000000) :
    Calls Tryz.prog 13 #[.agg p.cells.toArray, vi, .agg #[vx, .int .u64 x.p.c, .int .u64 x.p.s]] w fun e w' => e = .returned (.bool (checkB p ins x)) ∧ Below w.heap.size w w' := by
  obtain ⟨es, pc, ps⟩ := x
  simp only at hx hxo hc ⊢
  obtain ⟨ai, ci, rfl, hci, -⟩ := hi.form
  obtain ⟨ax, cx, rfl, hcx, -⟩ := hx.form
  have HI := Lib.hid hi; have HX0 := Lib.hid hx; have HIO := Lib.hid hio; have HXO := Lib.hid hxo; have HPO := Lib.hid hp; have HCO := Lib.hid hc
  clear hi hx hio hxo hp hc
  have HC0 := Lib.hid (show CkC w p.cells.toArray #[.slice ax es.length cx, .int .u64 pc, .int .u64 ps] ((w.alloc (.cells p.cells.toArray 49)).alloc (.cells #[.slice ax es.length cx, .int .u64 pc, .int .u64 ps] 45)) from ⟨(Blk.new _ _ _).alloc _, Blk.new2 _ _ _ _⟩)
  have hb0 := Lib.hid (show Ext w ((w.alloc (.cells p.cells.toArray 49)).alloc (.cells #[.slice ax es.length cx, .int .u64 pc, .int .u64 ps] 45)) from (Ext.alloc _ _).tr (Ext.alloc _ _))
  have HCB := Lib.hid (show checkB p ins ⟨es, ⟨pc, ps⟩⟩ = (decide (es.length = ins.length) && es.all (chkE ins) && decide (equalOk p.base p.blind (prodE ins) (prodE es) pc ps)) from rfl)
  generalize checkB p ins ⟨es, ⟨pc, ps⟩⟩ = CB at *
  have hq0 := pas_cell HC0.out.2
  by_cases hll : es.length = ins.length
  · have HLL := Lib.hid hll
    have hne0 : ((es.length : Int) != (ins.length : Int)) = false := by rw [hll]; exact bne_self_eq_false _
    have hel : es.length ≤ 1000000 := by omega
    have hcb := HCB.out
    rw [decide_eq_true hll, Bool.true_and] at hcb
    have HCC := Lib.hid hcb
    clear HCB hcb hll
    go_enter Tryz.func13, Tryz.ntmps13
    go_wp2_with fail
    clear hq0
    go_loopw [8, 18] (fun _ iv wr => ∃ n : Nat, iv = .int .i64 n ∧ n ≤ es.length ∧ (es.take n).all (chkE ins) = true ∧ CkC w p.cells.toArray #[.slice ax es.length cx, .int .u64 pc, .int .u64 ps] wr ∧ Ext w wr) (fun _ iv _ => es.length - (intOf iv).toNat)
    case atStart => exact ⟨0, rfl, Nat.zero_le _, rfl, HC0.out, hb0.out⟩
    case round =>
      obtain ⟨n, rfl, hn, ha, hCC, hX⟩ := hrel
      have HX := Lib.hid hX; have HCK := Lib.hid hCC; have HA := Lib.hid ha
      clear hX hCC ha
      by_cases hlt : n < es.length
      · obtain ⟨bx, ox, cx', e1, -, -⟩ := HX0.out.open (by omega)
        obtain ⟨rfl, rfl⟩ : ax = some ⟨bx, ox, none⟩ ∧ cx = cx' := by injection e1 with e1 _ e3; exact ⟨e1, e3⟩
        clear e1
        obtain ⟨bi, oi, ci', e1, -, -⟩ := HI.out.open (by have := HLL.out; omega)
        obtain ⟨rfl, rfl⟩ : ai = some ⟨bi, oi, none⟩ ∧ ci = ci' := by injection e1 with e1 _ e3; exact ⟨e1, e3⟩
        clear e1
        obtain ⟨e, he⟩ : ∃ e, es[n]? = some e := ⟨_, List.getElem?_eq_getElem hlt⟩
        obtain ⟨e0, he0⟩ : ∃ e, ins[0]? = some e := ⟨_, List.getElem?_eq_getElem (by have := HLL.out; omega)⟩
        obtain ⟨ve, hrg, hve⟩ := slE_at (HX0.out.ext HX.out) n e he
        obtain ⟨ae, ce, rfl, -, -⟩ := sees_form hve
        obtain ⟨v0, hrg0, hv0⟩ := slE_at (HI.out.ext HX.out) 0 e0 he0
        obtain ⟨a0, c0, rfl, -, -⟩ := sees_form hv0
        obtain ⟨⟨hx0, hx1⟩, hbl⟩ := HXO.out e (List.mem_of_getElem? he)
        have hil0 : 0 < ins.length := by have := HLL.out; omega
        have hcE := chkE_some (e := e) he0
        have hz := hrg0 1 _ rfl
        rw [show oi + 0 * 2 + 1 = oi + 1 from by omega] at hz
        have HZ := Lib.hid hz
        have HRG := Lib.hid hrg; have HE := Lib.hid he
        clear hrg hve hrg0 hv0 hz he he0
        go_wp2_with (first
          | (refine wpList_load_mid rfl 36 (.tmp 20) rfl bx (ox + n * 2) rfl _ _ HRG.out Tryz.underlying36 rfl info_entry ?_)
          | (refine wpList_allocB rfl _ rfl _ run_allocEnt ?_; intro x3 B3 hh3 hB3 e3)
          | (refine wpList_store_row rfl 36 (.tmp 8) _ rfl B3 #[.int .u64 e.x, .slice ae e.box.length ce] _ _ rfl rfl hh3 rfl info_entry (one_ent _ _ _ _) ?_; intro x4 hg4 hs4 hR4
             have e4 : Ext wr x4 := ext_rowK e3 hg4 hB3
             clear hs4))
        have HR4 := Lib.hid hR4
        clear hR4 hg4 hh3
        have hst := stabE x4
        have hup4 : Ext w x4 := Ext.tr HX.out e4
        have hk6 : HoldT (fun u => Ext x4 u) w x4.drew := HoldT.drew hst ⟨Ext.refl _, hup4⟩
        have HRT := Lib.hid fun (u : World) => Right_any e.x u hx0 hx1
        have HZ4 := Lib.hid ((Below.cell e4 (World.block_lt_of_cell? _ _ HZ.out)).trans HZ.out)
        have HC4 := Lib.hid (HCK.out.below e4); have HX4 := Lib.hid hup4
        clear HZ HRG
        by_cases hok : okP e.x
        · rw [decide_eq_true hok] at HRT
          by_cases hbx : e.box.length + 16 = e0.box.length
          · have hne : ((e.box.length : Int) + 16 != (e0.box.length : Int)) = false := by rw [← hbx]; rw [Int.natCast_add]; exact bne_self_eq_false _
            have HA2 := Lib.hid (all_take_succ HA.out HE.out (by rw [hcE, decide_eq_true hok, decide_eq_true hbx]; rfl))
            clear hok hbx hcE
            try change Code.wp _ _ _ (Act.mk _ _) _
            refine wp_region_runR Ext 16 51 (HoldT (fun u => Ext x4 u) _) [[], [(0, 22)], [(1, 23)], [(2, 24)], [(3, 25)], [(4, 26)], [(5, 27), (4, 26)], [(6, 28), (4, 26)], [(7, 29), (4, 26)], [(4, 26)], [(9, 31), (4, 26)], [(10, 32), (4, 26)], [(11, 33), (4, 26)], [(12, 34), (4, 26)], [(8, 30), (13, 35), (4, 26)], [(4, 26), (14, 36)]] [(0, 22), (1, 23), (2, 24), (3, 25), (4, 26), (5, 27), (6, 28), (7, 29), (8, 30), (9, 31), (10, 32), (11, 33), (12, 34), (13, 35), (14, 36), (15, 37)] (by kernel_rfl) (by kernel_rfl) (by first | rfl | simp) (hk6) ?_
            simp only [List.take_succ_cons, List.take_zero, List.drop_succ_cons, List.drop_zero]
            refine sp_op (Ph.eq _) (fun u hu => by
              refine spArg_nil ?_
              have k1 : u.cell? ⟨B3, 0, none⟩ = some (.int .u64 e.x) := by rw [(HR4.out.below hu.has).cell]; rfl
              have k2 : u.cell? ⟨B3, 1, none⟩ = some (.slice ae e.box.length ce) := by rw [(HR4.out.below hu.has).cell]; rfl
              have k3 := (Below.cell hu.has (World.block_lt_of_cell? _ _ HZ4.out)).trans HZ4.out
              go_wp2_with (fail)
              exact ⟨rfl, hu, Ext.refl _, slot_eq rfl⟩) ?_
            refine sp_op (Ph.eq _) (fun u hu => by
              refine spArg_eq 0 rfl rfl ?_
              refine spArg_nil ?_
              simp only [Act.put, List.setIfInBounds_toArray, List.set_cons_succ, List.set_cons_zero]
              have k1 : u.cell? ⟨B3, 0, none⟩ = some (.int .u64 e.x) := by rw [(HR4.out.below hu.has).cell]; rfl
              have k2 : u.cell? ⟨B3, 1, none⟩ = some (.slice ae e.box.length ce) := by rw [(HR4.out.below hu.has).cell]; rfl
              have k3 := (Below.cell hu.has (World.block_lt_of_cell? _ _ HZ4.out)).trans HZ4.out
              go_wp2_with (fail)
              exact ⟨rfl, hu, Ext.refl _, slot_eq rfl⟩) ?_
            refine sp_op (Ph.eq _) (fun u hu => by
              refine spArg_eq 0 rfl rfl ?_
              refine spArg_nil ?_
              simp only [Act.put, List.setIfInBounds_toArray, List.set_cons_succ, List.set_cons_zero]
              have k1 : u.cell? ⟨B3, 0, none⟩ = some (.int .u64 e.x) := by rw [(HR4.out.below hu.has).cell]; rfl
              have k2 : u.cell? ⟨B3, 1, none⟩ = some (.slice ae e.box.length ce) := by rw [(HR4.out.below hu.has).cell]; rfl
              have k3 := (Below.cell hu.has (World.block_lt_of_cell? _ _ HZ4.out)).trans HZ4.out
              go_wp2_with ((go_at_call 32; refine (HRT.out _).mono ?_; rintro e_ x_ ⟨rfl, rfl⟩))
              exact ⟨rfl, hu, Ext.refl _, slot_eq rfl⟩) ?_
            refine sp_op (Ph.eq _) (fun u hu => by
              refine spArg_eq 0 rfl rfl ?_
              refine spArg_nil ?_
              simp only [Act.put, List.setIfInBounds_toArray, List.set_cons_succ, List.set_cons_zero]
              have k1 : u.cell? ⟨B3, 0, none⟩ = some (.int .u64 e.x) := by rw [(HR4.out.below hu.has).cell]; rfl
              have k2 : u.cell? ⟨B3, 1, none⟩ = some (.slice ae e.box.length ce) := by rw [(HR4.out.below hu.has).cell]; rfl
              have k3 := (Below.cell hu.has (World.block_lt_of_cell? _ _ HZ4.out)).trans HZ4.out
              go_wp2_with (fail)
              exact ⟨rfl, hu, Ext.refl _, slot_eq rfl⟩) ?_
            refine sp_op (Ph.eq _) (fun u hu => by
              refine spArg_eq 0 rfl rfl ?_
              refine spArg_nil ?_
              simp only [Act.put, List.setIfInBounds_toArray, List.set_cons_succ, List.set_cons_zero]
              have k1 : u.cell? ⟨B3, 0, none⟩ = some (.int .u64 e.x) := by rw [(HR4.out.below hu.has).cell]; rfl
              have k2 : u.cell? ⟨B3, 1, none⟩ = some (.slice ae e.box.length ce) := by rw [(HR4.out.below hu.has).cell]; rfl
              have k3 := (Below.cell hu.has (World.block_lt_of_cell? _ _ HZ4.out)).trans HZ4.out
              go_wp2_with (fail)
              exact ⟨rfl, hu, Ext.refl _, slot_eq rfl⟩) ?_
            refine sp_op (Ph.eq _) (fun u hu => by
              refine spArg_eq 0 rfl rfl ?_
              refine spArg_nil ?_
              simp only [Act.put, List.setIfInBounds_toArray, List.set_cons_succ, List.set_cons_zero]
              have k1 : u.cell? ⟨B3, 0, none⟩ = some (.int .u64 e.x) := by rw [(HR4.out.below hu.has).cell]; rfl
              have k2 : u.cell? ⟨B3, 1, none⟩ = some (.slice ae e.box.length ce) := by rw [(HR4.out.below hu.has).cell]; rfl
              have k3 := (Below.cell hu.has (World.block_lt_of_cell? _ _ HZ4.out)).trans HZ4.out
              go_wp2_with (fail)
              exact ⟨rfl, hu, Ext.refl _, slot_eq rfl⟩) ?_
            refine sp_op (Ph.eq _) (fun u hu => by
              refine spArg_eq 0 rfl rfl ?_
              refine spArg_eq 1 rfl rfl ?_
              refine spArg_nil ?_
              simp only [Act.put, List.setIfInBounds_toArray, List.set_cons_succ, List.set_cons_zero]
              have k1 : u.cell? ⟨B3, 0, none⟩ = some (.int .u64 e.x) := by rw [(HR4.out.below hu.has).cell]; rfl
              have k2 : u.cell? ⟨B3, 1, none⟩ = some (.slice ae e.box.length ce) := by rw [(HR4.out.below hu.has).cell]; rfl
              have k3 := (Below.cell hu.has (World.block_lt_of_cell? _ _ HZ4.out)).trans HZ4.out
              go_wp2_with (fail)
              exact ⟨rfl, hu, Ext.refl _, slot_eq rfl⟩) ?_
            refine sp_op (Ph.eq _) (fun u hu => by
              refine spArg_eq 0 rfl rfl ?_
              refine spArg_eq 2 rfl rfl ?_
              refine spArg_nil ?_
              simp only [Act.put, List.setIfInBounds_toArray, List.set_cons_succ, List.set_cons_zero]
              have k1 : u.cell? ⟨B3, 0, none⟩ = some (.int .u64 e.x) := by rw [(HR4.out.below hu.has).cell]; rfl
              have k2 : u.cell? ⟨B3, 1, none⟩ = some (.slice ae e.box.length ce) := by rw [(HR4.out.below hu.has).cell]; rfl
              have k3 := (Below.cell hu.has (World.block_lt_of_cell? _ _ HZ4.out)).trans HZ4.out
              go_wp2_with (fail)
              exact ⟨rfl, hu, Ext.refl _, slot_eq rfl⟩) ?_
            refine sp_op (Ph.eq _) (fun u hu => by
              refine spArg_eq 0 rfl rfl ?_
              refine spArg_eq 3 rfl rfl ?_
              refine spArg_nil ?_
              simp only [Act.put, List.setIfInBounds_toArray, List.set_cons_succ, List.set_cons_zero]
              have k1 : u.cell? ⟨B3, 0, none⟩ = some (.int .u64 e.x) := by rw [(HR4.out.below hu.has).cell]; rfl
              have k2 : u.cell? ⟨B3, 1, none⟩ = some (.slice ae e.box.length ce) := by rw [(HR4.out.below hu.has).cell]; rfl
              have k3 := (Below.cell hu.has (World.block_lt_of_cell? _ _ HZ4.out)).trans HZ4.out
              go_wp2_with (fail)
              exact ⟨rfl, hu, Ext.refl _, slot_eq rfl⟩) ?_
            refine sp_op (Ph.eq _) (fun u hu => by
              refine spArg_eq 4 rfl rfl ?_
              refine spArg_nil ?_
              simp only [Act.put, List.setIfInBounds_toArray, List.set_cons_succ, List.set_cons_zero]
              have k1 : u.cell? ⟨B3, 0, none⟩ = some (.int .u64 e.x) := by rw [(HR4.out.below hu.has).cell]; rfl
              have k2 : u.cell? ⟨B3, 1, none⟩ = some (.slice ae e.box.length ce) := by rw [(HR4.out.below hu.has).cell]; rfl
              have k3 := (Below.cell hu.has (World.block_lt_of_cell? _ _ HZ4.out)).trans HZ4.out
              go_wp2_with (fail)
              exact ⟨rfl, hu, Ext.refl _, slot_eq rfl⟩) ?_
            refine sp_op (Ph.eq _) (fun u hu => by
              refine spArg_eq 0 rfl rfl ?_
              refine spArg_eq 5 rfl rfl ?_
              refine spArg_nil ?_
              simp only [Act.put, List.setIfInBounds_toArray, List.set_cons_succ, List.set_cons_zero]
              have k1 : u.cell? ⟨B3, 0, none⟩ = some (.int .u64 e.x) := by rw [(HR4.out.below hu.has).cell]; rfl
              have k2 : u.cell? ⟨B3, 1, none⟩ = some (.slice ae e.box.length ce) := by rw [(HR4.out.below hu.has).cell]; rfl
              have k3 := (Below.cell hu.has (World.block_lt_of_cell? _ _ HZ4.out)).trans HZ4.out
              go_wp2_with (fail)
              exact ⟨rfl, hu, Ext.refl _, slot_eq rfl⟩) ?_
            refine sp_op (Ph.eq _) (fun u hu => by
              refine spArg_eq 0 rfl rfl ?_
              refine spArg_eq 6 rfl rfl ?_
              refine spArg_nil ?_
              simp only [Act.put, List.setIfInBounds_toArray, List.set_cons_succ, List.set_cons_zero]
              have k1 : u.cell? ⟨B3, 0, none⟩ = some (.int .u64 e.x) := by rw [(HR4.out.below hu.has).cell]; rfl
              have k2 : u.cell? ⟨B3, 1, none⟩ = some (.slice ae e.box.length ce) := by rw [(HR4.out.below hu.has).cell]; rfl
              have k3 := (Below.cell hu.has (World.block_lt_of_cell? _ _ HZ4.out)).trans HZ4.out
              go_wp2_with (fail)
              exact ⟨rfl, hu, Ext.refl _, slot_eq rfl⟩) ?_
            refine sp_op (Ph.eq _) (fun u hu => by
              refine spArg_eq 0 rfl rfl ?_
              refine spArg_eq 7 rfl rfl ?_
              refine spArg_nil ?_
              simp only [Act.put, List.setIfInBounds_toArray, List.set_cons_succ, List.set_cons_zero]
              have k1 : u.cell? ⟨B3, 0, none⟩ = some (.int .u64 e.x) := by rw [(HR4.out.below hu.has).cell]; rfl
              have k2 : u.cell? ⟨B3, 1, none⟩ = some (.slice ae e.box.length ce) := by rw [(HR4.out.below hu.has).cell]; rfl
              have k3 := (Below.cell hu.has (World.block_lt_of_cell? _ _ HZ4.out)).trans HZ4.out
              go_wp2_with (fail)
              exact ⟨rfl, hu, Ext.refl _, slot_eq rfl⟩) ?_
            refine sp_op (Ph.eq _) (fun u hu => by
              refine spArg_eq 0 rfl rfl ?_
              refine spArg_eq 8 rfl rfl ?_
              refine spArg_nil ?_
              simp only [Act.put, List.setIfInBounds_toArray, List.set_cons_succ, List.set_cons_zero]
              have k1 : u.cell? ⟨B3, 0, none⟩ = some (.int .u64 e.x) := by rw [(HR4.out.below hu.has).cell]; rfl
              have k2 : u.cell? ⟨B3, 1, none⟩ = some (.slice ae e.box.length ce) := by rw [(HR4.out.below hu.has).cell]; rfl
              have k3 := (Below.cell hu.has (World.block_lt_of_cell? _ _ HZ4.out)).trans HZ4.out
              go_wp2_with (fail)
              exact ⟨rfl, hu, Ext.refl _, slot_eq rfl⟩) ?_
            refine sp_op (Ph.eq _) (fun u hu => by
              refine spArg_eq 5 rfl rfl ?_
              refine spArg_eq 0 rfl rfl ?_
              refine spArg_eq 9 rfl rfl ?_
              refine spArg_nil ?_
              simp only [Act.put, List.setIfInBounds_toArray, List.set_cons_succ, List.set_cons_zero]
              have k1 : u.cell? ⟨B3, 0, none⟩ = some (.int .u64 e.x) := by rw [(HR4.out.below hu.has).cell]; rfl
              have k2 : u.cell? ⟨B3, 1, none⟩ = some (.slice ae e.box.length ce) := by rw [(HR4.out.below hu.has).cell]; rfl
              have k3 := (Below.cell hu.has (World.block_lt_of_cell? _ _ HZ4.out)).trans HZ4.out
              go_wp2_with (fail)
              exact ⟨rfl, hu, Ext.refl _, slot_eq rfl⟩) ?_
            refine sp_op (Ph.eq _) (fun u hu => by
              refine spArg_eq 10 rfl rfl ?_
              refine spArg_eq 0 rfl rfl ?_
              refine spArg_nil ?_
              simp only [Act.put, List.setIfInBounds_toArray, List.set_cons_succ, List.set_cons_zero]
              have k1 : u.cell? ⟨B3, 0, none⟩ = some (.int .u64 e.x) := by rw [(HR4.out.below hu.has).cell]; rfl
              have k2 : u.cell? ⟨B3, 1, none⟩ = some (.slice ae e.box.length ce) := by rw [(HR4.out.below hu.has).cell]; rfl
              have k3 := (Below.cell hu.has (World.block_lt_of_cell? _ _ HZ4.out)).trans HZ4.out
              go_wp2_with (fail)
              exact ⟨rfl, hu, Ext.refl _, slot_eq rfl⟩) ?_
            refine sp_end ?_
            intro u hu
            refine spArg_eq 15 rfl rfl ?_
            refine spArg_eq 14 rfl rfl ?_
            refine spArg_eq 13 rfl rfl ?_
            refine spArg_eq 12 rfl rfl ?_
            refine spArg_eq 11 rfl rfl ?_
            refine spArg_eq 10 rfl rfl ?_
            refine spArg_eq 9 rfl rfl ?_
            refine spArg_eq 8 rfl rfl ?_
            refine spArg_eq 7 rfl rfl ?_
            refine spArg_eq 6 rfl rfl ?_
            refine spArg_eq 5 rfl rfl ?_
            refine spArg_eq 4 rfl rfl ?_
            refine spArg_eq 3 rfl rfl ?_
            refine spArg_eq 2 rfl rfl ?_
            refine spArg_eq 1 rfl rfl ?_
            refine spArg_eq 0 rfl rfl ?_
            refine spArg_nil ?_
            simp only [Act.put, List.setIfInBounds_toArray, List.set_cons_succ, List.set_cons_zero]
            go_wp2_with fail
            go_roundw
            case rel => exact ⟨n + 1, rfl, by omega, HA2.out, HC4.out.below hu.has, hu.up⟩
            case measure => (simp [intOf] <;> omega)
          · have hne : ((e.box.length : Int) + 16 != (e0.box.length : Int)) = true := by rw [bne_iff_ne]; omega
            have HF := Lib.hid (show CB = false from by rw [HCC.out, all_false HE.out (by rw [hcE, decide_eq_false hbx, Bool.and_false])]; rfl)
            clear hok hbx hcE
            try change Code.wp _ _ _ (Act.mk _ _) _
            refine wp_region_runR Ext 16 51 (HoldT (fun u => Ext x4 u) _) [[], [(0, 22)], [(1, 23)], [(2, 24)], [(3, 25)], [(4, 26)], [(5, 27), (4, 26)], [(6, 28), (4, 26)], [(7, 29), (4, 26)], [(4, 26)], [(9, 31), (4, 26)], [(10, 32), (4, 26)], [(11, 33), (4, 26)], [(12, 34), (4, 26)], [(8, 30), (13, 35), (4, 26)], [(4, 26), (14, 36)]] [(0, 22), (1, 23), (2, 24), (3, 25), (4, 26), (5, 27), (6, 28), (7, 29), (8, 30), (9, 31), (10, 32), (11, 33), (12, 34), (13, 35), (14, 36), (15, 37)] (by kernel_rfl) (by kernel_rfl) (by first | rfl | simp) (hk6) ?_
            simp only [List.take_succ_cons, List.take_zero, List.drop_succ_cons, List.drop_zero]
            refine sp_op (Ph.eq _) (fun u hu => by
              refine spArg_nil ?_
              have k1 : u.cell? ⟨B3, 0, none⟩ = some (.int .u64 e.x) := by rw [(HR4.out.below hu.has).cell]; rfl
              have k2 : u.cell? ⟨B3, 1, none⟩ = some (.slice ae e.box.length ce) := by rw [(HR4.out.below hu.has).cell]; rfl
              have k3 := (Below.cell hu.has (World.block_lt_of_cell? _ _ HZ4.out)).trans HZ4.out
              go_wp2_with (fail)
              exact ⟨rfl, hu, Ext.refl _, slot_eq rfl⟩) ?_
            refine sp_op (Ph.eq _) (fun u hu => by
              refine spArg_eq 0 rfl rfl ?_
              refine spArg_nil ?_
              simp only [Act.put, List.setIfInBounds_toArray, List.set_cons_succ, List.set_cons_zero]
              have k1 : u.cell? ⟨B3, 0, none⟩ = some (.int .u64 e.x) := by rw [(HR4.out.below hu.has).cell]; rfl
              have k2 : u.cell? ⟨B3, 1, none⟩ = some (.slice ae e.box.length ce) := by rw [(HR4.out.below hu.has).cell]; rfl
              have k3 := (Below.cell hu.has (World.block_lt_of_cell? _ _ HZ4.out)).trans HZ4.out
              go_wp2_with (fail)
              exact ⟨rfl, hu, Ext.refl _, slot_eq rfl⟩) ?_
            refine sp_op (Ph.eq _) (fun u hu => by
              refine spArg_eq 0 rfl rfl ?_
              refine spArg_nil ?_
              simp only [Act.put, List.setIfInBounds_toArray, List.set_cons_succ, List.set_cons_zero]
              have k1 : u.cell? ⟨B3, 0, none⟩ = some (.int .u64 e.x) := by rw [(HR4.out.below hu.has).cell]; rfl
              have k2 : u.cell? ⟨B3, 1, none⟩ = some (.slice ae e.box.length ce) := by rw [(HR4.out.below hu.has).cell]; rfl
              have k3 := (Below.cell hu.has (World.block_lt_of_cell? _ _ HZ4.out)).trans HZ4.out
              go_wp2_with ((go_at_call 32; refine (HRT.out _).mono ?_; rintro e_ x_ ⟨rfl, rfl⟩))
              exact ⟨rfl, hu, Ext.refl _, slot_eq rfl⟩) ?_
            refine sp_op (Ph.eq _) (fun u hu => by
              refine spArg_eq 0 rfl rfl ?_
              refine spArg_nil ?_
              simp only [Act.put, List.setIfInBounds_toArray, List.set_cons_succ, List.set_cons_zero]
              have k1 : u.cell? ⟨B3, 0, none⟩ = some (.int .u64 e.x) := by rw [(HR4.out.below hu.has).cell]; rfl
              have k2 : u.cell? ⟨B3, 1, none⟩ = some (.slice ae e.box.length ce) := by rw [(HR4.out.below hu.has).cell]; rfl
              have k3 := (Below.cell hu.has (World.block_lt_of_cell? _ _ HZ4.out)).trans HZ4.out
              go_wp2_with (fail)
              exact ⟨rfl, hu, Ext.refl _, slot_eq rfl⟩) ?_
            refine sp_op (Ph.eq _) (fun u hu => by
              refine spArg_eq 0 rfl rfl ?_
              refine spArg_nil ?_
              simp only [Act.put, List.setIfInBounds_toArray, List.set_cons_succ, List.set_cons_zero]
              have k1 : u.cell? ⟨B3, 0, none⟩ = some (.int .u64 e.x) := by rw [(HR4.out.below hu.has).cell]; rfl
              have k2 : u.cell? ⟨B3, 1, none⟩ = some (.slice ae e.box.length ce) := by rw [(HR4.out.below hu.has).cell]; rfl
              have k3 := (Below.cell hu.has (World.block_lt_of_cell? _ _ HZ4.out)).trans HZ4.out
              go_wp2_with (fail)
              exact ⟨rfl, hu, Ext.refl _, slot_eq rfl⟩) ?_
            refine sp_op (Ph.eq _) (fun u hu => by
              refine spArg_eq 0 rfl rfl ?_
              refine spArg_nil ?_
              simp only [Act.put, List.setIfInBounds_toArray, List.set_cons_succ, List.set_cons_zero]
              have k1 : u.cell? ⟨B3, 0, none⟩ = some (.int .u64 e.x) := by rw [(HR4.out.below hu.has).cell]; rfl
              have k2 : u.cell? ⟨B3, 1, none⟩ = some (.slice ae e.box.length ce) := by rw [(HR4.out.below hu.has).cell]; rfl
              have k3 := (Below.cell hu.has (World.block_lt_of_cell? _ _ HZ4.out)).trans HZ4.out
              go_wp2_with (fail)
              exact ⟨rfl, hu, Ext.refl _, slot_eq rfl⟩) ?_
            refine sp_op (Ph.eq _) (fun u hu => by
              refine spArg_eq 0 rfl rfl ?_
              refine spArg_eq 1 rfl rfl ?_
              refine spArg_nil ?_
              simp only [Act.put, List.setIfInBounds_toArray, List.set_cons_succ, List.set_cons_zero]
              have k1 : u.cell? ⟨B3, 0, none⟩ = some (.int .u64 e.x) := by rw [(HR4.out.below hu.has).cell]; rfl
              have k2 : u.cell? ⟨B3, 1, none⟩ = some (.slice ae e.box.length ce) := by rw [(HR4.out.below hu.has).cell]; rfl
              have k3 := (Below.cell hu.has (World.block_lt_of_cell? _ _ HZ4.out)).trans HZ4.out
              go_wp2_with (fail)
              exact ⟨rfl, hu, Ext.refl _, slot_eq rfl⟩) ?_
            refine sp_op (Ph.eq _) (fun u hu => by
              refine spArg_eq 0 rfl rfl ?_
              refine spArg_eq 2 rfl rfl ?_
              refine spArg_nil ?_
              simp only [Act.put, List.setIfInBounds_toArray, List.set_cons_succ, List.set_cons_zero]
              have k1 : u.cell? ⟨B3, 0, none⟩ = some (.int .u64 e.x) := by rw [(HR4.out.below hu.has).cell]; rfl
              have k2 : u.cell? ⟨B3, 1, none⟩ = some (.slice ae e.box.length ce) := by rw [(HR4.out.below hu.has).cell]; rfl
              have k3 := (Below.cell hu.has (World.block_lt_of_cell? _ _ HZ4.out)).trans HZ4.out
              go_wp2_with (fail)
              exact ⟨rfl, hu, Ext.refl _, slot_eq rfl⟩) ?_
            refine sp_op (Ph.eq _) (fun u hu => by
              refine spArg_eq 0 rfl rfl ?_
              refine spArg_eq 3 rfl rfl ?_
              refine spArg_nil ?_
              simp only [Act.put, List.setIfInBounds_toArray, List.set_cons_succ, List.set_cons_zero]
              have k1 : u.cell? ⟨B3, 0, none⟩ = some (.int .u64 e.x) := by rw [(HR4.out.below hu.has).cell]; rfl
              have k2 : u.cell? ⟨B3, 1, none⟩ = some (.slice ae e.box.length ce) := by rw [(HR4.out.below hu.has).cell]; rfl
              have k3 := (Below.cell hu.has (World.block_lt_of_cell? _ _ HZ4.out)).trans HZ4.out
              go_wp2_with (fail)
              exact ⟨rfl, hu, Ext.refl _, slot_eq rfl⟩) ?_
            refine sp_op (Ph.eq _) (fun u hu => by
              refine spArg_eq 4 rfl rfl ?_
              refine spArg_nil ?_
              simp only [Act.put, List.setIfInBounds_toArray, List.set_cons_succ, List.set_cons_zero]
              have k1 : u.cell? ⟨B3, 0, none⟩ = some (.int .u64 e.x) := by rw [(HR4.out.below hu.has).cell]; rfl
              have k2 : u.cell? ⟨B3, 1, none⟩ = some (.slice ae e.box.length ce) := by rw [(HR4.out.below hu.has).cell]; rfl
              have k3 := (Below.cell hu.has (World.block_lt_of_cell? _ _ HZ4.out)).trans HZ4.out
              go_wp2_with (fail)
              exact ⟨rfl, hu, Ext.refl _, slot_eq rfl⟩) ?_
            refine sp_op (Ph.eq _) (fun u hu => by
              refine spArg_eq 0 rfl rfl ?_
              refine spArg_eq 5 rfl rfl ?_
              refine spArg_nil ?_
              simp only [Act.put, List.setIfInBounds_toArray, List.set_cons_succ, List.set_cons_zero]
              have k1 : u.cell? ⟨B3, 0, none⟩ = some (.int .u64 e.x) := by rw [(HR4.out.below hu.has).cell]; rfl
              have k2 : u.cell? ⟨B3, 1, none⟩ = some (.slice ae e.box.length ce) := by rw [(HR4.out.below hu.has).cell]; rfl
              have k3 := (Below.cell hu.has (World.block_lt_of_cell? _ _ HZ4.out)).trans HZ4.out
              go_wp2_with (fail)
              exact ⟨rfl, hu, Ext.refl _, slot_eq rfl⟩) ?_
            refine sp_op (Ph.eq _) (fun u hu => by
              refine spArg_eq 0 rfl rfl ?_
              refine spArg_eq 6 rfl rfl ?_
              refine spArg_nil ?_
              simp only [Act.put, List.setIfInBounds_toArray, List.set_cons_succ, List.set_cons_zero]
              have k1 : u.cell? ⟨B3, 0, none⟩ = some (.int .u64 e.x) := by rw [(HR4.out.below hu.has).cell]; rfl
              have k2 : u.cell? ⟨B3, 1, none⟩ = some (.slice ae e.box.length ce) := by rw [(HR4.out.below hu.has).cell]; rfl
              have k3 := (Below.cell hu.has (World.block_lt_of_cell? _ _ HZ4.out)).trans HZ4.out
              go_wp2_with (fail)
              exact ⟨rfl, hu, Ext.refl _, slot_eq rfl⟩) ?_
            refine sp_op (Ph.eq _) (fun u hu => by
              refine spArg_eq 0 rfl rfl ?_
              refine spArg_eq 7 rfl rfl ?_
              refine spArg_nil ?_
              simp only [Act.put, List.setIfInBounds_toArray, List.set_cons_succ, List.set_cons_zero]
              have k1 : u.cell? ⟨B3, 0, none⟩ = some (.int .u64 e.x) := by rw [(HR4.out.below hu.has).cell]; rfl
              have k2 : u.cell? ⟨B3, 1, none⟩ = some (.slice ae e.box.length ce) := by rw [(HR4.out.below hu.has).cell]; rfl
              have k3 := (Below.cell hu.has (World.block_lt_of_cell? _ _ HZ4.out)).trans HZ4.out
              go_wp2_with (fail)
              exact ⟨rfl, hu, Ext.refl _, slot_eq rfl⟩) ?_
            refine sp_op (Ph.eq _) (fun u hu => by
              refine spArg_eq 0 rfl rfl ?_
              refine spArg_eq 8 rfl rfl ?_
              refine spArg_nil ?_
              simp only [Act.put, List.setIfInBounds_toArray, List.set_cons_succ, List.set_cons_zero]
              have k1 : u.cell? ⟨B3, 0, none⟩ = some (.int .u64 e.x) := by rw [(HR4.out.below hu.has).cell]; rfl
              have k2 : u.cell? ⟨B3, 1, none⟩ = some (.slice ae e.box.length ce) := by rw [(HR4.out.below hu.has).cell]; rfl
              have k3 := (Below.cell hu.has (World.block_lt_of_cell? _ _ HZ4.out)).trans HZ4.out
              go_wp2_with (fail)
              exact ⟨rfl, hu, Ext.refl _, slot_eq rfl⟩) ?_
            refine sp_op (Ph.eq _) (fun u hu => by
              refine spArg_eq 5 rfl rfl ?_
              refine spArg_eq 0 rfl rfl ?_
              refine spArg_eq 9 rfl rfl ?_
              refine spArg_nil ?_
              simp only [Act.put, List.setIfInBounds_toArray, List.set_cons_succ, List.set_cons_zero]
              have k1 : u.cell? ⟨B3, 0, none⟩ = some (.int .u64 e.x) := by rw [(HR4.out.below hu.has).cell]; rfl
              have k2 : u.cell? ⟨B3, 1, none⟩ = some (.slice ae e.box.length ce) := by rw [(HR4.out.below hu.has).cell]; rfl
              have k3 := (Below.cell hu.has (World.block_lt_of_cell? _ _ HZ4.out)).trans HZ4.out
              go_wp2_with (fail)
              exact ⟨rfl, hu, Ext.refl _, slot_eq rfl⟩) ?_
            refine sp_op (Ph.eq _) (fun u hu => by
              refine spArg_eq 10 rfl rfl ?_
              refine spArg_eq 0 rfl rfl ?_
              refine spArg_nil ?_
              simp only [Act.put, List.setIfInBounds_toArray, List.set_cons_succ, List.set_cons_zero]
              have k1 : u.cell? ⟨B3, 0, none⟩ = some (.int .u64 e.x) := by rw [(HR4.out.below hu.has).cell]; rfl
              have k2 : u.cell? ⟨B3, 1, none⟩ = some (.slice ae e.box.length ce) := by rw [(HR4.out.below hu.has).cell]; rfl
              have k3 := (Below.cell hu.has (World.block_lt_of_cell? _ _ HZ4.out)).trans HZ4.out
              go_wp2_with (fail)
              exact ⟨rfl, hu, Ext.refl _, slot_eq rfl⟩) ?_
            refine sp_end ?_
            intro u hu
            refine spArg_eq 15 rfl rfl ?_
            refine spArg_eq 14 rfl rfl ?_
            refine spArg_eq 13 rfl rfl ?_
            refine spArg_eq 12 rfl rfl ?_
            refine spArg_eq 11 rfl rfl ?_
            refine spArg_eq 10 rfl rfl ?_
            refine spArg_eq 9 rfl rfl ?_
            refine spArg_eq 8 rfl rfl ?_
            refine spArg_eq 7 rfl rfl ?_
            refine spArg_eq 6 rfl rfl ?_
            refine spArg_eq 5 rfl rfl ?_
            refine spArg_eq 4 rfl rfl ?_
            refine spArg_eq 3 rfl rfl ?_
            refine spArg_eq 2 rfl rfl ?_
            refine spArg_eq 1 rfl rfl ?_
            refine spArg_eq 0 rfl rfl ?_
            refine spArg_nil ?_
            simp only [Act.put, List.setIfInBounds_toArray, List.set_cons_succ, List.set_cons_zero]
            go_wp2_with fail
            go_ret
            exact ⟨by rw [HF.out]; rfl, hu.up⟩
        · rw [decide_eq_false hok] at HRT
          have HF := Lib.hid (show CB = false from by rw [HCC.out, all_false HE.out (by rw [hcE, decide_eq_false hok]; rfl)]; rfl)
          clear hok hcE
          try change Code.wp _ _ _ (Act.mk _ _) _
          refine wp_region_runR Ext 16 51 (HoldT (fun u => Ext x4 u) _) [[], [(0, 22)], [(1, 23)], [(2, 24)], [(3, 25)], [(4, 26)], [(5, 27), (4, 26)], [(6, 28), (4, 26)], [(7, 29), (4, 26)], [(4, 26)], [(9, 31), (4, 26)], [(10, 32), (4, 26)], [(11, 33), (4, 26)], [(12, 34), (4, 26)], [(8, 30), (13, 35), (4, 26)], [(4, 26), (14, 36)]] [(0, 22), (1, 23), (2, 24), (3, 25), (4, 26), (5, 27), (6, 28), (7, 29), (8, 30), (9, 31), (10, 32), (11, 33), (12, 34), (13, 35), (14, 36), (15, 37)] (by kernel_rfl) (by kernel_rfl) (by first | rfl | simp) (hk6) ?_
          simp only [List.take_succ_cons, List.take_zero, List.drop_succ_cons, List.drop_zero]
          refine sp_op (Ph.eq _) (fun u hu => by
            refine spArg_nil ?_
            have k1 : u.cell? ⟨B3, 0, none⟩ = some (.int .u64 e.x) := by rw [(HR4.out.below hu.has).cell]; rfl
            have k2 : u.cell? ⟨B3, 1, none⟩ = some (.slice ae e.box.length ce) := by rw [(HR4.out.below hu.has).cell]; rfl
            have k3 := (Below.cell hu.has (World.block_lt_of_cell? _ _ HZ4.out)).trans HZ4.out
            go_wp2_with (fail)
            exact ⟨rfl, hu, Ext.refl _, slot_eq rfl⟩) ?_
          refine sp_op (Ph.eq _) (fun u hu => by
            refine spArg_eq 0 rfl rfl ?_
            refine spArg_nil ?_
            simp only [Act.put, List.setIfInBounds_toArray, List.set_cons_succ, List.set_cons_zero]
            have k1 : u.cell? ⟨B3, 0, none⟩ = some (.int .u64 e.x) := by rw [(HR4.out.below hu.has).cell]; rfl
            have k2 : u.cell? ⟨B3, 1, none⟩ = some (.slice ae e.box.length ce) := by rw [(HR4.out.below hu.has).cell]; rfl
            have k3 := (Below.cell hu.has (World.block_lt_of_cell? _ _ HZ4.out)).trans HZ4.out
            go_wp2_with (fail)
            exact ⟨rfl, hu, Ext.refl _, slot_eq rfl⟩) ?_
          refine sp_op (Ph.eq _) (fun u hu => by
            refine spArg_eq 0 rfl rfl ?_
            refine spArg_nil ?_
            simp only [Act.put, List.setIfInBounds_toArray, List.set_cons_succ, List.set_cons_zero]
            have k1 : u.cell? ⟨B3, 0, none⟩ = some (.int .u64 e.x) := by rw [(HR4.out.below hu.has).cell]; rfl
            have k2 : u.cell? ⟨B3, 1, none⟩ = some (.slice ae e.box.length ce) := by rw [(HR4.out.below hu.has).cell]; rfl
            have k3 := (Below.cell hu.has (World.block_lt_of_cell? _ _ HZ4.out)).trans HZ4.out
            go_wp2_with ((go_at_call 32; refine (HRT.out _).mono ?_; rintro e_ x_ ⟨rfl, rfl⟩))
            exact ⟨rfl, hu, Ext.refl _, slot_eq rfl⟩) ?_
          refine sp_op (Ph.eq _) (fun u hu => by
            refine spArg_eq 0 rfl rfl ?_
            refine spArg_nil ?_
            simp only [Act.put, List.setIfInBounds_toArray, List.set_cons_succ, List.set_cons_zero]
            have k1 : u.cell? ⟨B3, 0, none⟩ = some (.int .u64 e.x) := by rw [(HR4.out.below hu.has).cell]; rfl
            have k2 : u.cell? ⟨B3, 1, none⟩ = some (.slice ae e.box.length ce) := by rw [(HR4.out.below hu.has).cell]; rfl
            have k3 := (Below.cell hu.has (World.block_lt_of_cell? _ _ HZ4.out)).trans HZ4.out
            go_wp2_with (fail)
            exact ⟨rfl, hu, Ext.refl _, slot_eq rfl⟩) ?_
          refine sp_op (Ph.eq _) (fun u hu => by
            refine spArg_eq 0 rfl rfl ?_
            refine spArg_nil ?_
            simp only [Act.put, List.setIfInBounds_toArray, List.set_cons_succ, List.set_cons_zero]
            have k1 : u.cell? ⟨B3, 0, none⟩ = some (.int .u64 e.x) := by rw [(HR4.out.below hu.has).cell]; rfl
            have k2 : u.cell? ⟨B3, 1, none⟩ = some (.slice ae e.box.length ce) := by rw [(HR4.out.below hu.has).cell]; rfl
            have k3 := (Below.cell hu.has (World.block_lt_of_cell? _ _ HZ4.out)).trans HZ4.out
            go_wp2_with (fail)
            exact ⟨rfl, hu, Ext.refl _, slot_eq rfl⟩) ?_
          refine sp_op (Ph.eq _) (fun u hu => by
            refine spArg_eq 0 rfl rfl ?_
            refine spArg_nil ?_
            simp only [Act.put, List.setIfInBounds_toArray, List.set_cons_succ, List.set_cons_zero]
            have k1 : u.cell? ⟨B3, 0, none⟩ = some (.int .u64 e.x) := by rw [(HR4.out.below hu.has).cell]; rfl
            have k2 : u.cell? ⟨B3, 1, none⟩ = some (.slice ae e.box.length ce) := by rw [(HR4.out.below hu.has).cell]; rfl
            have k3 := (Below.cell hu.has (World.block_lt_of_cell? _ _ HZ4.out)).trans HZ4.out
            go_wp2_with (fail)
            exact ⟨rfl, hu, Ext.refl _, slot_eq rfl⟩) ?_
          refine sp_op (Ph.eq _) (fun u hu => by
            refine spArg_eq 0 rfl rfl ?_
            refine spArg_eq 1 rfl rfl ?_
            refine spArg_nil ?_
            simp only [Act.put, List.setIfInBounds_toArray, List.set_cons_succ, List.set_cons_zero]
            have k1 : u.cell? ⟨B3, 0, none⟩ = some (.int .u64 e.x) := by rw [(HR4.out.below hu.has).cell]; rfl
            have k2 : u.cell? ⟨B3, 1, none⟩ = some (.slice ae e.box.length ce) := by rw [(HR4.out.below hu.has).cell]; rfl
            have k3 := (Below.cell hu.has (World.block_lt_of_cell? _ _ HZ4.out)).trans HZ4.out
            go_wp2_with (fail)
            exact ⟨rfl, hu, Ext.refl _, slot_eq rfl⟩) ?_
          refine sp_op (Ph.eq _) (fun u hu => by
            refine spArg_eq 0 rfl rfl ?_
            refine spArg_eq 2 rfl rfl ?_
            refine spArg_nil ?_
            simp only [Act.put, List.setIfInBounds_toArray, List.set_cons_succ, List.set_cons_zero]
            have k1 : u.cell? ⟨B3, 0, none⟩ = some (.int .u64 e.x) := by rw [(HR4.out.below hu.has).cell]; rfl
            have k2 : u.cell? ⟨B3, 1, none⟩ = some (.slice ae e.box.length ce) := by rw [(HR4.out.below hu.has).cell]; rfl
            have k3 := (Below.cell hu.has (World.block_lt_of_cell? _ _ HZ4.out)).trans HZ4.out
            go_wp2_with (fail)
            exact ⟨rfl, hu, Ext.refl _, slot_eq rfl⟩) ?_
          refine sp_op (Ph.eq _) (fun u hu => by
            refine spArg_eq 0 rfl rfl ?_
            refine spArg_eq 3 rfl rfl ?_
            refine spArg_nil ?_
            simp only [Act.put, List.setIfInBounds_toArray, List.set_cons_succ, List.set_cons_zero]
            have k1 : u.cell? ⟨B3, 0, none⟩ = some (.int .u64 e.x) := by rw [(HR4.out.below hu.has).cell]; rfl
            have k2 : u.cell? ⟨B3, 1, none⟩ = some (.slice ae e.box.length ce) := by rw [(HR4.out.below hu.has).cell]; rfl
            have k3 := (Below.cell hu.has (World.block_lt_of_cell? _ _ HZ4.out)).trans HZ4.out
            go_wp2_with (fail)
            exact ⟨rfl, hu, Ext.refl _, slot_eq rfl⟩) ?_
          refine sp_op (Ph.eq _) (fun u hu => by
            refine spArg_eq 4 rfl rfl ?_
            refine spArg_nil ?_
            simp only [Act.put, List.setIfInBounds_toArray, List.set_cons_succ, List.set_cons_zero]
            have k1 : u.cell? ⟨B3, 0, none⟩ = some (.int .u64 e.x) := by rw [(HR4.out.below hu.has).cell]; rfl
            have k2 : u.cell? ⟨B3, 1, none⟩ = some (.slice ae e.box.length ce) := by rw [(HR4.out.below hu.has).cell]; rfl
            have k3 := (Below.cell hu.has (World.block_lt_of_cell? _ _ HZ4.out)).trans HZ4.out
            go_wp2_with (fail)
            exact ⟨rfl, hu, Ext.refl _, slot_eq rfl⟩) ?_
          refine sp_op (Ph.eq _) (fun u hu => by
            refine spArg_eq 0 rfl rfl ?_
            refine spArg_eq 5 rfl rfl ?_
            refine spArg_nil ?_
            simp only [Act.put, List.setIfInBounds_toArray, List.set_cons_succ, List.set_cons_zero]
            have k1 : u.cell? ⟨B3, 0, none⟩ = some (.int .u64 e.x) := by rw [(HR4.out.below hu.has).cell]; rfl
            have k2 : u.cell? ⟨B3, 1, none⟩ = some (.slice ae e.box.length ce) := by rw [(HR4.out.below hu.has).cell]; rfl
            have k3 := (Below.cell hu.has (World.block_lt_of_cell? _ _ HZ4.out)).trans HZ4.out
            go_wp2_with (fail)
            exact ⟨rfl, hu, Ext.refl _, slot_eq rfl⟩) ?_
          refine sp_op (Ph.eq _) (fun u hu => by
            refine spArg_eq 0 rfl rfl ?_
            refine spArg_eq 6 rfl rfl ?_
            refine spArg_nil ?_
            simp only [Act.put, List.setIfInBounds_toArray, List.set_cons_succ, List.set_cons_zero]
            have k1 : u.cell? ⟨B3, 0, none⟩ = some (.int .u64 e.x) := by rw [(HR4.out.below hu.has).cell]; rfl
            have k2 : u.cell? ⟨B3, 1, none⟩ = some (.slice ae e.box.length ce) := by rw [(HR4.out.below hu.has).cell]; rfl
            have k3 := (Below.cell hu.has (World.block_lt_of_cell? _ _ HZ4.out)).trans HZ4.out
            go_wp2_with (fail)
            exact ⟨rfl, hu, Ext.refl _, slot_eq rfl⟩) ?_
          refine sp_op (Ph.eq _) (fun u hu => by
            refine spArg_eq 0 rfl rfl ?_
            refine spArg_eq 7 rfl rfl ?_
            refine spArg_nil ?_
            simp only [Act.put, List.setIfInBounds_toArray, List.set_cons_succ, List.set_cons_zero]
            have k1 : u.cell? ⟨B3, 0, none⟩ = some (.int .u64 e.x) := by rw [(HR4.out.below hu.has).cell]; rfl
            have k2 : u.cell? ⟨B3, 1, none⟩ = some (.slice ae e.box.length ce) := by rw [(HR4.out.below hu.has).cell]; rfl
            have k3 := (Below.cell hu.has (World.block_lt_of_cell? _ _ HZ4.out)).trans HZ4.out
            go_wp2_with (fail)
            exact ⟨rfl, hu, Ext.refl _, slot_eq rfl⟩) ?_
          refine sp_op (Ph.eq _) (fun u hu => by
            refine spArg_eq 0 rfl rfl ?_
            refine spArg_eq 8 rfl rfl ?_
            refine spArg_nil ?_
            simp only [Act.put, List.setIfInBounds_toArray, List.set_cons_succ, List.set_cons_zero]
            have k1 : u.cell? ⟨B3, 0, none⟩ = some (.int .u64 e.x) := by rw [(HR4.out.below hu.has).cell]; rfl
            have k2 : u.cell? ⟨B3, 1, none⟩ = some (.slice ae e.box.length ce) := by rw [(HR4.out.below hu.has).cell]; rfl
            have k3 := (Below.cell hu.has (World.block_lt_of_cell? _ _ HZ4.out)).trans HZ4.out
            go_wp2_with (fail)
            exact ⟨rfl, hu, Ext.refl _, slot_eq rfl⟩) ?_
          refine sp_op (Ph.eq _) (fun u hu => by
            refine spArg_eq 5 rfl rfl ?_
            refine spArg_eq 0 rfl rfl ?_
            refine spArg_eq 9 rfl rfl ?_
            refine spArg_nil ?_
            simp only [Act.put, List.setIfInBounds_toArray, List.set_cons_succ, List.set_cons_zero]
            have k1 : u.cell? ⟨B3, 0, none⟩ = some (.int .u64 e.x) := by rw [(HR4.out.below hu.has).cell]; rfl
            have k2 : u.cell? ⟨B3, 1, none⟩ = some (.slice ae e.box.length ce) := by rw [(HR4.out.below hu.has).cell]; rfl
            have k3 := (Below.cell hu.has (World.block_lt_of_cell? _ _ HZ4.out)).trans HZ4.out
            go_wp2_with (fail)
            exact ⟨rfl, hu, Ext.refl _, slot_eq rfl⟩) ?_
          refine sp_op (Ph.eq _) (fun u hu => by
            refine spArg_eq 10 rfl rfl ?_
            refine spArg_eq 0 rfl rfl ?_
            refine spArg_nil ?_
            simp only [Act.put, List.setIfInBounds_toArray, List.set_cons_succ, List.set_cons_zero]
            have k1 : u.cell? ⟨B3, 0, none⟩ = some (.int .u64 e.x) := by rw [(HR4.out.below hu.has).cell]; rfl
            have k2 : u.cell? ⟨B3, 1, none⟩ = some (.slice ae e.box.length ce) := by rw [(HR4.out.below hu.has).cell]; rfl
            have k3 := (Below.cell hu.has (World.block_lt_of_cell? _ _ HZ4.out)).trans HZ4.out
            go_wp2_with (fail)
            exact ⟨rfl, hu, Ext.refl _, slot_eq rfl⟩) ?_
          refine sp_end ?_
          intro u hu
          refine spArg_eq 15 rfl rfl ?_
          refine spArg_eq 14 rfl rfl ?_
          refine spArg_eq 13 rfl rfl ?_
          refine spArg_eq 12 rfl rfl ?_
          refine spArg_eq 11 rfl rfl ?_
          refine spArg_eq 10 rfl rfl ?_
          refine spArg_eq 9 rfl rfl ?_
          refine spArg_eq 8 rfl rfl ?_
          refine spArg_eq 7 rfl rfl ?_
          refine spArg_eq 6 rfl rfl ?_
          refine spArg_eq 5 rfl rfl ?_
          refine spArg_eq 4 rfl rfl ?_
          refine spArg_eq 3 rfl rfl ?_
          refine spArg_eq 2 rfl rfl ?_
          refine spArg_eq 1 rfl rfl ?_
          refine spArg_eq 0 rfl rfl ?_
          refine spArg_nil ?_
          simp only [Act.put, List.setIfInBounds_toArray, List.set_cons_succ, List.set_cons_zero]
          go_wp2_with fail
          go_ret
          exact ⟨by rw [HF.out]; rfl, hu.up⟩
      · obtain rfl : n = es.length := by omega
        have ha := HA.out
        rw [List.take_length] at ha
        have hcb := HCC.out
        rw [ha, Bool.true_and] at hcb
        have HCC2 := Lib.hid hcb
        clear ha hcb
        have HEQ := Lib.hid fun (u : World) => CheckEqual_any p.base p.blind (prodE ins) (prodE es) pc ps u HPO.out.1 HPO.out.2.1 (in64_P (prodE_pos _)) (in64_P (prodE_pos _)) HCO.out.1 HCO.out.2
        rw [← HCC2.out] at HEQ
        go_wp2_with fail
        have hst := stabE wr
        have hk9 : HoldT (fun u => Ext wr u) w wr.drew := HoldT.drew hst ⟨Ext.refl _, HX.out⟩
        try change Code.wp _ _ _ (Act.mk _ _) _
        refine wp_region_runR Ext 12 51 (HoldT (fun u => Ext wr u) _) [[], [(0, 39)], [], [(2, 41)], [], [(4, 43)], [], [(6, 45)], [(7, 46)], [], [(9, 48)], [(1, 40), (3, 42), (5, 44), (8, 47), (10, 49)]] [(0, 39), (1, 40), (2, 41), (3, 42), (4, 43), (5, 44), (6, 45), (7, 46), (8, 47), (9, 48), (10, 49), (11, 50)] (by kernel_rfl) (by kernel_rfl) (by first | rfl | simp) (hk9) ?_
        simp only [List.take_succ_cons, List.take_zero, List.drop_succ_cons, List.drop_zero]
        refine sp_op (Ph.eq _) (fun u hu => by
          refine spArg_nil ?_
          have k1 := pub_cell (HCK.out.1.below hu.has)
          have k2 := pas_cell (HCK.out.2.below hu.has)
          go_wp2_with (fail)
          exact ⟨rfl, hu, Ext.refl _, slot_eq rfl⟩) ?_
        refine sp_op (Ph.eq _) (fun u hu => by
          refine spArg_eq 0 rfl rfl ?_
          refine spArg_nil ?_
          simp only [Act.put, List.setIfInBounds_toArray, List.set_cons_succ, List.set_cons_zero]
          have k1 := pub_cell (HCK.out.1.below hu.has)
          have k2 := pas_cell (HCK.out.2.below hu.has)
          go_wp2_with (fail)
          exact ⟨rfl, hu, Ext.refl _, slot_eq rfl⟩) ?_
        refine sp_op (Ph.eq _) (fun u hu => by
          refine spArg_nil ?_
          have k1 := pub_cell (HCK.out.1.below hu.has)
          have k2 := pas_cell (HCK.out.2.below hu.has)
          go_wp2_with (fail)
          exact ⟨rfl, hu, Ext.refl _, slot_eq rfl⟩) ?_
        refine sp_op (Ph.eq _) (fun u hu => by
          refine spArg_eq 0 rfl rfl ?_
          refine spArg_nil ?_
          simp only [Act.put, List.setIfInBounds_toArray, List.set_cons_succ, List.set_cons_zero]
          have k1 := pub_cell (HCK.out.1.below hu.has)
          have k2 := pas_cell (HCK.out.2.below hu.has)
          go_wp2_with (fail)
          exact ⟨rfl, hu, Ext.refl _, slot_eq rfl⟩) ?_
        refine sp_op (Ph.eq _) (fun u hu => by
          refine spArg_nil ?_
          have k1 := pub_cell (HCK.out.1.below hu.has)
          have k2 := pas_cell (HCK.out.2.below hu.has)
          go_wp2_with (fail)
          exact ⟨rfl, hu, Ext.refl _, slot_eq rfl⟩) ?_
        refine sp_op (Ph.eq _) (fun u hu => by
          refine spArg_eq 0 rfl rfl ?_
          refine spArg_nil ?_
          simp only [Act.put, List.setIfInBounds_toArray, List.set_cons_succ, List.set_cons_zero]
          have k1 := pub_cell (HCK.out.1.below hu.has)
          have k2 := pas_cell (HCK.out.2.below hu.has)
          go_wp2_with ((go_at_call 31; refine (hproduct_any ins B _ _ (HI.out.ext hu.up) HIO.out (by omega)).mono ?_; rintro e_ x_ ⟨rfl, hb_⟩))
          exact ⟨rfl, HoldT.step hst hu hb_, hb_, slot_eq rfl⟩) ?_
        refine sp_op (Ph.eq _) (fun u hu => by
          refine spArg_nil ?_
          have k1 := pub_cell (HCK.out.1.below hu.has)
          have k2 := pas_cell (HCK.out.2.below hu.has)
          go_wp2_with (fail)
          exact ⟨rfl, hu, Ext.refl _, slot_eq rfl⟩) ?_
        refine sp_op (Ph.eq _) (fun u hu => by
          refine spArg_eq 0 rfl rfl ?_
          refine spArg_nil ?_
          simp only [Act.put, List.setIfInBounds_toArray, List.set_cons_succ, List.set_cons_zero]
          have k1 := pub_cell (HCK.out.1.below hu.has)
          have k2 := pas_cell (HCK.out.2.below hu.has)
          go_wp2_with (fail)
          exact ⟨rfl, hu, Ext.refl _, slot_eq rfl⟩) ?_
        refine sp_op (Ph.eq _) (fun u hu => by
          refine spArg_eq 0 rfl rfl ?_
          refine spArg_nil ?_
          simp only [Act.put, List.setIfInBounds_toArray, List.set_cons_succ, List.set_cons_zero]
          have k1 := pub_cell (HCK.out.1.below hu.has)
          have k2 := pas_cell (HCK.out.2.below hu.has)
          go_wp2_with ((go_at_call 31; refine (hproduct_any es B _ _ (HX0.out.ext hu.up) (fun e he => (HXO.out e he).1) (by have := HLL.out; omega)).mono ?_; rintro e_ x_ ⟨rfl, hb_⟩))
          exact ⟨rfl, HoldT.step hst hu hb_, hb_, slot_eq rfl⟩) ?_
        refine sp_op (Ph.eq _) (fun u hu => by
          refine spArg_nil ?_
          have k1 := pub_cell (HCK.out.1.below hu.has)
          have k2 := pas_cell (HCK.out.2.below hu.has)
          go_wp2_with (fail)
          exact ⟨rfl, hu, Ext.refl _, slot_eq rfl⟩) ?_
        refine sp_op (Ph.eq (PV pc ps)) (fun u hu => by
          refine spArg_eq 0 rfl rfl ?_
          refine spArg_nil ?_
          simp only [Act.put, List.setIfInBounds_toArray, List.set_cons_succ, List.set_cons_zero]
          have k1 := pub_cell (HCK.out.1.below hu.has)
          have k2 := pas_cell (HCK.out.2.below hu.has)
          go_wp2_with ((refine wpList_load_mid rfl 43 _ rfl (w.heap.size + 1) 1 rfl _ _ (pas_prf2 (HCK.out.2.below hu.has)) Tryz.underlying43 rfl info_proof ?_))
          exact ⟨rfl, hu, Ext.refl _, slot_eq rfl⟩) ?_
        refine sp_op (Ph.eq _) (fun u hu => by
          refine spArg_eq 9 rfl rfl ?_
          refine spArg_eq 7 rfl rfl ?_
          refine spArg_eq 5 rfl rfl ?_
          refine spArg_eq 2 rfl rfl ?_
          refine spArg_eq 0 rfl rfl ?_
          refine spArg_nil ?_
          simp only [Act.put, List.setIfInBounds_toArray, List.set_cons_succ, List.set_cons_zero]
          have k1 := pub_cell (HCK.out.1.below hu.has)
          have k2 := pas_cell (HCK.out.2.below hu.has)
          go_wp2_with ((go_at_call 33; refine (HEQ.out _).mono ?_; rintro e_ x_ ⟨rfl, hb_⟩))
          exact ⟨rfl, HoldT.step hst hu hb_, hb_, slot_eq rfl⟩) ?_
        refine sp_end ?_
        intro u hu
        refine spArg_eq 11 rfl rfl ?_
        refine spArg_eq 10 rfl rfl ?_
        refine spArg_eq 9 rfl rfl ?_
        refine spArg_eq 8 rfl rfl ?_
        refine spArg_eq 7 rfl rfl ?_
        refine spArg_eq 6 rfl rfl ?_
        refine spArg_eq 5 rfl rfl ?_
        refine spArg_eq 4 rfl rfl ?_
        refine spArg_eq 3 rfl rfl ?_
        refine spArg_eq 2 rfl rfl ?_
        refine spArg_eq 1 rfl rfl ?_
        refine spArg_eq 0 rfl rfl ?_
        refine spArg_nil ?_
        simp only [Act.put, List.setIfInBounds_toArray, List.set_cons_succ, List.set_cons_zero]
        go_wp2_with fail
        go_ret
        exact ⟨rfl, hu.up⟩
  · have hne0 : ((es.length : Int) != (ins.length : Int)) = true := by rw [bne_iff_ne]; omega
    have HD := Lib.hid (show CB = false from by rw [HCB.out, decide_eq_false hll]; rfl)
    clear hll
    go_enter Tryz.func13, Tryz.ntmps13
    go_wp2_with fail
    go_ret
    exact ⟨by rw [HD.out]; rfl, hb0.out⟩
end Go.Proofs.YtmbgcjfmfkddpaaGreat
namespace Go.Proofs.YtmbgcjfmfkddpaaGreat
set_option linter.unusedVariables false
set_option linter.unusedSimpArgs false
open Go Go.RowKit

set_option maxRecDepth 100000 in
set_option maxHeartbeats 4000000 in
theorem HCheckr_any (p : Pub) (ins : List Ent) (x : Pas) (B : Nat) (vi vx : Value) (w : World) (hp : p.ok) (hc : x.p.ok) (hi : SlR entR B w vi ins) (hx : SlR entR B w vx x.es)
    (hio : ∀ e ∈ ins, e.ok) (hxo : ∀ e ∈ x.es, e.ok ∧ e.box.length ≤ 20000000000000) (hil : ins.length ≤ 1000000) :
    Calls Tryz.prog 20 #[.agg p.cells.toArray, vi, .agg #[vx, .int .u64 x.p.c, .int .u64 x.p.s]] w fun e w' => e = .returned (.bool (checkB p ins x)) ∧ Below w.heap.size w w' := by
  obtain ⟨es, pc, ps⟩ := x
  simp only at hx hxo hc ⊢
  obtain ⟨ai, ci, rfl, hci, -⟩ := hi.form
  obtain ⟨ax, cx, rfl, hcx, -⟩ := hx.form
  have HI := Lib.hid hi; have HX0 := Lib.hid hx; have HIO := Lib.hid hio; have HXO := Lib.hid hxo; have HPO := Lib.hid hp; have HCO := Lib.hid hc
  clear hi hx hio hxo hp hc
  have HC0 := Lib.hid (show CkC w p.cells.toArray #[.slice ax es.length cx, .int .u64 pc, .int .u64 ps] ((w.alloc (.cells p.cells.toArray 49)).alloc (.cells #[.slice ax es.length cx, .int .u64 pc, .int .u64 ps] 45)) from ⟨(Blk.new _ _ _).alloc _, Blk.new2 _ _ _ _⟩)
  have hb0 := Lib.hid (show Ext w ((w.alloc (.cells p.cells.toArray 49)).alloc (.cells #[.slice ax es.length cx, .int .u64 pc, .int .u64 ps] 45)) from (Ext.alloc _ _).tr (Ext.alloc _ _))
  have HCB := Lib.hid (show checkB p ins ⟨es, ⟨pc, ps⟩⟩ = (decide (es.length = ins.length) && es.all (chkE ins) && decide (equalOk p.base p.blind (prodE ins) (prodE es) pc ps)) from rfl)
  generalize checkB p ins ⟨es, ⟨pc, ps⟩⟩ = CB at *
  have hq0 := pas_cell HC0.out.2
  by_cases hll : es.length = ins.length
  · have HLL := Lib.hid hll
    have hne0 : ((es.length : Int) != (ins.length : Int)) = false := by rw [hll]; exact bne_self_eq_false _
    have hel : es.length ≤ 1000000 := by omega
    have hcb := HCB.out
    rw [decide_eq_true hll, Bool.true_and] at hcb
    have HCC := Lib.hid hcb
    clear HCB hcb hll
    go_enter Tryz.func20, Tryz.ntmps20
    go_wp2_with fail
    clear hq0
    go_loopw [7] (fun iv wr => ∃ n : Nat, iv = .int .i64 n ∧ n ≤ es.length ∧ (es.take n).all (chkE ins) = true ∧ CkC w p.cells.toArray #[.slice ax es.length cx, .int .u64 pc, .int .u64 ps] wr ∧ Ext w wr) (fun iv _ => es.length - (intOf iv).toNat)
    case atStart => exact ⟨0, rfl, Nat.zero_le _, rfl, HC0.out, hb0.out⟩
    case round =>
      obtain ⟨n, rfl, hn, ha, hCC, hX⟩ := hrel
      have HX := Lib.hid hX; have HCK := Lib.hid hCC; have HA := Lib.hid ha
      clear hX hCC ha
      by_cases hlt : n < es.length
      · obtain ⟨bx, ox, cx', e1, -, -⟩ := HX0.out.open (by omega)
        obtain ⟨rfl, rfl⟩ : ax = some ⟨bx, ox, none⟩ ∧ cx = cx' := by injection e1 with e1 _ e3; exact ⟨e1, e3⟩
        clear e1
        obtain ⟨bi, oi, ci', e1, -, -⟩ := HI.out.open (by have := HLL.out; omega)
        obtain ⟨rfl, rfl⟩ : ai = some ⟨bi, oi, none⟩ ∧ ci = ci' := by injection e1 with e1 _ e3; exact ⟨e1, e3⟩
        clear e1
        obtain ⟨e, he⟩ : ∃ e, es[n]? = some e := ⟨_, List.getElem?_eq_getElem hlt⟩
        obtain ⟨e0, he0⟩ : ∃ e, ins[0]? = some e := ⟨_, List.getElem?_eq_getElem (by have := HLL.out; omega)⟩
        obtain ⟨ve, hrg, hve⟩ := slE_at (HX0.out.ext HX.out) n e he
        obtain ⟨ae, ce, rfl, -, -⟩ := sees_form hve
        obtain ⟨v0, hrg0, hv0⟩ := slE_at (HI.out.ext HX.out) 0 e0 he0
        obtain ⟨a0, c0, rfl, ha0, hc0⟩ := sees_form hv0
        obtain ⟨⟨hx0, hx1⟩, hbl⟩ := HXO.out e (List.mem_of_getElem? he)
        have hil0 : 0 < ins.length := by have := HLL.out; omega
        have hltI : n < ins.length := by have := HLL.out; omega
        have hcE := chkE_some (e := e) he0
        have hz := hrg0 1 _ rfl
        rw [show oi + 0 * 2 + 1 = oi + 1 from by omega] at hz
        have HZ := Lib.hid hz
        have HRG := Lib.hid hrg; have HE := Lib.hid he
        clear hrg hve hrg0 hv0 hz he he0
        have hst := stabE wr
        go_wp2_with fail
        have hk6 : HoldT (fun u => Ext wr u) w wr.drew := HoldT.drew hst ⟨Ext.refl _, HX.out⟩
        have hd1 : decide (es.length ≤ n) = false := decide_eq_false (by omega)
        have HRT := Lib.hid fun (u : World) => Rightr_any e.x u hx0 hx1
        by_cases hok : okP e.x
        · rw [decide_eq_true hok] at HRT
          by_cases hbx : e.box.length + 16 = e0.box.length
          · have hne : ((e.box.length : Int) != (e0.box.length : Int) - 16) = false := by rw [bne_eq_false_iff_eq]; omega
            have HA2 := Lib.hid (all_take_succ HA.out HE.out (by rw [hcE, decide_eq_true hok, decide_eq_true hbx]; rfl))
            clear hok hbx hcE
            try change Code.wp _ _ _ (Act.mk _ _) _
            refine wp_region_runR Ext 24 56 (HoldT (fun u => Ext wr u) _) [[], [(0, 20)], [], [(1, 21), (2, 22)], [(3, 23)], [(4, 24)], [(5, 25)], [(6, 26)], [(7, 27)], [(8, 28)], [(9, 29), (8, 28)], [(8, 28)], [(10, 30), (11, 31), (8, 28)], [(12, 32), (8, 28)], [(13, 33), (8, 28)], [(14, 34), (8, 28)], [(8, 28)], [(16, 36), (8, 28)], [(17, 37), (8, 28)], [(18, 38), (8, 28)], [(19, 39), (8, 28)], [(20, 40), (8, 28)], [(15, 35), (21, 41), (8, 28)], [(8, 28), (22, 42)]] [(0, 20), (1, 21), (2, 22), (3, 23), (4, 24), (5, 25), (6, 26), (7, 27), (8, 28), (9, 29), (10, 30), (11, 31), (12, 32), (13, 33), (14, 34), (15, 35), (16, 36), (17, 37), (18, 38), (19, 39), (20, 40), (21, 41), (22, 42), (23, 43)] (by kernel_rfl) (by kernel_rfl) (by first | rfl | simp) (hk6) ?_
            simp only [List.take_succ_cons, List.take_zero, List.drop_succ_cons, List.drop_zero]
            refine sp_op (Ph.eq _) (fun u hu => by
              refine spArg_nil ?_
              have k1 := (pas_cell (HCK.out.2.below hu.has)).1
              have k2 : u.cell? ⟨bx, ox + n * 2, none⟩ = some (.int .u64 e.x) := by have := range_below HRG.out hu.has 0 _ rfl; rwa [Nat.add_zero] at this
              have k3 : u.cell? ⟨bx, ox + n * 2 + 1, none⟩ = some (.slice ae e.box.length ce) := range_below HRG.out hu.has 1 _ rfl
              have k4 := (Below.cell hu.has (World.block_lt_of_cell? _ _ HZ.out)).trans HZ.out
              go_wp2_with (fail)
              exact ⟨rfl, hu, Ext.refl _, slot_eq rfl⟩) ?_
            refine sp_op (Ph.eq _) (fun u hu => by
              refine spArg_eq 0 rfl rfl ?_
              refine spArg_nil ?_
              simp only [Act.put, List.setIfInBounds_toArray, List.set_cons_succ, List.set_cons_zero]
              have k1 := (pas_cell (HCK.out.2.below hu.has)).1
              have k2 : u.cell? ⟨bx, ox + n * 2, none⟩ = some (.int .u64 e.x) := by have := range_below HRG.out hu.has 0 _ rfl; rwa [Nat.add_zero] at this
              have k3 : u.cell? ⟨bx, ox + n * 2 + 1, none⟩ = some (.slice ae e.box.length ce) := range_below HRG.out hu.has 1 _ rfl
              have k4 := (Below.cell hu.has (World.block_lt_of_cell? _ _ HZ.out)).trans HZ.out
              go_wp2_with (fail)
              exact ⟨rfl, hu, Ext.refl _, slot_eq rfl⟩) ?_
            refine sp_op (Ph.eq _) (fun u hu => by
              refine spArg_nil ?_
              have k1 := (pas_cell (HCK.out.2.below hu.has)).1
              have k2 : u.cell? ⟨bx, ox + n * 2, none⟩ = some (.int .u64 e.x) := by have := range_below HRG.out hu.has 0 _ rfl; rwa [Nat.add_zero] at this
              have k3 : u.cell? ⟨bx, ox + n * 2 + 1, none⟩ = some (.slice ae e.box.length ce) := range_below HRG.out hu.has 1 _ rfl
              have k4 := (Below.cell hu.has (World.block_lt_of_cell? _ _ HZ.out)).trans HZ.out
              go_wp2_with (fail)
              exact ⟨rfl, hu, Ext.refl _, slot_eq rfl⟩) ?_
            refine sp_op (Ph.eq _) (fun u hu => by
              refine spArg_eq 1 rfl rfl ?_
              refine spArg_eq 0 rfl rfl ?_
              refine spArg_nil ?_
              simp only [Act.put, List.setIfInBounds_toArray, List.set_cons_succ, List.set_cons_zero]
              have k1 := (pas_cell (HCK.out.2.below hu.has)).1
              have k2 : u.cell? ⟨bx, ox + n * 2, none⟩ = some (.int .u64 e.x) := by have := range_below HRG.out hu.has 0 _ rfl; rwa [Nat.add_zero] at this
              have k3 : u.cell? ⟨bx, ox + n * 2 + 1, none⟩ = some (.slice ae e.box.length ce) := range_below HRG.out hu.has 1 _ rfl
              have k4 := (Below.cell hu.has (World.block_lt_of_cell? _ _ HZ.out)).trans HZ.out
              go_wp2_with (fail)
              exact ⟨rfl, hu, Ext.refl _, slot_eq rfl⟩) ?_
            refine sp_op (Ph.eq _) (fun u hu => by
              refine spArg_eq 0 rfl rfl ?_
              refine spArg_nil ?_
              simp only [Act.put, List.setIfInBounds_toArray, List.set_cons_succ, List.set_cons_zero]
              have k1 := (pas_cell (HCK.out.2.below hu.has)).1
              have k2 : u.cell? ⟨bx, ox + n * 2, none⟩ = some (.int .u64 e.x) := by have := range_below HRG.out hu.has 0 _ rfl; rwa [Nat.add_zero] at this
              have k3 : u.cell? ⟨bx, ox + n * 2 + 1, none⟩ = some (.slice ae e.box.length ce) := range_below HRG.out hu.has 1 _ rfl
              have k4 := (Below.cell hu.has (World.block_lt_of_cell? _ _ HZ.out)).trans HZ.out
              go_wp2_with (fail)
              exact ⟨rfl, hu, Ext.refl _, slot_eq rfl⟩) ?_
            refine sp_op (Ph.eq _) (fun u hu => by
              refine spArg_eq 0 rfl rfl ?_
              refine spArg_nil ?_
              simp only [Act.put, List.setIfInBounds_toArray, List.set_cons_succ, List.set_cons_zero]
              have k1 := (pas_cell (HCK.out.2.below hu.has)).1
              have k2 : u.cell? ⟨bx, ox + n * 2, none⟩ = some (.int .u64 e.x) := by have := range_below HRG.out hu.has 0 _ rfl; rwa [Nat.add_zero] at this
              have k3 : u.cell? ⟨bx, ox + n * 2 + 1, none⟩ = some (.slice ae e.box.length ce) := range_below HRG.out hu.has 1 _ rfl
              have k4 := (Below.cell hu.has (World.block_lt_of_cell? _ _ HZ.out)).trans HZ.out
              go_wp2_with (fail)
              exact ⟨rfl, hu, Ext.refl _, slot_eq rfl⟩) ?_
            refine sp_op (Ph.eq _) (fun u hu => by
              refine spArg_eq 0 rfl rfl ?_
              refine spArg_nil ?_
              simp only [Act.put, List.setIfInBounds_toArray, List.set_cons_succ, List.set_cons_zero]
              have k1 := (pas_cell (HCK.out.2.below hu.has)).1
              have k2 : u.cell? ⟨bx, ox + n * 2, none⟩ = some (.int .u64 e.x) := by have := range_below HRG.out hu.has 0 _ rfl; rwa [Nat.add_zero] at this
              have k3 : u.cell? ⟨bx, ox + n * 2 + 1, none⟩ = some (.slice ae e.box.length ce) := range_below HRG.out hu.has 1 _ rfl
              have k4 := (Below.cell hu.has (World.block_lt_of_cell? _ _ HZ.out)).trans HZ.out
              go_wp2_with ((go_at_call 26; refine (HRT.out _).mono ?_; rintro e_ x_ ⟨rfl, rfl⟩))
              exact ⟨rfl, hu, Ext.refl _, slot_eq rfl⟩) ?_
            refine sp_op (Ph.eq _) (fun u hu => by
              refine spArg_eq 0 rfl rfl ?_
              refine spArg_nil ?_
              simp only [Act.put, List.setIfInBounds_toArray, List.set_cons_succ, List.set_cons_zero]
              have k1 := (pas_cell (HCK.out.2.below hu.has)).1
              have k2 : u.cell? ⟨bx, ox + n * 2, none⟩ = some (.int .u64 e.x) := by have := range_below HRG.out hu.has 0 _ rfl; rwa [Nat.add_zero] at this
              have k3 : u.cell? ⟨bx, ox + n * 2 + 1, none⟩ = some (.slice ae e.box.length ce) := range_below HRG.out hu.has 1 _ rfl
              have k4 := (Below.cell hu.has (World.block_lt_of_cell? _ _ HZ.out)).trans HZ.out
              go_wp2_with (fail)
              exact ⟨rfl, hu, Ext.refl _, slot_eq rfl⟩) ?_
            refine sp_op (Ph.eq _) (fun u hu => by
              refine spArg_eq 0 rfl rfl ?_
              refine spArg_nil ?_
              simp only [Act.put, List.setIfInBounds_toArray, List.set_cons_succ, List.set_cons_zero]
              have k1 := (pas_cell (HCK.out.2.below hu.has)).1
              have k2 : u.cell? ⟨bx, ox + n * 2, none⟩ = some (.int .u64 e.x) := by have := range_below HRG.out hu.has 0 _ rfl; rwa [Nat.add_zero] at this
              have k3 : u.cell? ⟨bx, ox + n * 2 + 1, none⟩ = some (.slice ae e.box.length ce) := range_below HRG.out hu.has 1 _ rfl
              have k4 := (Below.cell hu.has (World.block_lt_of_cell? _ _ HZ.out)).trans HZ.out
              go_wp2_with (fail)
              exact ⟨rfl, hu, Ext.refl _, slot_eq rfl⟩) ?_
            refine sp_op (Ph.eq _) (fun u hu => by
              refine spArg_eq 0 rfl rfl ?_
              refine spArg_nil ?_
              simp only [Act.put, List.setIfInBounds_toArray, List.set_cons_succ, List.set_cons_zero]
              have k1 := (pas_cell (HCK.out.2.below hu.has)).1
              have k2 : u.cell? ⟨bx, ox + n * 2, none⟩ = some (.int .u64 e.x) := by have := range_below HRG.out hu.has 0 _ rfl; rwa [Nat.add_zero] at this
              have k3 : u.cell? ⟨bx, ox + n * 2 + 1, none⟩ = some (.slice ae e.box.length ce) := range_below HRG.out hu.has 1 _ rfl
              have k4 := (Below.cell hu.has (World.block_lt_of_cell? _ _ HZ.out)).trans HZ.out
              go_wp2_with (fail)
              exact ⟨rfl, hu, Ext.refl _, slot_eq rfl⟩) ?_
            refine sp_op (Ph.eq _) (fun u hu => by
              refine spArg_eq 0 rfl rfl ?_
              refine spArg_eq 1 rfl rfl ?_
              refine spArg_nil ?_
              simp only [Act.put, List.setIfInBounds_toArray, List.set_cons_succ, List.set_cons_zero]
              have k1 := (pas_cell (HCK.out.2.below hu.has)).1
              have k2 : u.cell? ⟨bx, ox + n * 2, none⟩ = some (.int .u64 e.x) := by have := range_below HRG.out hu.has 0 _ rfl; rwa [Nat.add_zero] at this
              have k3 : u.cell? ⟨bx, ox + n * 2 + 1, none⟩ = some (.slice ae e.box.length ce) := range_below HRG.out hu.has 1 _ rfl
              have k4 := (Below.cell hu.has (World.block_lt_of_cell? _ _ HZ.out)).trans HZ.out
              go_wp2_with (fail)
              exact ⟨rfl, hu, Ext.refl _, slot_eq rfl⟩) ?_
            refine sp_op (Ph.eq _) (fun u hu => by
              refine spArg_eq 2 rfl rfl ?_
              refine spArg_nil ?_
              simp only [Act.put, List.setIfInBounds_toArray, List.set_cons_succ, List.set_cons_zero]
              have k1 := (pas_cell (HCK.out.2.below hu.has)).1
              have k2 : u.cell? ⟨bx, ox + n * 2, none⟩ = some (.int .u64 e.x) := by have := range_below HRG.out hu.has 0 _ rfl; rwa [Nat.add_zero] at this
              have k3 : u.cell? ⟨bx, ox + n * 2 + 1, none⟩ = some (.slice ae e.box.length ce) := range_below HRG.out hu.has 1 _ rfl
              have k4 := (Below.cell hu.has (World.block_lt_of_cell? _ _ HZ.out)).trans HZ.out
              go_wp2_with (fail)
              exact ⟨rfl, hu, Ext.refl _, slot_eq rfl⟩) ?_
            refine sp_op (Ph.eq _) (fun u hu => by
              refine spArg_eq 1 rfl rfl ?_
              refine spArg_eq 0 rfl rfl ?_
              refine spArg_eq 3 rfl rfl ?_
              refine spArg_nil ?_
              simp only [Act.put, List.setIfInBounds_toArray, List.set_cons_succ, List.set_cons_zero]
              have k1 := (pas_cell (HCK.out.2.below hu.has)).1
              have k2 : u.cell? ⟨bx, ox + n * 2, none⟩ = some (.int .u64 e.x) := by have := range_below HRG.out hu.has 0 _ rfl; rwa [Nat.add_zero] at this
              have k3 : u.cell? ⟨bx, ox + n * 2 + 1, none⟩ = some (.slice ae e.box.length ce) := range_below HRG.out hu.has 1 _ rfl
              have k4 := (Below.cell hu.has (World.block_lt_of_cell? _ _ HZ.out)).trans HZ.out
              go_wp2_with (fail)
              exact ⟨rfl, hu, Ext.refl _, slot_eq rfl⟩) ?_
            refine sp_op (Ph.eq _) (fun u hu => by
              refine spArg_eq 0 rfl rfl ?_
              refine spArg_eq 4 rfl rfl ?_
              refine spArg_nil ?_
              simp only [Act.put, List.setIfInBounds_toArray, List.set_cons_succ, List.set_cons_zero]
              have k1 := (pas_cell (HCK.out.2.below hu.has)).1
              have k2 : u.cell? ⟨bx, ox + n * 2, none⟩ = some (.int .u64 e.x) := by have := range_below HRG.out hu.has 0 _ rfl; rwa [Nat.add_zero] at this
              have k3 : u.cell? ⟨bx, ox + n * 2 + 1, none⟩ = some (.slice ae e.box.length ce) := range_below HRG.out hu.has 1 _ rfl
              have k4 := (Below.cell hu.has (World.block_lt_of_cell? _ _ HZ.out)).trans HZ.out
              go_wp2_with (fail)
              exact ⟨rfl, hu, Ext.refl _, slot_eq rfl⟩) ?_
            refine sp_op (Ph.eq _) (fun u hu => by
              refine spArg_eq 0 rfl rfl ?_
              refine spArg_eq 5 rfl rfl ?_
              refine spArg_nil ?_
              simp only [Act.put, List.setIfInBounds_toArray, List.set_cons_succ, List.set_cons_zero]
              have k1 := (pas_cell (HCK.out.2.below hu.has)).1
              have k2 : u.cell? ⟨bx, ox + n * 2, none⟩ = some (.int .u64 e.x) := by have := range_below HRG.out hu.has 0 _ rfl; rwa [Nat.add_zero] at this
              have k3 : u.cell? ⟨bx, ox + n * 2 + 1, none⟩ = some (.slice ae e.box.length ce) := range_below HRG.out hu.has 1 _ rfl
              have k4 := (Below.cell hu.has (World.block_lt_of_cell? _ _ HZ.out)).trans HZ.out
              go_wp2_with (fail)
              exact ⟨rfl, hu, Ext.refl _, slot_eq rfl⟩) ?_
            refine sp_op (Ph.eq _) (fun u hu => by
              refine spArg_eq 0 rfl rfl ?_
              refine spArg_eq 6 rfl rfl ?_
              refine spArg_nil ?_
              simp only [Act.put, List.setIfInBounds_toArray, List.set_cons_succ, List.set_cons_zero]
              have k1 := (pas_cell (HCK.out.2.below hu.has)).1
              have k2 : u.cell? ⟨bx, ox + n * 2, none⟩ = some (.int .u64 e.x) := by have := range_below HRG.out hu.has 0 _ rfl; rwa [Nat.add_zero] at this
              have k3 : u.cell? ⟨bx, ox + n * 2 + 1, none⟩ = some (.slice ae e.box.length ce) := range_below HRG.out hu.has 1 _ rfl
              have k4 := (Below.cell hu.has (World.block_lt_of_cell? _ _ HZ.out)).trans HZ.out
              go_wp2_with (fail)
              exact ⟨rfl, hu, Ext.refl _, slot_eq rfl⟩) ?_
            refine sp_op (Ph.eq _) (fun u hu => by
              refine spArg_eq 7 rfl rfl ?_
              refine spArg_nil ?_
              simp only [Act.put, List.setIfInBounds_toArray, List.set_cons_succ, List.set_cons_zero]
              have k1 := (pas_cell (HCK.out.2.below hu.has)).1
              have k2 : u.cell? ⟨bx, ox + n * 2, none⟩ = some (.int .u64 e.x) := by have := range_below HRG.out hu.has 0 _ rfl; rwa [Nat.add_zero] at this
              have k3 : u.cell? ⟨bx, ox + n * 2 + 1, none⟩ = some (.slice ae e.box.length ce) := range_below HRG.out hu.has 1 _ rfl
              have k4 := (Below.cell hu.has (World.block_lt_of_cell? _ _ HZ.out)).trans HZ.out
              go_wp2_with (fail)
              exact ⟨rfl, hu, Ext.refl _, slot_eq rfl⟩) ?_
            refine sp_op (Ph.eq _) (fun u hu => by
              refine spArg_eq 0 rfl rfl ?_
              refine spArg_eq 8 rfl rfl ?_
              refine spArg_nil ?_
              simp only [Act.put, List.setIfInBounds_toArray, List.set_cons_succ, List.set_cons_zero]
              have k1 := (pas_cell (HCK.out.2.below hu.has)).1
              have k2 : u.cell? ⟨bx, ox + n * 2, none⟩ = some (.int .u64 e.x) := by have := range_below HRG.out hu.has 0 _ rfl; rwa [Nat.add_zero] at this
              have k3 : u.cell? ⟨bx, ox + n * 2 + 1, none⟩ = some (.slice ae e.box.length ce) := range_below HRG.out hu.has 1 _ rfl
              have k4 := (Below.cell hu.has (World.block_lt_of_cell? _ _ HZ.out)).trans HZ.out
              go_wp2_with (fail)
              exact ⟨rfl, hu, Ext.refl _, slot_eq rfl⟩) ?_
            refine sp_op (Ph.eq _) (fun u hu => by
              refine spArg_eq 0 rfl rfl ?_
              refine spArg_eq 9 rfl rfl ?_
              refine spArg_nil ?_
              simp only [Act.put, List.setIfInBounds_toArray, List.set_cons_succ, List.set_cons_zero]
              have k1 := (pas_cell (HCK.out.2.below hu.has)).1
              have k2 : u.cell? ⟨bx, ox + n * 2, none⟩ = some (.int .u64 e.x) := by have := range_below HRG.out hu.has 0 _ rfl; rwa [Nat.add_zero] at this
              have k3 : u.cell? ⟨bx, ox + n * 2 + 1, none⟩ = some (.slice ae e.box.length ce) := range_below HRG.out hu.has 1 _ rfl
              have k4 := (Below.cell hu.has (World.block_lt_of_cell? _ _ HZ.out)).trans HZ.out
              go_wp2_with (fail)
              exact ⟨rfl, hu, Ext.refl _, slot_eq rfl⟩) ?_
            refine sp_op (Ph.eq _) (fun u hu => by
              refine spArg_eq 0 rfl rfl ?_
              refine spArg_eq 10 rfl rfl ?_
              refine spArg_nil ?_
              simp only [Act.put, List.setIfInBounds_toArray, List.set_cons_succ, List.set_cons_zero]
              have k1 := (pas_cell (HCK.out.2.below hu.has)).1
              have k2 : u.cell? ⟨bx, ox + n * 2, none⟩ = some (.int .u64 e.x) := by have := range_below HRG.out hu.has 0 _ rfl; rwa [Nat.add_zero] at this
              have k3 : u.cell? ⟨bx, ox + n * 2 + 1, none⟩ = some (.slice ae e.box.length ce) := range_below HRG.out hu.has 1 _ rfl
              have k4 := (Below.cell hu.has (World.block_lt_of_cell? _ _ HZ.out)).trans HZ.out
              go_wp2_with (fail)
              exact ⟨rfl, hu, Ext.refl _, slot_eq rfl⟩) ?_
            refine sp_op (Ph.eq _) (fun u hu => by
              refine spArg_eq 0 rfl rfl ?_
              refine spArg_eq 11 rfl rfl ?_
              refine spArg_nil ?_
              simp only [Act.put, List.setIfInBounds_toArray, List.set_cons_succ, List.set_cons_zero]
              have k1 := (pas_cell (HCK.out.2.below hu.has)).1
              have k2 : u.cell? ⟨bx, ox + n * 2, none⟩ = some (.int .u64 e.x) := by have := range_below HRG.out hu.has 0 _ rfl; rwa [Nat.add_zero] at this
              have k3 : u.cell? ⟨bx, ox + n * 2 + 1, none⟩ = some (.slice ae e.box.length ce) := range_below HRG.out hu.has 1 _ rfl
              have k4 := (Below.cell hu.has (World.block_lt_of_cell? _ _ HZ.out)).trans HZ.out
              go_wp2_with (fail)
              exact ⟨rfl, hu, Ext.refl _, slot_eq rfl⟩) ?_
            refine sp_op (Ph.eq _) (fun u hu => by
              refine spArg_eq 0 rfl rfl ?_
              refine spArg_eq 12 rfl rfl ?_
              refine spArg_nil ?_
              simp only [Act.put, List.setIfInBounds_toArray, List.set_cons_succ, List.set_cons_zero]
              have k1 := (pas_cell (HCK.out.2.below hu.has)).1
              have k2 : u.cell? ⟨bx, ox + n * 2, none⟩ = some (.int .u64 e.x) := by have := range_below HRG.out hu.has 0 _ rfl; rwa [Nat.add_zero] at this
              have k3 : u.cell? ⟨bx, ox + n * 2 + 1, none⟩ = some (.slice ae e.box.length ce) := range_below HRG.out hu.has 1 _ rfl
              have k4 := (Below.cell hu.has (World.block_lt_of_cell? _ _ HZ.out)).trans HZ.out
              go_wp2_with (fail)
              exact ⟨rfl, hu, Ext.refl _, slot_eq rfl⟩) ?_
            refine sp_op (Ph.eq _) (fun u hu => by
              refine spArg_eq 6 rfl rfl ?_
              refine spArg_eq 0 rfl rfl ?_
              refine spArg_eq 13 rfl rfl ?_
              refine spArg_nil ?_
              simp only [Act.put, List.setIfInBounds_toArray, List.set_cons_succ, List.set_cons_zero]
              have k1 := (pas_cell (HCK.out.2.below hu.has)).1
              have k2 : u.cell? ⟨bx, ox + n * 2, none⟩ = some (.int .u64 e.x) := by have := range_below HRG.out hu.has 0 _ rfl; rwa [Nat.add_zero] at this
              have k3 : u.cell? ⟨bx, ox + n * 2 + 1, none⟩ = some (.slice ae e.box.length ce) := range_below HRG.out hu.has 1 _ rfl
              have k4 := (Below.cell hu.has (World.block_lt_of_cell? _ _ HZ.out)).trans HZ.out
              go_wp2_with (fail)
              exact ⟨rfl, hu, Ext.refl _, slot_eq rfl⟩) ?_
            refine sp_op (Ph.eq _) (fun u hu => by
              refine spArg_eq 14 rfl rfl ?_
              refine spArg_eq 0 rfl rfl ?_
              refine spArg_nil ?_
              simp only [Act.put, List.setIfInBounds_toArray, List.set_cons_succ, List.set_cons_zero]
              have k1 := (pas_cell (HCK.out.2.below hu.has)).1
              have k2 : u.cell? ⟨bx, ox + n * 2, none⟩ = some (.int .u64 e.x) := by have := range_below HRG.out hu.has 0 _ rfl; rwa [Nat.add_zero] at this
              have k3 : u.cell? ⟨bx, ox + n * 2 + 1, none⟩ = some (.slice ae e.box.length ce) := range_below HRG.out hu.has 1 _ rfl
              have k4 := (Below.cell hu.has (World.block_lt_of_cell? _ _ HZ.out)).trans HZ.out
              go_wp2_with (fail)
              exact ⟨rfl, hu, Ext.refl _, slot_eq rfl⟩) ?_
            refine sp_end ?_
            intro u hu
            refine spArg_eq 23 rfl rfl ?_
            refine spArg_eq 22 rfl rfl ?_
            refine spArg_eq 21 rfl rfl ?_
            refine spArg_eq 20 rfl rfl ?_
            refine spArg_eq 19 rfl rfl ?_
            refine spArg_eq 18 rfl rfl ?_
            refine spArg_eq 17 rfl rfl ?_
            refine spArg_eq 16 rfl rfl ?_
            refine spArg_eq 15 rfl rfl ?_
            refine spArg_eq 14 rfl rfl ?_
            refine spArg_eq 13 rfl rfl ?_
            refine spArg_eq 12 rfl rfl ?_
            refine spArg_eq 11 rfl rfl ?_
            refine spArg_eq 10 rfl rfl ?_
            refine spArg_eq 9 rfl rfl ?_
            refine spArg_eq 8 rfl rfl ?_
            refine spArg_eq 7 rfl rfl ?_
            refine spArg_eq 6 rfl rfl ?_
            refine spArg_eq 5 rfl rfl ?_
            refine spArg_eq 4 rfl rfl ?_
            refine spArg_eq 3 rfl rfl ?_
            refine spArg_eq 2 rfl rfl ?_
            refine spArg_eq 1 rfl rfl ?_
            refine spArg_eq 0 rfl rfl ?_
            refine spArg_nil ?_
            simp only [Act.put, List.setIfInBounds_toArray, List.set_cons_succ, List.set_cons_zero]
            go_wp2_with fail
            go_roundw
            case rel => exact ⟨n + 1, rfl, by omega, HA2.out, HCK.out.below hu.has, hu.up⟩
            case measure => (simp [intOf] <;> omega)
          · have hne : ((e.box.length : Int) != (e0.box.length : Int) - 16) = true := by rw [bne_iff_ne]; omega
            have HF := Lib.hid (show CB = false from by rw [HCC.out, all_false HE.out (by rw [hcE, decide_eq_false hbx, Bool.and_false])]; rfl)
            clear hok hbx hcE
            try change Code.wp _ _ _ (Act.mk _ _) _
            refine wp_region_runR Ext 24 56 (HoldT (fun u => Ext wr u) _) [[], [(0, 20)], [], [(1, 21), (2, 22)], [(3, 23)], [(4, 24)], [(5, 25)], [(6, 26)], [(7, 27)], [(8, 28)], [(9, 29), (8, 28)], [(8, 28)], [(10, 30), (11, 31), (8, 28)], [(12, 32), (8, 28)], [(13, 33), (8, 28)], [(14, 34), (8, 28)], [(8, 28)], [(16, 36), (8, 28)], [(17, 37), (8, 28)], [(18, 38), (8, 28)], [(19, 39), (8, 28)], [(20, 40), (8, 28)], [(15, 35), (21, 41), (8, 28)], [(8, 28), (22, 42)]] [(0, 20), (1, 21), (2, 22), (3, 23), (4, 24), (5, 25), (6, 26), (7, 27), (8, 28), (9, 29), (10, 30), (11, 31), (12, 32), (13, 33), (14, 34), (15, 35), (16, 36), (17, 37), (18, 38), (19, 39), (20, 40), (21, 41), (22, 42), (23, 43)] (by kernel_rfl) (by kernel_rfl) (by first | rfl | simp) (hk6) ?_
            simp only [List.take_succ_cons, List.take_zero, List.drop_succ_cons, List.drop_zero]
            refine sp_op (Ph.eq _) (fun u hu => by
              refine spArg_nil ?_
              have k1 := (pas_cell (HCK.out.2.below hu.has)).1
              have k2 : u.cell? ⟨bx, ox + n * 2, none⟩ = some (.int .u64 e.x) := by have := range_below HRG.out hu.has 0 _ rfl; rwa [Nat.add_zero] at this
              have k3 : u.cell? ⟨bx, ox + n * 2 + 1, none⟩ = some (.slice ae e.box.length ce) := range_below HRG.out hu.has 1 _ rfl
              have k4 := (Below.cell hu.has (World.block_lt_of_cell? _ _ HZ.out)).trans HZ.out
              go_wp2_with (fail)
              exact ⟨rfl, hu, Ext.refl _, slot_eq rfl⟩) ?_
            refine sp_op (Ph.eq _) (fun u hu => by
              refine spArg_eq 0 rfl rfl ?_
              refine spArg_nil ?_
              simp only [Act.put, List.setIfInBounds_toArray, List.set_cons_succ, List.set_cons_zero]
              have k1 := (pas_cell (HCK.out.2.below hu.has)).1
              have k2 : u.cell? ⟨bx, ox + n * 2, none⟩ = some (.int .u64 e.x) := by have := range_below HRG.out hu.has 0 _ rfl; rwa [Nat.add_zero] at this
              have k3 : u.cell? ⟨bx, ox + n * 2 + 1, none⟩ = some (.slice ae e.box.length ce) := range_below HRG.out hu.has 1 _ rfl
              have k4 := (Below.cell hu.has (World.block_lt_of_cell? _ _ HZ.out)).trans HZ.out
              go_wp2_with (fail)
              exact ⟨rfl, hu, Ext.refl _, slot_eq rfl⟩) ?_
            refine sp_op (Ph.eq _) (fun u hu => by
              refine spArg_nil ?_
              have k1 := (pas_cell (HCK.out.2.below hu.has)).1
              have k2 : u.cell? ⟨bx, ox + n * 2, none⟩ = some (.int .u64 e.x) := by have := range_below HRG.out hu.has 0 _ rfl; rwa [Nat.add_zero] at this
              have k3 : u.cell? ⟨bx, ox + n * 2 + 1, none⟩ = some (.slice ae e.box.length ce) := range_below HRG.out hu.has 1 _ rfl
              have k4 := (Below.cell hu.has (World.block_lt_of_cell? _ _ HZ.out)).trans HZ.out
              go_wp2_with (fail)
              exact ⟨rfl, hu, Ext.refl _, slot_eq rfl⟩) ?_
            refine sp_op (Ph.eq _) (fun u hu => by
              refine spArg_eq 1 rfl rfl ?_
              refine spArg_eq 0 rfl rfl ?_
              refine spArg_nil ?_
              simp only [Act.put, List.setIfInBounds_toArray, List.set_cons_succ, List.set_cons_zero]
              have k1 := (pas_cell (HCK.out.2.below hu.has)).1
              have k2 : u.cell? ⟨bx, ox + n * 2, none⟩ = some (.int .u64 e.x) := by have := range_below HRG.out hu.has 0 _ rfl; rwa [Nat.add_zero] at this
              have k3 : u.cell? ⟨bx, ox + n * 2 + 1, none⟩ = some (.slice ae e.box.length ce) := range_below HRG.out hu.has 1 _ rfl
              have k4 := (Below.cell hu.has (World.block_lt_of_cell? _ _ HZ.out)).trans HZ.out
              go_wp2_with (fail)
              exact ⟨rfl, hu, Ext.refl _, slot_eq rfl⟩) ?_
            refine sp_op (Ph.eq _) (fun u hu => by
              refine spArg_eq 0 rfl rfl ?_
              refine spArg_nil ?_
              simp only [Act.put, List.setIfInBounds_toArray, List.set_cons_succ, List.set_cons_zero]
              have k1 := (pas_cell (HCK.out.2.below hu.has)).1
              have k2 : u.cell? ⟨bx, ox + n * 2, none⟩ = some (.int .u64 e.x) := by have := range_below HRG.out hu.has 0 _ rfl; rwa [Nat.add_zero] at this
              have k3 : u.cell? ⟨bx, ox + n * 2 + 1, none⟩ = some (.slice ae e.box.length ce) := range_below HRG.out hu.has 1 _ rfl
              have k4 := (Below.cell hu.has (World.block_lt_of_cell? _ _ HZ.out)).trans HZ.out
              go_wp2_with (fail)
              exact ⟨rfl, hu, Ext.refl _, slot_eq rfl⟩) ?_
            refine sp_op (Ph.eq _) (fun u hu => by
              refine spArg_eq 0 rfl rfl ?_
              refine spArg_nil ?_
              simp only [Act.put, List.setIfInBounds_toArray, List.set_cons_succ, List.set_cons_zero]
              have k1 := (pas_cell (HCK.out.2.below hu.has)).1
              have k2 : u.cell? ⟨bx, ox + n * 2, none⟩ = some (.int .u64 e.x) := by have := range_below HRG.out hu.has 0 _ rfl; rwa [Nat.add_zero] at this
              have k3 : u.cell? ⟨bx, ox + n * 2 + 1, none⟩ = some (.slice ae e.box.length ce) := range_below HRG.out hu.has 1 _ rfl
              have k4 := (Below.cell hu.has (World.block_lt_of_cell? _ _ HZ.out)).trans HZ.out
              go_wp2_with (fail)
              exact ⟨rfl, hu, Ext.refl _, slot_eq rfl⟩) ?_
            refine sp_op (Ph.eq _) (fun u hu => by
              refine spArg_eq 0 rfl rfl ?_
              refine spArg_nil ?_
              simp only [Act.put, List.setIfInBounds_toArray, List.set_cons_succ, List.set_cons_zero]
              have k1 := (pas_cell (HCK.out.2.below hu.has)).1
              have k2 : u.cell? ⟨bx, ox + n * 2, none⟩ = some (.int .u64 e.x) := by have := range_below HRG.out hu.has 0 _ rfl; rwa [Nat.add_zero] at this
              have k3 : u.cell? ⟨bx, ox + n * 2 + 1, none⟩ = some (.slice ae e.box.length ce) := range_below HRG.out hu.has 1 _ rfl
              have k4 := (Below.cell hu.has (World.block_lt_of_cell? _ _ HZ.out)).trans HZ.out
              go_wp2_with ((go_at_call 26; refine (HRT.out _).mono ?_; rintro e_ x_ ⟨rfl, rfl⟩))
              exact ⟨rfl, hu, Ext.refl _, slot_eq rfl⟩) ?_
            refine sp_op (Ph.eq _) (fun u hu => by
              refine spArg_eq 0 rfl rfl ?_
              refine spArg_nil ?_
              simp only [Act.put, List.setIfInBounds_toArray, List.set_cons_succ, List.set_cons_zero]
              have k1 := (pas_cell (HCK.out.2.below hu.has)).1
              have k2 : u.cell? ⟨bx, ox + n * 2, none⟩ = some (.int .u64 e.x) := by have := range_below HRG.out hu.has 0 _ rfl; rwa [Nat.add_zero] at this
              have k3 : u.cell? ⟨bx, ox + n * 2 + 1, none⟩ = some (.slice ae e.box.length ce) := range_below HRG.out hu.has 1 _ rfl
              have k4 := (Below.cell hu.has (World.block_lt_of_cell? _ _ HZ.out)).trans HZ.out
              go_wp2_with (fail)
              exact ⟨rfl, hu, Ext.refl _, slot_eq rfl⟩) ?_
            refine sp_op (Ph.eq _) (fun u hu => by
              refine spArg_eq 0 rfl rfl ?_
              refine spArg_nil ?_
              simp only [Act.put, List.setIfInBounds_toArray, List.set_cons_succ, List.set_cons_zero]
              have k1 := (pas_cell (HCK.out.2.below hu.has)).1
              have k2 : u.cell? ⟨bx, ox + n * 2, none⟩ = some (.int .u64 e.x) := by have := range_below HRG.out hu.has 0 _ rfl; rwa [Nat.add_zero] at this
              have k3 : u.cell? ⟨bx, ox + n * 2 + 1, none⟩ = some (.slice ae e.box.length ce) := range_below HRG.out hu.has 1 _ rfl
              have k4 := (Below.cell hu.has (World.block_lt_of_cell? _ _ HZ.out)).trans HZ.out
              go_wp2_with (fail)
              exact ⟨rfl, hu, Ext.refl _, slot_eq rfl⟩) ?_
            refine sp_op (Ph.eq _) (fun u hu => by
              refine spArg_eq 0 rfl rfl ?_
              refine spArg_nil ?_
              simp only [Act.put, List.setIfInBounds_toArray, List.set_cons_succ, List.set_cons_zero]
              have k1 := (pas_cell (HCK.out.2.below hu.has)).1
              have k2 : u.cell? ⟨bx, ox + n * 2, none⟩ = some (.int .u64 e.x) := by have := range_below HRG.out hu.has 0 _ rfl; rwa [Nat.add_zero] at this
              have k3 : u.cell? ⟨bx, ox + n * 2 + 1, none⟩ = some (.slice ae e.box.length ce) := range_below HRG.out hu.has 1 _ rfl
              have k4 := (Below.cell hu.has (World.block_lt_of_cell? _ _ HZ.out)).trans HZ.out
              go_wp2_with (fail)
              exact ⟨rfl, hu, Ext.refl _, slot_eq rfl⟩) ?_
            refine sp_op (Ph.eq _) (fun u hu => by
              refine spArg_eq 0 rfl rfl ?_
              refine spArg_eq 1 rfl rfl ?_
              refine spArg_nil ?_
              simp only [Act.put, List.setIfInBounds_toArray, List.set_cons_succ, List.set_cons_zero]
              have k1 := (pas_cell (HCK.out.2.below hu.has)).1
              have k2 : u.cell? ⟨bx, ox + n * 2, none⟩ = some (.int .u64 e.x) := by have := range_below HRG.out hu.has 0 _ rfl; rwa [Nat.add_zero] at this
              have k3 : u.cell? ⟨bx, ox + n * 2 + 1, none⟩ = some (.slice ae e.box.length ce) := range_below HRG.out hu.has 1 _ rfl
              have k4 := (Below.cell hu.has (World.block_lt_of_cell? _ _ HZ.out)).trans HZ.out
              go_wp2_with (fail)
              exact ⟨rfl, hu, Ext.refl _, slot_eq rfl⟩) ?_
            refine sp_op (Ph.eq _) (fun u hu => by
              refine spArg_eq 2 rfl rfl ?_
              refine spArg_nil ?_
              simp only [Act.put, List.setIfInBounds_toArray, List.set_cons_succ, List.set_cons_zero]
              have k1 := (pas_cell (HCK.out.2.below hu.has)).1
              have k2 : u.cell? ⟨bx, ox + n * 2, none⟩ = some (.int .u64 e.x) := by have := range_below HRG.out hu.has 0 _ rfl; rwa [Nat.add_zero] at this
              have k3 : u.cell? ⟨bx, ox + n * 2 + 1, none⟩ = some (.slice ae e.box.length ce) := range_below HRG.out hu.has 1 _ rfl
              have k4 := (Below.cell hu.has (World.block_lt_of_cell? _ _ HZ.out)).trans HZ.out
              go_wp2_with (fail)
              exact ⟨rfl, hu, Ext.refl _, slot_eq rfl⟩) ?_
            refine sp_op (Ph.eq _) (fun u hu => by
              refine spArg_eq 1 rfl rfl ?_
              refine spArg_eq 0 rfl rfl ?_
              refine spArg_eq 3 rfl rfl ?_
              refine spArg_nil ?_
              simp only [Act.put, List.setIfInBounds_toArray, List.set_cons_succ, List.set_cons_zero]
              have k1 := (pas_cell (HCK.out.2.below hu.has)).1
              have k2 : u.cell? ⟨bx, ox + n * 2, none⟩ = some (.int .u64 e.x) := by have := range_below HRG.out hu.has 0 _ rfl; rwa [Nat.add_zero] at this
              have k3 : u.cell? ⟨bx, ox + n * 2 + 1, none⟩ = some (.slice ae e.box.length ce) := range_below HRG.out hu.has 1 _ rfl
              have k4 := (Below.cell hu.has (World.block_lt_of_cell? _ _ HZ.out)).trans HZ.out
              go_wp2_with (fail)
              exact ⟨rfl, hu, Ext.refl _, slot_eq rfl⟩) ?_
            refine sp_op (Ph.eq _) (fun u hu => by
              refine spArg_eq 0 rfl rfl ?_
              refine spArg_eq 4 rfl rfl ?_
              refine spArg_nil ?_
              simp only [Act.put, List.setIfInBounds_toArray, List.set_cons_succ, List.set_cons_zero]
              have k1 := (pas_cell (HCK.out.2.below hu.has)).1
              have k2 : u.cell? ⟨bx, ox + n * 2, none⟩ = some (.int .u64 e.x) := by have := range_below HRG.out hu.has 0 _ rfl; rwa [Nat.add_zero] at this
              have k3 : u.cell? ⟨bx, ox + n * 2 + 1, none⟩ = some (.slice ae e.box.length ce) := range_below HRG.out hu.has 1 _ rfl
              have k4 := (Below.cell hu.has (World.block_lt_of_cell? _ _ HZ.out)).trans HZ.out
              go_wp2_with (fail)
              exact ⟨rfl, hu, Ext.refl _, slot_eq rfl⟩) ?_
            refine sp_op (Ph.eq _) (fun u hu => by
              refine spArg_eq 0 rfl rfl ?_
              refine spArg_eq 5 rfl rfl ?_
              refine spArg_nil ?_
              simp only [Act.put, List.setIfInBounds_toArray, List.set_cons_succ, List.set_cons_zero]
              have k1 := (pas_cell (HCK.out.2.below hu.has)).1
              have k2 : u.cell? ⟨bx, ox + n * 2, none⟩ = some (.int .u64 e.x) := by have := range_below HRG.out hu.has 0 _ rfl; rwa [Nat.add_zero] at this
              have k3 : u.cell? ⟨bx, ox + n * 2 + 1, none⟩ = some (.slice ae e.box.length ce) := range_below HRG.out hu.has 1 _ rfl
              have k4 := (Below.cell hu.has (World.block_lt_of_cell? _ _ HZ.out)).trans HZ.out
              go_wp2_with (fail)
              exact ⟨rfl, hu, Ext.refl _, slot_eq rfl⟩) ?_
            refine sp_op (Ph.eq _) (fun u hu => by
              refine spArg_eq 0 rfl rfl ?_
              refine spArg_eq 6 rfl rfl ?_
              refine spArg_nil ?_
              simp only [Act.put, List.setIfInBounds_toArray, List.set_cons_succ, List.set_cons_zero]
              have k1 := (pas_cell (HCK.out.2.below hu.has)).1
              have k2 : u.cell? ⟨bx, ox + n * 2, none⟩ = some (.int .u64 e.x) := by have := range_below HRG.out hu.has 0 _ rfl; rwa [Nat.add_zero] at this
              have k3 : u.cell? ⟨bx, ox + n * 2 + 1, none⟩ = some (.slice ae e.box.length ce) := range_below HRG.out hu.has 1 _ rfl
              have k4 := (Below.cell hu.has (World.block_lt_of_cell? _ _ HZ.out)).trans HZ.out
              go_wp2_with (fail)
              exact ⟨rfl, hu, Ext.refl _, slot_eq rfl⟩) ?_
            refine sp_op (Ph.eq _) (fun u hu => by
              refine spArg_eq 7 rfl rfl ?_
              refine spArg_nil ?_
              simp only [Act.put, List.setIfInBounds_toArray, List.set_cons_succ, List.set_cons_zero]
              have k1 := (pas_cell (HCK.out.2.below hu.has)).1
              have k2 : u.cell? ⟨bx, ox + n * 2, none⟩ = some (.int .u64 e.x) := by have := range_below HRG.out hu.has 0 _ rfl; rwa [Nat.add_zero] at this
              have k3 : u.cell? ⟨bx, ox + n * 2 + 1, none⟩ = some (.slice ae e.box.length ce) := range_below HRG.out hu.has 1 _ rfl
              have k4 := (Below.cell hu.has (World.block_lt_of_cell? _ _ HZ.out)).trans HZ.out
              go_wp2_with (fail)
              exact ⟨rfl, hu, Ext.refl _, slot_eq rfl⟩) ?_
            refine sp_op (Ph.eq _) (fun u hu => by
              refine spArg_eq 0 rfl rfl ?_
              refine spArg_eq 8 rfl rfl ?_
              refine spArg_nil ?_
              simp only [Act.put, List.setIfInBounds_toArray, List.set_cons_succ, List.set_cons_zero]
              have k1 := (pas_cell (HCK.out.2.below hu.has)).1
              have k2 : u.cell? ⟨bx, ox + n * 2, none⟩ = some (.int .u64 e.x) := by have := range_below HRG.out hu.has 0 _ rfl; rwa [Nat.add_zero] at this
              have k3 : u.cell? ⟨bx, ox + n * 2 + 1, none⟩ = some (.slice ae e.box.length ce) := range_below HRG.out hu.has 1 _ rfl
              have k4 := (Below.cell hu.has (World.block_lt_of_cell? _ _ HZ.out)).trans HZ.out
              go_wp2_with (fail)
              exact ⟨rfl, hu, Ext.refl _, slot_eq rfl⟩) ?_
            refine sp_op (Ph.eq _) (fun u hu => by
              refine spArg_eq 0 rfl rfl ?_
              refine spArg_eq 9 rfl rfl ?_
              refine spArg_nil ?_
              simp only [Act.put, List.setIfInBounds_toArray, List.set_cons_succ, List.set_cons_zero]
              have k1 := (pas_cell (HCK.out.2.below hu.has)).1
              have k2 : u.cell? ⟨bx, ox + n * 2, none⟩ = some (.int .u64 e.x) := by have := range_below HRG.out hu.has 0 _ rfl; rwa [Nat.add_zero] at this
              have k3 : u.cell? ⟨bx, ox + n * 2 + 1, none⟩ = some (.slice ae e.box.length ce) := range_below HRG.out hu.has 1 _ rfl
              have k4 := (Below.cell hu.has (World.block_lt_of_cell? _ _ HZ.out)).trans HZ.out
              go_wp2_with (fail)
              exact ⟨rfl, hu, Ext.refl _, slot_eq rfl⟩) ?_
            refine sp_op (Ph.eq _) (fun u hu => by
              refine spArg_eq 0 rfl rfl ?_
              refine spArg_eq 10 rfl rfl ?_
              refine spArg_nil ?_
              simp only [Act.put, List.setIfInBounds_toArray, List.set_cons_succ, List.set_cons_zero]
              have k1 := (pas_cell (HCK.out.2.below hu.has)).1
              have k2 : u.cell? ⟨bx, ox + n * 2, none⟩ = some (.int .u64 e.x) := by have := range_below HRG.out hu.has 0 _ rfl; rwa [Nat.add_zero] at this
              have k3 : u.cell? ⟨bx, ox + n * 2 + 1, none⟩ = some (.slice ae e.box.length ce) := range_below HRG.out hu.has 1 _ rfl
              have k4 := (Below.cell hu.has (World.block_lt_of_cell? _ _ HZ.out)).trans HZ.out
              go_wp2_with (fail)
              exact ⟨rfl, hu, Ext.refl _, slot_eq rfl⟩) ?_
            refine sp_op (Ph.eq _) (fun u hu => by
              refine spArg_eq 0 rfl rfl ?_
              refine spArg_eq 11 rfl rfl ?_
              refine spArg_nil ?_
              simp only [Act.put, List.setIfInBounds_toArray, List.set_cons_succ, List.set_cons_zero]
              have k1 := (pas_cell (HCK.out.2.below hu.has)).1
              have k2 : u.cell? ⟨bx, ox + n * 2, none⟩ = some (.int .u64 e.x) := by have := range_below HRG.out hu.has 0 _ rfl; rwa [Nat.add_zero] at this
              have k3 : u.cell? ⟨bx, ox + n * 2 + 1, none⟩ = some (.slice ae e.box.length ce) := range_below HRG.out hu.has 1 _ rfl
              have k4 := (Below.cell hu.has (World.block_lt_of_cell? _ _ HZ.out)).trans HZ.out
              go_wp2_with (fail)
              exact ⟨rfl, hu, Ext.refl _, slot_eq rfl⟩) ?_
            refine sp_op (Ph.eq _) (fun u hu => by
              refine spArg_eq 0 rfl rfl ?_
              refine spArg_eq 12 rfl rfl ?_
              refine spArg_nil ?_
              simp only [Act.put, List.setIfInBounds_toArray, List.set_cons_succ, List.set_cons_zero]
              have k1 := (pas_cell (HCK.out.2.below hu.has)).1
              have k2 : u.cell? ⟨bx, ox + n * 2, none⟩ = some (.int .u64 e.x) := by have := range_below HRG.out hu.has 0 _ rfl; rwa [Nat.add_zero] at this
              have k3 : u.cell? ⟨bx, ox + n * 2 + 1, none⟩ = some (.slice ae e.box.length ce) := range_below HRG.out hu.has 1 _ rfl
              have k4 := (Below.cell hu.has (World.block_lt_of_cell? _ _ HZ.out)).trans HZ.out
              go_wp2_with (fail)
              exact ⟨rfl, hu, Ext.refl _, slot_eq rfl⟩) ?_
            refine sp_op (Ph.eq _) (fun u hu => by
              refine spArg_eq 6 rfl rfl ?_
              refine spArg_eq 0 rfl rfl ?_
              refine spArg_eq 13 rfl rfl ?_
              refine spArg_nil ?_
              simp only [Act.put, List.setIfInBounds_toArray, List.set_cons_succ, List.set_cons_zero]
              have k1 := (pas_cell (HCK.out.2.below hu.has)).1
              have k2 : u.cell? ⟨bx, ox + n * 2, none⟩ = some (.int .u64 e.x) := by have := range_below HRG.out hu.has 0 _ rfl; rwa [Nat.add_zero] at this
              have k3 : u.cell? ⟨bx, ox + n * 2 + 1, none⟩ = some (.slice ae e.box.length ce) := range_below HRG.out hu.has 1 _ rfl
              have k4 := (Below.cell hu.has (World.block_lt_of_cell? _ _ HZ.out)).trans HZ.out
              go_wp2_with (fail)
              exact ⟨rfl, hu, Ext.refl _, slot_eq rfl⟩) ?_
            refine sp_op (Ph.eq _) (fun u hu => by
              refine spArg_eq 14 rfl rfl ?_
              refine spArg_eq 0 rfl rfl ?_
              refine spArg_nil ?_
              simp only [Act.put, List.setIfInBounds_toArray, List.set_cons_succ, List.set_cons_zero]
              have k1 := (pas_cell (HCK.out.2.below hu.has)).1
              have k2 : u.cell? ⟨bx, ox + n * 2, none⟩ = some (.int .u64 e.x) := by have := range_below HRG.out hu.has 0 _ rfl; rwa [Nat.add_zero] at this
              have k3 : u.cell? ⟨bx, ox + n * 2 + 1, none⟩ = some (.slice ae e.box.length ce) := range_below HRG.out hu.has 1 _ rfl
              have k4 := (Below.cell hu.has (World.block_lt_of_cell? _ _ HZ.out)).trans HZ.out
              go_wp2_with (fail)
              exact ⟨rfl, hu, Ext.refl _, slot_eq rfl⟩) ?_
            refine sp_end ?_
            intro u hu
            refine spArg_eq 23 rfl rfl ?_
            refine spArg_eq 22 rfl rfl ?_
            refine spArg_eq 21 rfl rfl ?_
            refine spArg_eq 20 rfl rfl ?_
            refine spArg_eq 19 rfl rfl ?_
            refine spArg_eq 18 rfl rfl ?_
            refine spArg_eq 17 rfl rfl ?_
            refine spArg_eq 16 rfl rfl ?_
            refine spArg_eq 15 rfl rfl ?_
            refine spArg_eq 14 rfl rfl ?_
            refine spArg_eq 13 rfl rfl ?_
            refine spArg_eq 12 rfl rfl ?_
            refine spArg_eq 11 rfl rfl ?_
            refine spArg_eq 10 rfl rfl ?_
            refine spArg_eq 9 rfl rfl ?_
            refine spArg_eq 8 rfl rfl ?_
            refine spArg_eq 7 rfl rfl ?_
            refine spArg_eq 6 rfl rfl ?_
            refine spArg_eq 5 rfl rfl ?_
            refine spArg_eq 4 rfl rfl ?_
            refine spArg_eq 3 rfl rfl ?_
            refine spArg_eq 2 rfl rfl ?_
            refine spArg_eq 1 rfl rfl ?_
            refine spArg_eq 0 rfl rfl ?_
            refine spArg_nil ?_
            simp only [Act.put, List.setIfInBounds_toArray, List.set_cons_succ, List.set_cons_zero]
            go_wp2_with fail
            go_ret
            exact ⟨by rw [HF.out]; rfl, hu.up⟩
        · rw [decide_eq_false hok] at HRT
          have HF := Lib.hid (show CB = false from by rw [HCC.out, all_false HE.out (by rw [hcE, decide_eq_false hok]; rfl)]; rfl)
          clear hok hcE
          try change Code.wp _ _ _ (Act.mk _ _) _
          refine wp_region_runR Ext 24 56 (HoldT (fun u => Ext wr u) _) [[], [(0, 20)], [], [(1, 21), (2, 22)], [(3, 23)], [(4, 24)], [(5, 25)], [(6, 26)], [(7, 27)], [(8, 28)], [(9, 29), (8, 28)], [(8, 28)], [(10, 30), (11, 31), (8, 28)], [(12, 32), (8, 28)], [(13, 33), (8, 28)], [(14, 34), (8, 28)], [(8, 28)], [(16, 36), (8, 28)], [(17, 37), (8, 28)], [(18, 38), (8, 28)], [(19, 39), (8, 28)], [(20, 40), (8, 28)], [(15, 35), (21, 41), (8, 28)], [(8, 28), (22, 42)]] [(0, 20), (1, 21), (2, 22), (3, 23), (4, 24), (5, 25), (6, 26), (7, 27), (8, 28), (9, 29), (10, 30), (11, 31), (12, 32), (13, 33), (14, 34), (15, 35), (16, 36), (17, 37), (18, 38), (19, 39), (20, 40), (21, 41), (22, 42), (23, 43)] (by kernel_rfl) (by kernel_rfl) (by first | rfl | simp) (hk6) ?_
          simp only [List.take_succ_cons, List.take_zero, List.drop_succ_cons, List.drop_zero]
          refine sp_op (Ph.eq _) (fun u hu => by
            refine spArg_nil ?_
            have k1 := (pas_cell (HCK.out.2.below hu.has)).1
            have k2 : u.cell? ⟨bx, ox + n * 2, none⟩ = some (.int .u64 e.x) := by have := range_below HRG.out hu.has 0 _ rfl; rwa [Nat.add_zero] at this
            have k3 : u.cell? ⟨bx, ox + n * 2 + 1, none⟩ = some (.slice ae e.box.length ce) := range_below HRG.out hu.has 1 _ rfl
            have k4 := (Below.cell hu.has (World.block_lt_of_cell? _ _ HZ.out)).trans HZ.out
            go_wp2_with (fail)
            exact ⟨rfl, hu, Ext.refl _, slot_eq rfl⟩) ?_
          refine sp_op (Ph.eq _) (fun u hu => by
            refine spArg_eq 0 rfl rfl ?_
            refine spArg_nil ?_
            simp only [Act.put, List.setIfInBounds_toArray, List.set_cons_succ, List.set_cons_zero]
            have k1 := (pas_cell (HCK.out.2.below hu.has)).1
            have k2 : u.cell? ⟨bx, ox + n * 2, none⟩ = some (.int .u64 e.x) := by have := range_below HRG.out hu.has 0 _ rfl; rwa [Nat.add_zero] at this
            have k3 : u.cell? ⟨bx, ox + n * 2 + 1, none⟩ = some (.slice ae e.box.length ce) := range_below HRG.out hu.has 1 _ rfl
            have k4 := (Below.cell hu.has (World.block_lt_of_cell? _ _ HZ.out)).trans HZ.out
            go_wp2_with (fail)
            exact ⟨rfl, hu, Ext.refl _, slot_eq rfl⟩) ?_
          refine sp_op (Ph.eq _) (fun u hu => by
            refine spArg_nil ?_
            have k1 := (pas_cell (HCK.out.2.below hu.has)).1
            have k2 : u.cell? ⟨bx, ox + n * 2, none⟩ = some (.int .u64 e.x) := by have := range_below HRG.out hu.has 0 _ rfl; rwa [Nat.add_zero] at this
            have k3 : u.cell? ⟨bx, ox + n * 2 + 1, none⟩ = some (.slice ae e.box.length ce) := range_below HRG.out hu.has 1 _ rfl
            have k4 := (Below.cell hu.has (World.block_lt_of_cell? _ _ HZ.out)).trans HZ.out
            go_wp2_with (fail)
            exact ⟨rfl, hu, Ext.refl _, slot_eq rfl⟩) ?_
          refine sp_op (Ph.eq _) (fun u hu => by
            refine spArg_eq 1 rfl rfl ?_
            refine spArg_eq 0 rfl rfl ?_
            refine spArg_nil ?_
            simp only [Act.put, List.setIfInBounds_toArray, List.set_cons_succ, List.set_cons_zero]
            have k1 := (pas_cell (HCK.out.2.below hu.has)).1
            have k2 : u.cell? ⟨bx, ox + n * 2, none⟩ = some (.int .u64 e.x) := by have := range_below HRG.out hu.has 0 _ rfl; rwa [Nat.add_zero] at this
            have k3 : u.cell? ⟨bx, ox + n * 2 + 1, none⟩ = some (.slice ae e.box.length ce) := range_below HRG.out hu.has 1 _ rfl
            have k4 := (Below.cell hu.has (World.block_lt_of_cell? _ _ HZ.out)).trans HZ.out
            go_wp2_with (fail)
            exact ⟨rfl, hu, Ext.refl _, slot_eq rfl⟩) ?_
          refine sp_op (Ph.eq _) (fun u hu => by
            refine spArg_eq 0 rfl rfl ?_
            refine spArg_nil ?_
            simp only [Act.put, List.setIfInBounds_toArray, List.set_cons_succ, List.set_cons_zero]
            have k1 := (pas_cell (HCK.out.2.below hu.has)).1
            have k2 : u.cell? ⟨bx, ox + n * 2, none⟩ = some (.int .u64 e.x) := by have := range_below HRG.out hu.has 0 _ rfl; rwa [Nat.add_zero] at this
            have k3 : u.cell? ⟨bx, ox + n * 2 + 1, none⟩ = some (.slice ae e.box.length ce) := range_below HRG.out hu.has 1 _ rfl
            have k4 := (Below.cell hu.has (World.block_lt_of_cell? _ _ HZ.out)).trans HZ.out
            go_wp2_with (fail)
            exact ⟨rfl, hu, Ext.refl _, slot_eq rfl⟩) ?_
          refine sp_op (Ph.eq _) (fun u hu => by
            refine spArg_eq 0 rfl rfl ?_
            refine spArg_nil ?_
            simp only [Act.put, List.setIfInBounds_toArray, List.set_cons_succ, List.set_cons_zero]
            have k1 := (pas_cell (HCK.out.2.below hu.has)).1
            have k2 : u.cell? ⟨bx, ox + n * 2, none⟩ = some (.int .u64 e.x) := by have := range_below HRG.out hu.has 0 _ rfl; rwa [Nat.add_zero] at this
            have k3 : u.cell? ⟨bx, ox + n * 2 + 1, none⟩ = some (.slice ae e.box.length ce) := range_below HRG.out hu.has 1 _ rfl
            have k4 := (Below.cell hu.has (World.block_lt_of_cell? _ _ HZ.out)).trans HZ.out
            go_wp2_with (fail)
            exact ⟨rfl, hu, Ext.refl _, slot_eq rfl⟩) ?_
          refine sp_op (Ph.eq _) (fun u hu => by
            refine spArg_eq 0 rfl rfl ?_
            refine spArg_nil ?_
            simp only [Act.put, List.setIfInBounds_toArray, List.set_cons_succ, List.set_cons_zero]
            have k1 := (pas_cell (HCK.out.2.below hu.has)).1
            have k2 : u.cell? ⟨bx, ox + n * 2, none⟩ = some (.int .u64 e.x) := by have := range_below HRG.out hu.has 0 _ rfl; rwa [Nat.add_zero] at this
            have k3 : u.cell? ⟨bx, ox + n * 2 + 1, none⟩ = some (.slice ae e.box.length ce) := range_below HRG.out hu.has 1 _ rfl
            have k4 := (Below.cell hu.has (World.block_lt_of_cell? _ _ HZ.out)).trans HZ.out
            go_wp2_with ((go_at_call 26; refine (HRT.out _).mono ?_; rintro e_ x_ ⟨rfl, rfl⟩))
            exact ⟨rfl, hu, Ext.refl _, slot_eq rfl⟩) ?_
          refine sp_op (Ph.eq _) (fun u hu => by
            refine spArg_eq 0 rfl rfl ?_
            refine spArg_nil ?_
            simp only [Act.put, List.setIfInBounds_toArray, List.set_cons_succ, List.set_cons_zero]
            have k1 := (pas_cell (HCK.out.2.below hu.has)).1
            have k2 : u.cell? ⟨bx, ox + n * 2, none⟩ = some (.int .u64 e.x) := by have := range_below HRG.out hu.has 0 _ rfl; rwa [Nat.add_zero] at this
            have k3 : u.cell? ⟨bx, ox + n * 2 + 1, none⟩ = some (.slice ae e.box.length ce) := range_below HRG.out hu.has 1 _ rfl
            have k4 := (Below.cell hu.has (World.block_lt_of_cell? _ _ HZ.out)).trans HZ.out
            go_wp2_with (fail)
            exact ⟨rfl, hu, Ext.refl _, slot_eq rfl⟩) ?_
          refine sp_op (Ph.eq _) (fun u hu => by
            refine spArg_eq 0 rfl rfl ?_
            refine spArg_nil ?_
            simp only [Act.put, List.setIfInBounds_toArray, List.set_cons_succ, List.set_cons_zero]
            have k1 := (pas_cell (HCK.out.2.below hu.has)).1
            have k2 : u.cell? ⟨bx, ox + n * 2, none⟩ = some (.int .u64 e.x) := by have := range_below HRG.out hu.has 0 _ rfl; rwa [Nat.add_zero] at this
            have k3 : u.cell? ⟨bx, ox + n * 2 + 1, none⟩ = some (.slice ae e.box.length ce) := range_below HRG.out hu.has 1 _ rfl
            have k4 := (Below.cell hu.has (World.block_lt_of_cell? _ _ HZ.out)).trans HZ.out
            go_wp2_with (fail)
            exact ⟨rfl, hu, Ext.refl _, slot_eq rfl⟩) ?_
          refine sp_op (Ph.eq _) (fun u hu => by
            refine spArg_eq 0 rfl rfl ?_
            refine spArg_nil ?_
            simp only [Act.put, List.setIfInBounds_toArray, List.set_cons_succ, List.set_cons_zero]
            have k1 := (pas_cell (HCK.out.2.below hu.has)).1
            have k2 : u.cell? ⟨bx, ox + n * 2, none⟩ = some (.int .u64 e.x) := by have := range_below HRG.out hu.has 0 _ rfl; rwa [Nat.add_zero] at this
            have k3 : u.cell? ⟨bx, ox + n * 2 + 1, none⟩ = some (.slice ae e.box.length ce) := range_below HRG.out hu.has 1 _ rfl
            have k4 := (Below.cell hu.has (World.block_lt_of_cell? _ _ HZ.out)).trans HZ.out
            go_wp2_with (fail)
            exact ⟨rfl, hu, Ext.refl _, slot_eq rfl⟩) ?_
          refine sp_op (Ph.eq _) (fun u hu => by
            refine spArg_eq 0 rfl rfl ?_
            refine spArg_eq 1 rfl rfl ?_
            refine spArg_nil ?_
            simp only [Act.put, List.setIfInBounds_toArray, List.set_cons_succ, List.set_cons_zero]
            have k1 := (pas_cell (HCK.out.2.below hu.has)).1
            have k2 : u.cell? ⟨bx, ox + n * 2, none⟩ = some (.int .u64 e.x) := by have := range_below HRG.out hu.has 0 _ rfl; rwa [Nat.add_zero] at this
            have k3 : u.cell? ⟨bx, ox + n * 2 + 1, none⟩ = some (.slice ae e.box.length ce) := range_below HRG.out hu.has 1 _ rfl
            have k4 := (Below.cell hu.has (World.block_lt_of_cell? _ _ HZ.out)).trans HZ.out
            go_wp2_with (fail)
            exact ⟨rfl, hu, Ext.refl _, slot_eq rfl⟩) ?_
          refine sp_op (Ph.eq _) (fun u hu => by
            refine spArg_eq 2 rfl rfl ?_
            refine spArg_nil ?_
            simp only [Act.put, List.setIfInBounds_toArray, List.set_cons_succ, List.set_cons_zero]
            have k1 := (pas_cell (HCK.out.2.below hu.has)).1
            have k2 : u.cell? ⟨bx, ox + n * 2, none⟩ = some (.int .u64 e.x) := by have := range_below HRG.out hu.has 0 _ rfl; rwa [Nat.add_zero] at this
            have k3 : u.cell? ⟨bx, ox + n * 2 + 1, none⟩ = some (.slice ae e.box.length ce) := range_below HRG.out hu.has 1 _ rfl
            have k4 := (Below.cell hu.has (World.block_lt_of_cell? _ _ HZ.out)).trans HZ.out
            go_wp2_with (fail)
            exact ⟨rfl, hu, Ext.refl _, slot_eq rfl⟩) ?_
          refine sp_op (Ph.eq _) (fun u hu => by
            refine spArg_eq 1 rfl rfl ?_
            refine spArg_eq 0 rfl rfl ?_
            refine spArg_eq 3 rfl rfl ?_
            refine spArg_nil ?_
            simp only [Act.put, List.setIfInBounds_toArray, List.set_cons_succ, List.set_cons_zero]
            have k1 := (pas_cell (HCK.out.2.below hu.has)).1
            have k2 : u.cell? ⟨bx, ox + n * 2, none⟩ = some (.int .u64 e.x) := by have := range_below HRG.out hu.has 0 _ rfl; rwa [Nat.add_zero] at this
            have k3 : u.cell? ⟨bx, ox + n * 2 + 1, none⟩ = some (.slice ae e.box.length ce) := range_below HRG.out hu.has 1 _ rfl
            have k4 := (Below.cell hu.has (World.block_lt_of_cell? _ _ HZ.out)).trans HZ.out
            go_wp2_with (fail)
            exact ⟨rfl, hu, Ext.refl _, slot_eq rfl⟩) ?_
          refine sp_op (Ph.eq _) (fun u hu => by
            refine spArg_eq 0 rfl rfl ?_
            refine spArg_eq 4 rfl rfl ?_
            refine spArg_nil ?_
            simp only [Act.put, List.setIfInBounds_toArray, List.set_cons_succ, List.set_cons_zero]
            have k1 := (pas_cell (HCK.out.2.below hu.has)).1
            have k2 : u.cell? ⟨bx, ox + n * 2, none⟩ = some (.int .u64 e.x) := by have := range_below HRG.out hu.has 0 _ rfl; rwa [Nat.add_zero] at this
            have k3 : u.cell? ⟨bx, ox + n * 2 + 1, none⟩ = some (.slice ae e.box.length ce) := range_below HRG.out hu.has 1 _ rfl
            have k4 := (Below.cell hu.has (World.block_lt_of_cell? _ _ HZ.out)).trans HZ.out
            go_wp2_with (fail)
            exact ⟨rfl, hu, Ext.refl _, slot_eq rfl⟩) ?_
          refine sp_op (Ph.eq _) (fun u hu => by
            refine spArg_eq 0 rfl rfl ?_
            refine spArg_eq 5 rfl rfl ?_
            refine spArg_nil ?_
            simp only [Act.put, List.setIfInBounds_toArray, List.set_cons_succ, List.set_cons_zero]
            have k1 := (pas_cell (HCK.out.2.below hu.has)).1
            have k2 : u.cell? ⟨bx, ox + n * 2, none⟩ = some (.int .u64 e.x) := by have := range_below HRG.out hu.has 0 _ rfl; rwa [Nat.add_zero] at this
            have k3 : u.cell? ⟨bx, ox + n * 2 + 1, none⟩ = some (.slice ae e.box.length ce) := range_below HRG.out hu.has 1 _ rfl
            have k4 := (Below.cell hu.has (World.block_lt_of_cell? _ _ HZ.out)).trans HZ.out
            go_wp2_with (fail)
            exact ⟨rfl, hu, Ext.refl _, slot_eq rfl⟩) ?_
          refine sp_op (Ph.eq _) (fun u hu => by
            refine spArg_eq 0 rfl rfl ?_
            refine spArg_eq 6 rfl rfl ?_
            refine spArg_nil ?_
            simp only [Act.put, List.setIfInBounds_toArray, List.set_cons_succ, List.set_cons_zero]
            have k1 := (pas_cell (HCK.out.2.below hu.has)).1
            have k2 : u.cell? ⟨bx, ox + n * 2, none⟩ = some (.int .u64 e.x) := by have := range_below HRG.out hu.has 0 _ rfl; rwa [Nat.add_zero] at this
            have k3 : u.cell? ⟨bx, ox + n * 2 + 1, none⟩ = some (.slice ae e.box.length ce) := range_below HRG.out hu.has 1 _ rfl
            have k4 := (Below.cell hu.has (World.block_lt_of_cell? _ _ HZ.out)).trans HZ.out
            go_wp2_with (fail)
            exact ⟨rfl, hu, Ext.refl _, slot_eq rfl⟩) ?_
          refine sp_op (Ph.eq _) (fun u hu => by
            refine spArg_eq 7 rfl rfl ?_
            refine spArg_nil ?_
            simp only [Act.put, List.setIfInBounds_toArray, List.set_cons_succ, List.set_cons_zero]
            have k1 := (pas_cell (HCK.out.2.below hu.has)).1
            have k2 : u.cell? ⟨bx, ox + n * 2, none⟩ = some (.int .u64 e.x) := by have := range_below HRG.out hu.has 0 _ rfl; rwa [Nat.add_zero] at this
            have k3 : u.cell? ⟨bx, ox + n * 2 + 1, none⟩ = some (.slice ae e.box.length ce) := range_below HRG.out hu.has 1 _ rfl
            have k4 := (Below.cell hu.has (World.block_lt_of_cell? _ _ HZ.out)).trans HZ.out
            go_wp2_with (fail)
            exact ⟨rfl, hu, Ext.refl _, slot_eq rfl⟩) ?_
          refine sp_op (Ph.eq _) (fun u hu => by
            refine spArg_eq 0 rfl rfl ?_
            refine spArg_eq 8 rfl rfl ?_
            refine spArg_nil ?_
            simp only [Act.put, List.setIfInBounds_toArray, List.set_cons_succ, List.set_cons_zero]
            have k1 := (pas_cell (HCK.out.2.below hu.has)).1
            have k2 : u.cell? ⟨bx, ox + n * 2, none⟩ = some (.int .u64 e.x) := by have := range_below HRG.out hu.has 0 _ rfl; rwa [Nat.add_zero] at this
            have k3 : u.cell? ⟨bx, ox + n * 2 + 1, none⟩ = some (.slice ae e.box.length ce) := range_below HRG.out hu.has 1 _ rfl
            have k4 := (Below.cell hu.has (World.block_lt_of_cell? _ _ HZ.out)).trans HZ.out
            go_wp2_with (fail)
            exact ⟨rfl, hu, Ext.refl _, slot_eq rfl⟩) ?_
          refine sp_op (Ph.eq _) (fun u hu => by
            refine spArg_eq 0 rfl rfl ?_
            refine spArg_eq 9 rfl rfl ?_
            refine spArg_nil ?_
            simp only [Act.put, List.setIfInBounds_toArray, List.set_cons_succ, List.set_cons_zero]
            have k1 := (pas_cell (HCK.out.2.below hu.has)).1
            have k2 : u.cell? ⟨bx, ox + n * 2, none⟩ = some (.int .u64 e.x) := by have := range_below HRG.out hu.has 0 _ rfl; rwa [Nat.add_zero] at this
            have k3 : u.cell? ⟨bx, ox + n * 2 + 1, none⟩ = some (.slice ae e.box.length ce) := range_below HRG.out hu.has 1 _ rfl
            have k4 := (Below.cell hu.has (World.block_lt_of_cell? _ _ HZ.out)).trans HZ.out
            go_wp2_with (fail)
            exact ⟨rfl, hu, Ext.refl _, slot_eq rfl⟩) ?_
          refine sp_op (Ph.eq _) (fun u hu => by
            refine spArg_eq 0 rfl rfl ?_
            refine spArg_eq 10 rfl rfl ?_
            refine spArg_nil ?_
            simp only [Act.put, List.setIfInBounds_toArray, List.set_cons_succ, List.set_cons_zero]
            have k1 := (pas_cell (HCK.out.2.below hu.has)).1
            have k2 : u.cell? ⟨bx, ox + n * 2, none⟩ = some (.int .u64 e.x) := by have := range_below HRG.out hu.has 0 _ rfl; rwa [Nat.add_zero] at this
            have k3 : u.cell? ⟨bx, ox + n * 2 + 1, none⟩ = some (.slice ae e.box.length ce) := range_below HRG.out hu.has 1 _ rfl
            have k4 := (Below.cell hu.has (World.block_lt_of_cell? _ _ HZ.out)).trans HZ.out
            go_wp2_with (fail)
            exact ⟨rfl, hu, Ext.refl _, slot_eq rfl⟩) ?_
          refine sp_op (Ph.eq _) (fun u hu => by
            refine spArg_eq 0 rfl rfl ?_
            refine spArg_eq 11 rfl rfl ?_
            refine spArg_nil ?_
            simp only [Act.put, List.setIfInBounds_toArray, List.set_cons_succ, List.set_cons_zero]
            have k1 := (pas_cell (HCK.out.2.below hu.has)).1
            have k2 : u.cell? ⟨bx, ox + n * 2, none⟩ = some (.int .u64 e.x) := by have := range_below HRG.out hu.has 0 _ rfl; rwa [Nat.add_zero] at this
            have k3 : u.cell? ⟨bx, ox + n * 2 + 1, none⟩ = some (.slice ae e.box.length ce) := range_below HRG.out hu.has 1 _ rfl
            have k4 := (Below.cell hu.has (World.block_lt_of_cell? _ _ HZ.out)).trans HZ.out
            go_wp2_with (fail)
            exact ⟨rfl, hu, Ext.refl _, slot_eq rfl⟩) ?_
          refine sp_op (Ph.eq _) (fun u hu => by
            refine spArg_eq 0 rfl rfl ?_
            refine spArg_eq 12 rfl rfl ?_
            refine spArg_nil ?_
            simp only [Act.put, List.setIfInBounds_toArray, List.set_cons_succ, List.set_cons_zero]
            have k1 := (pas_cell (HCK.out.2.below hu.has)).1
            have k2 : u.cell? ⟨bx, ox + n * 2, none⟩ = some (.int .u64 e.x) := by have := range_below HRG.out hu.has 0 _ rfl; rwa [Nat.add_zero] at this
            have k3 : u.cell? ⟨bx, ox + n * 2 + 1, none⟩ = some (.slice ae e.box.length ce) := range_below HRG.out hu.has 1 _ rfl
            have k4 := (Below.cell hu.has (World.block_lt_of_cell? _ _ HZ.out)).trans HZ.out
            go_wp2_with (fail)
            exact ⟨rfl, hu, Ext.refl _, slot_eq rfl⟩) ?_
          refine sp_op (Ph.eq _) (fun u hu => by
            refine spArg_eq 6 rfl rfl ?_
            refine spArg_eq 0 rfl rfl ?_
            refine spArg_eq 13 rfl rfl ?_
            refine spArg_nil ?_
            simp only [Act.put, List.setIfInBounds_toArray, List.set_cons_succ, List.set_cons_zero]
            have k1 := (pas_cell (HCK.out.2.below hu.has)).1
            have k2 : u.cell? ⟨bx, ox + n * 2, none⟩ = some (.int .u64 e.x) := by have := range_below HRG.out hu.has 0 _ rfl; rwa [Nat.add_zero] at this
            have k3 : u.cell? ⟨bx, ox + n * 2 + 1, none⟩ = some (.slice ae e.box.length ce) := range_below HRG.out hu.has 1 _ rfl
            have k4 := (Below.cell hu.has (World.block_lt_of_cell? _ _ HZ.out)).trans HZ.out
            go_wp2_with (fail)
            exact ⟨rfl, hu, Ext.refl _, slot_eq rfl⟩) ?_
          refine sp_op (Ph.eq _) (fun u hu => by
            refine spArg_eq 14 rfl rfl ?_
            refine spArg_eq 0 rfl rfl ?_
            refine spArg_nil ?_
            simp only [Act.put, List.setIfInBounds_toArray, List.set_cons_succ, List.set_cons_zero]
            have k1 := (pas_cell (HCK.out.2.below hu.has)).1
            have k2 : u.cell? ⟨bx, ox + n * 2, none⟩ = some (.int .u64 e.x) := by have := range_below HRG.out hu.has 0 _ rfl; rwa [Nat.add_zero] at this
            have k3 : u.cell? ⟨bx, ox + n * 2 + 1, none⟩ = some (.slice ae e.box.length ce) := range_below HRG.out hu.has 1 _ rfl
            have k4 := (Below.cell hu.has (World.block_lt_of_cell? _ _ HZ.out)).trans HZ.out
            go_wp2_with (fail)
            exact ⟨rfl, hu, Ext.refl _, slot_eq rfl⟩) ?_
          refine sp_end ?_
          intro u hu
          refine spArg_eq 23 rfl rfl ?_
          refine spArg_eq 22 rfl rfl ?_
          refine spArg_eq 21 rfl rfl ?_
          refine spArg_eq 20 rfl rfl ?_
          refine spArg_eq 19 rfl rfl ?_
          refine spArg_eq 18 rfl rfl ?_
          refine spArg_eq 17 rfl rfl ?_
          refine spArg_eq 16 rfl rfl ?_
          refine spArg_eq 15 rfl rfl ?_
          refine spArg_eq 14 rfl rfl ?_
          refine spArg_eq 13 rfl rfl ?_
          refine spArg_eq 12 rfl rfl ?_
          refine spArg_eq 11 rfl rfl ?_
          refine spArg_eq 10 rfl rfl ?_
          refine spArg_eq 9 rfl rfl ?_
          refine spArg_eq 8 rfl rfl ?_
          refine spArg_eq 7 rfl rfl ?_
          refine spArg_eq 6 rfl rfl ?_
          refine spArg_eq 5 rfl rfl ?_
          refine spArg_eq 4 rfl rfl ?_
          refine spArg_eq 3 rfl rfl ?_
          refine spArg_eq 2 rfl rfl ?_
          refine spArg_eq 1 rfl rfl ?_
          refine spArg_eq 0 rfl rfl ?_
          refine spArg_nil ?_
          simp only [Act.put, List.setIfInBounds_toArray, List.set_cons_succ, List.set_cons_zero]
          go_wp2_with fail
          go_ret
          exact ⟨by rw [HF.out]; rfl, hu.up⟩
      · obtain rfl : n = es.length := by omega
        have hltI : ¬ es.length < ins.length := by have := HLL.out; omega
        have ha := HA.out
        rw [List.take_length] at ha
        have hcb := HCC.out
        rw [ha, Bool.true_and] at hcb
        have HCC2 := Lib.hid hcb
        clear ha hcb
        have HEQ := Lib.hid fun (u : World) => CheckEqualr_any p.base p.blind (prodE ins) (prodE es) pc ps u HPO.out.1 HPO.out.2.1 (in64_P (prodE_pos _)) (in64_P (prodE_pos _)) HCO.out.1 HCO.out.2
        rw [← HCC2.out] at HEQ
        go_wp2_with fail
        have hst := stabE wr
        have hk9 : HoldT (fun u => Ext wr u) w wr.drew := HoldT.drew hst ⟨Ext.refl _, HX.out⟩
        try change Code.wp _ _ _ (Act.mk _ _) _
        refine wp_region_runR Ext 12 56 (HoldT (fun u => Ext wr u) _) [[], [(0, 44)], [], [(2, 46)], [], [(4, 48)], [], [(6, 50)], [(7, 51)], [], [(9, 53)], [(1, 45), (3, 47), (5, 49), (8, 52), (10, 54)]] [(0, 44), (1, 45), (2, 46), (3, 47), (4, 48), (5, 49), (6, 50), (7, 51), (8, 52), (9, 53), (10, 54), (11, 55)] (by kernel_rfl) (by kernel_rfl) (by first | rfl | simp) (hk9) ?_
        simp only [List.take_succ_cons, List.take_zero, List.drop_succ_cons, List.drop_zero]
        refine sp_op (Ph.eq _) (fun u hu => by
          refine spArg_nil ?_
          have k1 := pub_cell (HCK.out.1.below hu.has)
          have k2 := pas_cell (HCK.out.2.below hu.has)
          go_wp2_with (fail)
          exact ⟨rfl, hu, Ext.refl _, slot_eq rfl⟩) ?_
        refine sp_op (Ph.eq _) (fun u hu => by
          refine spArg_eq 0 rfl rfl ?_
          refine spArg_nil ?_
          simp only [Act.put, List.setIfInBounds_toArray, List.set_cons_succ, List.set_cons_zero]
          have k1 := pub_cell (HCK.out.1.below hu.has)
          have k2 := pas_cell (HCK.out.2.below hu.has)
          go_wp2_with (fail)
          exact ⟨rfl, hu, Ext.refl _, slot_eq rfl⟩) ?_
        refine sp_op (Ph.eq _) (fun u hu => by
          refine spArg_nil ?_
          have k1 := pub_cell (HCK.out.1.below hu.has)
          have k2 := pas_cell (HCK.out.2.below hu.has)
          go_wp2_with (fail)
          exact ⟨rfl, hu, Ext.refl _, slot_eq rfl⟩) ?_
        refine sp_op (Ph.eq _) (fun u hu => by
          refine spArg_eq 0 rfl rfl ?_
          refine spArg_nil ?_
          simp only [Act.put, List.setIfInBounds_toArray, List.set_cons_succ, List.set_cons_zero]
          have k1 := pub_cell (HCK.out.1.below hu.has)
          have k2 := pas_cell (HCK.out.2.below hu.has)
          go_wp2_with (fail)
          exact ⟨rfl, hu, Ext.refl _, slot_eq rfl⟩) ?_
        refine sp_op (Ph.eq _) (fun u hu => by
          refine spArg_nil ?_
          have k1 := pub_cell (HCK.out.1.below hu.has)
          have k2 := pas_cell (HCK.out.2.below hu.has)
          go_wp2_with (fail)
          exact ⟨rfl, hu, Ext.refl _, slot_eq rfl⟩) ?_
        refine sp_op (Ph.eq _) (fun u hu => by
          refine spArg_eq 0 rfl rfl ?_
          refine spArg_nil ?_
          simp only [Act.put, List.setIfInBounds_toArray, List.set_cons_succ, List.set_cons_zero]
          have k1 := pub_cell (HCK.out.1.below hu.has)
          have k2 := pas_cell (HCK.out.2.below hu.has)
          go_wp2_with ((go_at_call 38; refine (hproductr_any ins B _ _ (HI.out.ext hu.up) HIO.out (by omega)).mono ?_; rintro e_ x_ ⟨rfl, hb_⟩))
          exact ⟨rfl, HoldT.step hst hu hb_, hb_, slot_eq rfl⟩) ?_
        refine sp_op (Ph.eq _) (fun u hu => by
          refine spArg_nil ?_
          have k1 := pub_cell (HCK.out.1.below hu.has)
          have k2 := pas_cell (HCK.out.2.below hu.has)
          go_wp2_with (fail)
          exact ⟨rfl, hu, Ext.refl _, slot_eq rfl⟩) ?_
        refine sp_op (Ph.eq _) (fun u hu => by
          refine spArg_eq 0 rfl rfl ?_
          refine spArg_nil ?_
          simp only [Act.put, List.setIfInBounds_toArray, List.set_cons_succ, List.set_cons_zero]
          have k1 := pub_cell (HCK.out.1.below hu.has)
          have k2 := pas_cell (HCK.out.2.below hu.has)
          go_wp2_with (fail)
          exact ⟨rfl, hu, Ext.refl _, slot_eq rfl⟩) ?_
        refine sp_op (Ph.eq _) (fun u hu => by
          refine spArg_eq 0 rfl rfl ?_
          refine spArg_nil ?_
          simp only [Act.put, List.setIfInBounds_toArray, List.set_cons_succ, List.set_cons_zero]
          have k1 := pub_cell (HCK.out.1.below hu.has)
          have k2 := pas_cell (HCK.out.2.below hu.has)
          go_wp2_with ((go_at_call 38; refine (hproductr_any es B _ _ (HX0.out.ext hu.up) (fun e he => (HXO.out e he).1) (by have := HLL.out; omega)).mono ?_; rintro e_ x_ ⟨rfl, hb_⟩))
          exact ⟨rfl, HoldT.step hst hu hb_, hb_, slot_eq rfl⟩) ?_
        refine sp_op (Ph.eq _) (fun u hu => by
          refine spArg_nil ?_
          have k1 := pub_cell (HCK.out.1.below hu.has)
          have k2 := pas_cell (HCK.out.2.below hu.has)
          go_wp2_with (fail)
          exact ⟨rfl, hu, Ext.refl _, slot_eq rfl⟩) ?_
        refine sp_op (Ph.eq (PV pc ps)) (fun u hu => by
          refine spArg_eq 0 rfl rfl ?_
          refine spArg_nil ?_
          simp only [Act.put, List.setIfInBounds_toArray, List.set_cons_succ, List.set_cons_zero]
          have k1 := pub_cell (HCK.out.1.below hu.has)
          have k2 := pas_cell (HCK.out.2.below hu.has)
          go_wp2_with ((refine wpList_load_mid rfl 43 _ rfl (w.heap.size + 1) 1 rfl _ _ (pas_prf2 (HCK.out.2.below hu.has)) Tryz.underlying43 rfl info_proof ?_))
          exact ⟨rfl, hu, Ext.refl _, slot_eq rfl⟩) ?_
        refine sp_op (Ph.eq _) (fun u hu => by
          refine spArg_eq 9 rfl rfl ?_
          refine spArg_eq 7 rfl rfl ?_
          refine spArg_eq 5 rfl rfl ?_
          refine spArg_eq 2 rfl rfl ?_
          refine spArg_eq 0 rfl rfl ?_
          refine spArg_nil ?_
          simp only [Act.put, List.setIfInBounds_toArray, List.set_cons_succ, List.set_cons_zero]
          have k1 := pub_cell (HCK.out.1.below hu.has)
          have k2 := pas_cell (HCK.out.2.below hu.has)
          go_wp2_with ((go_at_call 37; refine (HEQ.out _).mono ?_; rintro e_ x_ ⟨rfl, hb_⟩))
          exact ⟨rfl, HoldT.step hst hu hb_, hb_, slot_eq rfl⟩) ?_
        refine sp_end ?_
        intro u hu
        refine spArg_eq 11 rfl rfl ?_
        refine spArg_eq 10 rfl rfl ?_
        refine spArg_eq 9 rfl rfl ?_
        refine spArg_eq 8 rfl rfl ?_
        refine spArg_eq 7 rfl rfl ?_
        refine spArg_eq 6 rfl rfl ?_
        refine spArg_eq 5 rfl rfl ?_
        refine spArg_eq 4 rfl rfl ?_
        refine spArg_eq 3 rfl rfl ?_
        refine spArg_eq 2 rfl rfl ?_
        refine spArg_eq 1 rfl rfl ?_
        refine spArg_eq 0 rfl rfl ?_
        refine spArg_nil ?_
        simp only [Act.put, List.setIfInBounds_toArray, List.set_cons_succ, List.set_cons_zero]
        go_wp2_with fail
        go_ret
        exact ⟨rfl, hu.up⟩
  · have hne0 : ((es.length : Int) != (ins.length : Int)) = true := by rw [bne_iff_ne]; omega
    have HD := Lib.hid (show CB = false from by rw [HCB.out, decide_eq_false hll]; rfl)
    clear hll
    go_enter Tryz.func20, Tryz.ntmps20
    go_wp2_with fail
    go_ret
    exact ⟨by rw [HD.out]; rfl, hb0.out⟩
end Go.Proofs.YtmbgcjfmfkddpaaGreat
