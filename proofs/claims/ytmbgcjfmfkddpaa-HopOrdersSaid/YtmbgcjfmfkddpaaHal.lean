/-
  What the laws of the hops share.
-/
import Derived.Test.YtmbgcjfmfkddpaaHrun
namespace Go.Proofs.Ytmbgcjfmfkddpaa
set_option linter.unusedVariables false
set_option linter.unusedSimpArgs false
open Go Go.RowKit

theorem run_allocPas2 (w : World) : (Instr.alloc 34 true (.tuple #[])).run Try.prog w = .ok (.pointer (some ⟨w.heap.size, 0, none⟩)) (w.alloc (.cells PasZ 34)) := by simp [go_sem]
theorem one_pas2 (a : Option Addr) (n c : Nat) (x y : Int) : ∀ v ∈ (#[Value.slice a n c, .int .u64 x, .int .u64 y] : Array Value).toList, v.oneCell' = true := by
  intro v hv; simp at hv; rcases hv with rfl | rfl | rfl <;> rfl
set_option maxRecDepth 100000 in
set_option maxHeartbeats 2000000 in
theorem BigEntries_any (es : List Ent) (B : Nat) (v : Value) (w : World) (hv : SlR entR B w v es) :
    Calls Try.prog 6 #[v] w fun e w' => (∃ d : Bool, e = .returned (.bool d) ∧ (d = false → (∀ x ∈ es, x.box.length ≤ 300) ∧ es.length ≤ 30)) ∧ Below w.heap.size w w' := by
  obtain ⟨a, c, rfl, hac, hcc⟩ := hv.form
  have HV := Lib.hid hv; clear hv
  go_enter Try.func6, Try.ntmps6
  go_wp2_with fail
  go_loopw [3] (fun i wr => ∃ n : Nat, i = .int .i64 n ∧ n ≤ es.length ∧ (∀ (j : Nat) (x : Ent), j < n → es[j]? = some x → x.box.length ≤ 300) ∧ Ext w wr) (fun i _ => es.length - (intOf i).toNat)
  case atStart => exact ⟨0, rfl, Nat.zero_le _, fun j x h => absurd h (Nat.not_lt_zero _), Ext.refl _⟩
  case round =>
    obtain ⟨n, rfl, hn, hs, hX⟩ := hrel
    have HX := Lib.hid hX; have HS := Lib.hid hs
    clear hX hs
    by_cases hlt : n < es.length
    · obtain ⟨b, o, c', e1, -, -⟩ := HV.out.open (by omega)
      obtain ⟨rfl, rfl⟩ : a = some ⟨b, o, none⟩ ∧ c = c' := by injection e1 with e1 _ e3; exact ⟨e1, e3⟩
      clear e1
      obtain ⟨e, he⟩ : ∃ e, es[n]? = some e := ⟨_, List.getElem?_eq_getElem hlt⟩
      obtain ⟨ve, hrg, hve⟩ := slE_at HV.out n e he
      obtain ⟨ae, ce, rfl, -, -⟩ := sees_form hve
      have hq : wr.cell? ⟨b, o + n * 2 + 1, none⟩ = some (.slice ae e.box.length ce) := range_below hrg HX.out 1 _ rfl
      have HE := Lib.hid he
      clear hrg hve he
      by_cases hb : (300 : Int) < (e.box.length : Int)
      · go_wp2_with fail
        go_ret
        exact ⟨⟨true, rfl, fun h => by cases h⟩, HX.out⟩
      · go_wp2_with fail
        go_roundw
        case rel => exact ⟨n + 1, rfl, by omega, fun j x hj hx => by
          by_cases e2 : j = n
          · subst e2; rw [HE.out] at hx; cases hx; omega
          · exact HS.out j x (by omega) hx, HX.out⟩
        case measure => (simp [intOf] <;> omega)
    · obtain rfl : n = es.length := by omega
      go_wp2_with fail
      go_ret
      refine ⟨⟨_, rfl, fun h => ⟨fun x hx => ?_, ?_⟩⟩, HX.out⟩
      · obtain ⟨i, hi, rfl⟩ := List.getElem_of_mem hx
        exact HS.out i _ hi (List.getElem?_eq_getElem hi)
      · have := of_decide_eq_false h; omega
theorem SameEnt_any (e : Ent) (v1 v2 : Value) (w : World) (h1 : SeesB w v1 e.box) (h2 : SeesB w v2 e.box) :
    Calls Try.prog 13 #[.agg #[.int .u64 e.x, v1], .agg #[.int .u64 e.x, v2]] w fun r w' => r = .returned (.bool true) ∧ Below w.heap.size w w' := by
  have := Same2r_any e e v1 v2 w h1 h2
  rwa [decide_eq_true (rfl : e = e)] at this
set_option maxRecDepth 100000 in
set_option maxHeartbeats 2000000 in
theorem SameEntries_any (es : List Ent) (B : Nat) (v1 v2 : Value) (w : World) (h1 : SlR entR B w v1 es) (h2 : SlR entR B w v2 es) (hl : es.length ≤ 1000000000) :
    Calls Try.prog 22 #[v1, v2] w fun e w' => e = .returned (.bool true) ∧ Below w.heap.size w w' := by
  obtain ⟨a1, c1, rfl, -, -⟩ := h1.form
  obtain ⟨a2, c2, rfl, -, -⟩ := h2.form
  have HP := Lib.hid h1; have HQ := Lib.hid h2
  clear h1 h2
  go_enter Try.func22, Try.ntmps22
  go_wp2_with fail
  go_loopw [5] (fun iv wr => ∃ n : Nat, iv = .int .i64 n ∧ n ≤ es.length ∧ Ext w wr) (fun iv _ => es.length - (intOf iv).toNat)
  case atStart => exact ⟨0, rfl, Nat.zero_le _, Ext.refl _⟩
  case round =>
    obtain ⟨n, rfl, hn, hX⟩ := hrel
    have HX := Lib.hid hX
    clear hX
    by_cases hlt : n < es.length
    · obtain ⟨b1, o1, c1', e1, -, -⟩ := HP.out.open (by omega)
      obtain ⟨rfl, rfl⟩ : a1 = some ⟨b1, o1, none⟩ ∧ c1 = c1' := by injection e1 with e1 _ e3; exact ⟨e1, e3⟩
      clear e1
      obtain ⟨b2, o2, c2', e2, -, -⟩ := HQ.out.open (by omega)
      obtain ⟨rfl, rfl⟩ : a2 = some ⟨b2, o2, none⟩ ∧ c2 = c2' := by injection e2 with e1 _ e3; exact ⟨e1, e3⟩
      clear e2
      obtain ⟨e, he⟩ : ∃ e, es[n]? = some e := ⟨_, List.getElem?_eq_getElem hlt⟩
      obtain ⟨x1, hc1, hs1⟩ := slE_at (HP.out.ext HX.out) n e he
      obtain ⟨x2, hc2, hs2⟩ := slE_at (HQ.out.ext HX.out) n e he
      have HS1 := Lib.hid hs1; have HS2 := Lib.hid hs2; have HC1 := Lib.hid hc1; have HC2 := Lib.hid hc2
      clear hs1 hs2 hc1 hc2 he
      have hst : Stab (fun u => Ext wr u) := fun _ _ h hb => Ext.tr h hb
      go_wp2_with fail
      have hk : HoldT (fun u => Ext wr u) w wr.drew := HoldT.drew hst ⟨Ext.refl _, HX.out⟩
      have hd1 : decide (es.length ≤ n) = false := decide_eq_false (by omega)
      try change Code.wp _ _ _ (Act.mk _ _) _
      refine wp_region_runR Ext 10 27 (HoldT (fun u => Ext wr u) _) [[], [], [(0, 17), (1, 18)], [(2, 19)], [], [], [(4, 21), (5, 22)], [(6, 23)], [(3, 20), (7, 24)], [(8, 25)]] [(0, 17), (1, 18), (2, 19), (3, 20), (4, 21), (5, 22), (6, 23), (7, 24), (8, 25), (9, 26)] (by kernel_rfl) (by kernel_rfl) (by first | rfl | simp) (hk) ?_
      simp only [List.take_succ_cons, List.take_zero, List.drop_succ_cons, List.drop_zero]
      refine sp_op (Ph.eq _) (fun u hu => by
        refine spArg_nil ?_
        go_wp2_with (fail)
        exact ⟨rfl, hu, Ext.refl _, slot_eq rfl⟩) ?_
      refine sp_op (Ph.eq _) (fun u hu => by
        refine spArg_nil ?_
        go_wp2_with (fail)
        exact ⟨rfl, hu, Ext.refl _, slot_eq rfl⟩) ?_
      refine sp_op (Ph.eq _) (fun u hu => by
        refine spArg_eq 1 rfl rfl ?_
        refine spArg_eq 0 rfl rfl ?_
        refine spArg_nil ?_
        simp only [Act.put, List.setIfInBounds_toArray, List.set_cons_succ, List.set_cons_zero]
        go_wp2_with (fail)
        exact ⟨rfl, hu, Ext.refl _, slot_eq rfl⟩) ?_
      refine sp_op (Ph.eq (.agg #[.int .u64 e.x, x1])) (fun u hu => by
        refine spArg_eq 0 rfl rfl ?_
        refine spArg_nil ?_
        simp only [Act.put, List.setIfInBounds_toArray, List.set_cons_succ, List.set_cons_zero]
        go_wp2_with ((refine wpList_load_mid rfl 41 _ rfl b1 (o1 + n * 2) rfl _ _ (range_below HC1.out hu.has) Try.underlying41 rfl info_entry ?_))
        exact ⟨rfl, hu, Ext.refl _, slot_eq rfl⟩) ?_
      refine sp_op (Ph.eq _) (fun u hu => by
        refine spArg_nil ?_
        go_wp2_with (fail)
        exact ⟨rfl, hu, Ext.refl _, slot_eq rfl⟩) ?_
      refine sp_op (Ph.eq _) (fun u hu => by
        refine spArg_nil ?_
        go_wp2_with (fail)
        exact ⟨rfl, hu, Ext.refl _, slot_eq rfl⟩) ?_
      refine sp_op (Ph.eq _) (fun u hu => by
        refine spArg_eq 1 rfl rfl ?_
        refine spArg_eq 0 rfl rfl ?_
        refine spArg_nil ?_
        simp only [Act.put, List.setIfInBounds_toArray, List.set_cons_succ, List.set_cons_zero]
        go_wp2_with (fail)
        exact ⟨rfl, hu, Ext.refl _, slot_eq rfl⟩) ?_
      refine sp_op (Ph.eq (.agg #[.int .u64 e.x, x2])) (fun u hu => by
        refine spArg_eq 0 rfl rfl ?_
        refine spArg_nil ?_
        simp only [Act.put, List.setIfInBounds_toArray, List.set_cons_succ, List.set_cons_zero]
        go_wp2_with ((refine wpList_load_mid rfl 41 _ rfl b2 (o2 + n * 2) rfl _ _ (range_below HC2.out hu.has) Try.underlying41 rfl info_entry ?_))
        exact ⟨rfl, hu, Ext.refl _, slot_eq rfl⟩) ?_
      refine sp_op (Ph.eq _) (fun u hu => by
        refine spArg_eq 4 rfl rfl ?_
        refine spArg_eq 0 rfl rfl ?_
        refine spArg_nil ?_
        simp only [Act.put, List.setIfInBounds_toArray, List.set_cons_succ, List.set_cons_zero]
        go_wp2_with ((go_at_call 13; refine (SameEnt_any e _ _ _ (HS1.out.below hu.has (by decide)) (HS2.out.below hu.has (by decide))).mono ?_; rintro e_ x_ ⟨rfl, hb_⟩))
        exact ⟨rfl, HoldT.step hst hu hb_, hb_, slot_eq rfl⟩) ?_
      refine sp_op (Ph.eq _) (fun u hu => by
        refine spArg_eq 0 rfl rfl ?_
        refine spArg_nil ?_
        simp only [Act.put, List.setIfInBounds_toArray, List.set_cons_succ, List.set_cons_zero]
        go_wp2_with (fail)
        exact ⟨rfl, hu, Ext.refl _, slot_eq rfl⟩) ?_
      refine sp_end ?_
      intro u hu
      refine spArg_eq 9 rfl rfl ?_
      refine spArg_eq 8 rfl rfl ?_
      refine spArg_eq 7 rfl rfl ?_
      refine spArg_eq 6 rfl rfl ?_
      refine spArg_eq 5 rfl rfl ?_
      refine spArg_eq 4 rfl rfl ?_
      refine spArg_eq 3 rfl rfl ?_
      refine spArg_eq 2 rfl rfl ?_
      refine spArg_eq 1 rfl rfl ?_
      refine spArg_eq 0 rfl rfl ?_
      refine spArg_nil ?_
      simp only [Act.put, List.setIfInBounds_toArray, List.set_cons_succ, List.set_cons_zero]
      go_wp2_with fail
      go_roundw
      case rel => exact ⟨n + 1, rfl, by omega, hu.up⟩
      case measure => (simp [intOf] <;> omega)
    · obtain rfl : n = es.length := by omega
      go_wp2_with fail
      go_ret
      exact ⟨rfl, HX.out⟩
set_option maxRecDepth 100000 in
set_option maxHeartbeats 2000000 in
theorem same19_any (es : List Ent) (c s : Int) (B : Nat) (v1 v2 : Value) (w : World) (h1 : SlR entR B w v1 es) (h2 : SlR entR B w v2 es) (hl : es.length ≤ 1000000000) :
    Calls Try.prog 9 #[.agg #[v1, .int .u64 c, .int .u64 s], .agg #[v2, .int .u64 c, .int .u64 s]] w fun e w' => e = .returned (.bool true) ∧ Below w.heap.size w w' := by
  obtain ⟨a1, c1, rfl, -, -⟩ := h1.form
  obtain ⟨a2, c2, rfl, -, -⟩ := h2.form
  have hA := Lib.hid ((Blk.new w #[.slice a1 es.length c1, .int .u64 c, .int .u64 s] 34).alloc (.cells #[.slice a2 es.length c2, .int .u64 c, .int .u64 s] 34))
  have hB := Lib.hid (Blk.new2 w (.cells #[.slice a1 es.length c1, .int .u64 c, .int .u64 s] 34) #[.slice a2 es.length c2, .int .u64 c, .int .u64 s] 34)
  have hb0 := Lib.hid (show Ext w ((w.alloc (.cells #[.slice a1 es.length c1, .int .u64 c, .int .u64 s] 34)).alloc (.cells #[.slice a2 es.length c2, .int .u64 c, .int .u64 s] 34)) from (show Below w.heap.size w _ by go_grown))
  have HS := Lib.hid fun (w' : World) (e : Ext w w') => SameEntries_any es B _ _ w' (h1.ext e) (h2.ext e) hl
  have HRA := Lib.hid fun (u : World) (h : Blk u w.heap.size #[.slice a1 es.length c1, .int .u64 c, .int .u64 s] 34) => (show u.rangeAt w.heap.size 1 [.int .u64 c, .int .u64 s] from fun j v hj => by
    rcases j with _ | _ | j
    · cases hj; rw [h.cell]; rfl
    · cases hj; rw [h.cell]; rfl
    · simp at hj)
  have HRB := Lib.hid fun (u : World) (h : Blk u (w.heap.size + 1) #[.slice a2 es.length c2, .int .u64 c, .int .u64 s] 34) => (show u.rangeAt (w.heap.size + 1) 1 [.int .u64 c, .int .u64 s] from fun j v hj => by
    rcases j with _ | _ | j
    · cases hj; rw [h.cell]; rfl
    · cases hj; rw [h.cell]; rfl
    · simp at hj)
  clear h1 h2
  go_enter Try.func9, Try.ntmps9
  go_wp2_with (first
    | (go_at_call 22; refine (HS.out _ hb0.out).mono ?_; rintro r x1 ⟨rfl, hb1⟩
       have hA1 := HRA.out _ (hA.out.below hb1); have hB1 := HRB.out _ (hB.out.below hb1); have hup : Ext w x1 := Ext.tr hb0.out hb1)
    | (refine wpList_load_midG rfl 26 (.tmp 11) rfl w.heap.size 1 rfl _ _ hA1 Try.underlying26 rfl info_proof ?_)
    | (refine wpList_load_midG rfl 26 (.tmp 13) rfl (w.heap.size + 1) 1 rfl _ _ hB1 Try.underlying26 rfl info_proof ?_)
    | (refine wpList_eqP rfl _ _ rfl _ _ _ _ rfl rfl ?_))
  go_ret
  exact ⟨by simp, hup⟩
end Go.Proofs.Ytmbgcjfmfkddpaa
