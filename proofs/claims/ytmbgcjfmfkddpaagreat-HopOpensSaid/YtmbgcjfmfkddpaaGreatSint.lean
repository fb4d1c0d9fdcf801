/-
  Two lists of numbers, compared.
-/
import Derived.Test.YtmbgcjfmfkddpaaGreatInts
import Derived.Test.YtmbgcjfmfkddpaaGreatSpec
namespace Go.Proofs.YtmbgcjfmfkddpaaGreat
set_option linter.unusedVariables false
set_option linter.unusedSimpArgs false
open Go Go.RowKit

theorem take_eq_step {p q : List Int} {n : Nat} {x : Int} (h : p.take n = q.take n) (hp : p[n]? = some x) (hq : q[n]? = some x) : p.take (n + 1) = q.take (n + 1) := by
  obtain ⟨h1, e1⟩ := List.getElem?_eq_some_iff.1 hp
  obtain ⟨h2, e2⟩ := List.getElem?_eq_some_iff.1 hq
  rw [List.take_succ_eq_append_getElem h1, List.take_succ_eq_append_getElem h2, h, e1, e2]
set_option maxRecDepth 100000 in
set_option maxHeartbeats 2000000 in
theorem SameIntsr_any (p q : List Int) (B : Nat) (v1 v2 : Value) (w : World) (hp : SlR intR B w v1 p) (hq : SlR intR B w v2 q) (hl : p.length ≤ 1000000000) (hl2 : q.length ≤ 1000000000) :
    Calls Tryz.prog 12 #[v1, v2] w fun e w' => e = .returned (.bool (decide (p = q))) ∧ Below w.heap.size w w' := by
  obtain ⟨a1, c1, rfl, -, -⟩ := hp.form
  obtain ⟨a2, c2, rfl, -, -⟩ := hq.form
  have HP := Lib.hid hp; have HQ := Lib.hid hq
  clear hp hq
  by_cases hll : p.length = q.length
  · have HLL := Lib.hid hll
    rw [← hll] at HQ ⊢
    clear hll hl2
    go_enter Tryz.func12, Tryz.ntmps12
    go_wp2_with fail
    go_loopw [5] (fun iv wr => ∃ n : Nat, iv = .int .i64 n ∧ n ≤ p.length ∧ p.take n = q.take n ∧ Ext w wr) (fun iv _ => p.length - (intOf iv).toNat)
    case atStart => exact ⟨0, rfl, Nat.zero_le _, by simp, Ext.refl _⟩
    case round =>
      obtain ⟨n, rfl, hn, hpq, hX⟩ := hrel
      have HX := Lib.hid hX; have HE := Lib.hid hpq
      clear hX hpq
      by_cases hlt : n < p.length
      · obtain ⟨b1, o1, c1', e1, -, -⟩ := HP.out.open (by omega)
        obtain ⟨rfl, rfl⟩ : a1 = some ⟨b1, o1, none⟩ ∧ c1 = c1' := by injection e1 with e1 _ e3; exact ⟨e1, e3⟩
        clear e1
        have hq0 := HQ.out
        rw [HLL.out] at hq0
        obtain ⟨b2, o2, c2', e2, -, -⟩ := hq0.open (by have := HLL.out; omega)
        obtain ⟨rfl, rfl⟩ : a2 = some ⟨b2, o2, none⟩ ∧ c2 = c2' := by injection e2 with e1 _ e3; exact ⟨e1, e3⟩
        clear e2 hq0
        obtain ⟨x, hx⟩ : ∃ x, p[n]? = some x := ⟨_, List.getElem?_eq_getElem hlt⟩
        obtain ⟨y, hy⟩ : ∃ y, q[n]? = some y := ⟨_, List.getElem?_eq_getElem (by have := HLL.out; omega)⟩
        have HXX := Lib.hid hx; have HYY := Lib.hid hy
        clear hx hy
        have hst : Stab (fun u => Ext w u) := fun _ _ h hb => Ext.tr h hb
        go_wp2_with fail
        have hk : HoldT (fun u => Ext w u) w wr.drew := HoldT.drew hst ⟨HX.out, HX.out⟩
        have hd1 : decide (p.length ≤ n) = false := decide_eq_false (by omega)
        by_cases hxy : x = y
        · subst hxy
          try change Code.wp _ _ _ (Act.mk _ _) _
          refine wp_region_runR Ext 9 26 (HoldT (fun u => Ext w u) _) [[], [], [(0, 17), (1, 18)], [(2, 19)], [], [], [(4, 21), (5, 22)], [(6, 23)], [(3, 20), (7, 24)]] [(0, 17), (1, 18), (2, 19), (3, 20), (4, 21), (5, 22), (6, 23), (7, 24), (8, 25)] (by kernel_rfl) (by kernel_rfl) (by first | rfl | simp) (hk) ?_
          simp only [List.take_succ_cons, List.take_zero, List.drop_succ_cons, List.drop_zero]
          refine sp_op (Ph.eq _) (fun u hu => by
            refine spArg_nil ?_
            have k1 := slI_at (HP.out.ext hu.up) n x HXX.out
            have k2 := slI_at (HQ.out.ext hu.up) n x HYY.out
            go_wp2_with (fail)
            exact ⟨rfl, hu, Ext.refl _, slot_eq rfl⟩) ?_
          refine sp_op (Ph.eq _) (fun u hu => by
            refine spArg_nil ?_
            have k1 := slI_at (HP.out.ext hu.up) n x HXX.out
            have k2 := slI_at (HQ.out.ext hu.up) n x HYY.out
            go_wp2_with (fail)
            exact ⟨rfl, hu, Ext.refl _, slot_eq rfl⟩) ?_
          refine sp_op (Ph.eq _) (fun u hu => by
            refine spArg_eq 1 rfl rfl ?_
            refine spArg_eq 0 rfl rfl ?_
            refine spArg_nil ?_
            simp only [Act.put, List.setIfInBounds_toArray, List.set_cons_succ, List.set_cons_zero]
            have k1 := slI_at (HP.out.ext hu.up) n x HXX.out
            have k2 := slI_at (HQ.out.ext hu.up) n x HYY.out
            go_wp2_with (fail)
            exact ⟨rfl, hu, Ext.refl _, slot_eq rfl⟩) ?_
          refine sp_op (Ph.eq _) (fun u hu => by
            refine spArg_eq 0 rfl rfl ?_
            refine spArg_nil ?_
            simp only [Act.put, List.setIfInBounds_toArray, List.set_cons_succ, List.set_cons_zero]
            have k1 := slI_at (HP.out.ext hu.up) n x HXX.out
            have k2 := slI_at (HQ.out.ext hu.up) n x HYY.out
            go_wp2_with (fail)
            exact ⟨rfl, hu, Ext.refl _, slot_eq rfl⟩) ?_
          refine sp_op (Ph.eq _) (fun u hu => by
            refine spArg_nil ?_
            have k1 := slI_at (HP.out.ext hu.up) n x HXX.out
            have k2 := slI_at (HQ.out.ext hu.up) n x HYY.out
            go_wp2_with (fail)
            exact ⟨rfl, hu, Ext.refl _, slot_eq rfl⟩) ?_
          refine sp_op (Ph.eq _) (fun u hu => by
            refine spArg_nil ?_
            have k1 := slI_at (HP.out.ext hu.up) n x HXX.out
            have k2 := slI_at (HQ.out.ext hu.up) n x HYY.out
            go_wp2_with (fail)
            exact ⟨rfl, hu, Ext.refl _, slot_eq rfl⟩) ?_
          refine sp_op (Ph.eq _) (fun u hu => by
            refine spArg_eq 1 rfl rfl ?_
            refine spArg_eq 0 rfl rfl ?_
            refine spArg_nil ?_
            simp only [Act.put, List.setIfInBounds_toArray, List.set_cons_succ, List.set_cons_zero]
            have k1 := slI_at (HP.out.ext hu.up) n x HXX.out
            have k2 := slI_at (HQ.out.ext hu.up) n x HYY.out
            go_wp2_with (fail)
            exact ⟨rfl, hu, Ext.refl _, slot_eq rfl⟩) ?_
          refine sp_op (Ph.eq _) (fun u hu => by
            refine spArg_eq 0 rfl rfl ?_
            refine spArg_nil ?_
            simp only [Act.put, List.setIfInBounds_toArray, List.set_cons_succ, List.set_cons_zero]
            have k1 := slI_at (HP.out.ext hu.up) n x HXX.out
            have k2 := slI_at (HQ.out.ext hu.up) n x HYY.out
            go_wp2_with (fail)
            exact ⟨rfl, hu, Ext.refl _, slot_eq rfl⟩) ?_
          refine sp_op (Ph.eq _) (fun u hu => by
            refine spArg_eq 4 rfl rfl ?_
            refine spArg_eq 0 rfl rfl ?_
            refine spArg_nil ?_
            simp only [Act.put, List.setIfInBounds_toArray, List.set_cons_succ, List.set_cons_zero]
            have k1 := slI_at (HP.out.ext hu.up) n x HXX.out
            have k2 := slI_at (HQ.out.ext hu.up) n x HYY.out
            go_wp2_with (fail)
            exact ⟨rfl, hu, Ext.refl _, slot_eq rfl⟩) ?_
          refine sp_end ?_
          intro u hu
          refine spArg_eq 8 rfl rfl ?_
          refine spArg_eq 7 rfl rfl ?_
          refine spArg_eq 6 rfl rfl ?_
          refine spArg_eq 5 rfl rfl ?_
          refine spArg_eq 4 rfl rfl ?_
          refine spArg_eq 3 rfl rfl ?_
          refine spArg_eq 2 rfl rfl ?_
          refine spArg_eq 1 rfl rfl ?_
          refine spArg_eq 0 rfl rfl ?_
          refine spArg_nil ?_
          simp only [Act.put, List.setIfInBounds_toArray, List.set_cons_succ, List.set_cons_zero]
          go_wp2_with fail
          go_roundw
          case rel => exact ⟨n + 1, rfl, by omega, take_eq_step HE.out HXX.out HYY.out, hu.up⟩
          case measure => (simp [intOf] <;> omega)
        · have hne : (x != y) = true := by rw [bne_iff_ne]; exact hxy
          have HD := Lib.hid (show decide (p = q) = false from decide_eq_false (fun e => by subst e; exact hxy (by have := HXX.out.symm.trans HYY.out; injection this)))
          try change Code.wp _ _ _ (Act.mk _ _) _
          refine wp_region_runR Ext 9 26 (HoldT (fun u => Ext w u) _) [[], [], [(0, 17), (1, 18)], [(2, 19)], [], [], [(4, 21), (5, 22)], [(6, 23)], [(3, 20), (7, 24)]] [(0, 17), (1, 18), (2, 19), (3, 20), (4, 21), (5, 22), (6, 23), (7, 24), (8, 25)] (by kernel_rfl) (by kernel_rfl) (by first | rfl | simp) (hk) ?_
          simp only [List.take_succ_cons, List.take_zero, List.drop_succ_cons, List.drop_zero]
          refine sp_op (Ph.eq _) (fun u hu => by
            refine spArg_nil ?_
            have k1 := slI_at (HP.out.ext hu.up) n x HXX.out
            have k2 := slI_at (HQ.out.ext hu.up) n y HYY.out
            go_wp2_with (fail)
            exact ⟨rfl, hu, Ext.refl _, slot_eq rfl⟩) ?_
          refine sp_op (Ph.eq _) (fun u hu => by
            refine spArg_nil ?_
            have k1 := slI_at (HP.out.ext hu.up) n x HXX.out
            have k2 := slI_at (HQ.out.ext hu.up) n y HYY.out
            go_wp2_with (fail)
            exact ⟨rfl, hu, Ext.refl _, slot_eq rfl⟩) ?_
          refine sp_op (Ph.eq _) (fun u hu => by
            refine spArg_eq 1 rfl rfl ?_
            refine spArg_eq 0 rfl rfl ?_
            refine spArg_nil ?_
            simp only [Act.put, List.setIfInBounds_toArray, List.set_cons_succ, List.set_cons_zero]
            have k1 := slI_at (HP.out.ext hu.up) n x HXX.out
            have k2 := slI_at (HQ.out.ext hu.up) n y HYY.out
            go_wp2_with (fail)
            exact ⟨rfl, hu, Ext.refl _, slot_eq rfl⟩) ?_
          refine sp_op (Ph.eq _) (fun u hu => by
            refine spArg_eq 0 rfl rfl ?_
            refine spArg_nil ?_
            simp only [Act.put, List.setIfInBounds_toArray, List.set_cons_succ, List.set_cons_zero]
            have k1 := slI_at (HP.out.ext hu.up) n x HXX.out
            have k2 := slI_at (HQ.out.ext hu.up) n y HYY.out
            go_wp2_with (fail)
            exact ⟨rfl, hu, Ext.refl _, slot_eq rfl⟩) ?_
          refine sp_op (Ph.eq _) (fun u hu => by
            refine spArg_nil ?_
            have k1 := slI_at (HP.out.ext hu.up) n x HXX.out
            have k2 := slI_at (HQ.out.ext hu.up) n y HYY.out
            go_wp2_with (fail)
            exact ⟨rfl, hu, Ext.refl _, slot_eq rfl⟩) ?_
          refine sp_op (Ph.eq _) (fun u hu => by
            refine spArg_nil ?_
            have k1 := slI_at (HP.out.ext hu.up) n x HXX.out
            have k2 := slI_at (HQ.out.ext hu.up) n y HYY.out
            go_wp2_with (fail)
            exact ⟨rfl, hu, Ext.refl _, slot_eq rfl⟩) ?_
          refine sp_op (Ph.eq _) (fun u hu => by
            refine spArg_eq 1 rfl rfl ?_
            refine spArg_eq 0 rfl rfl ?_
            refine spArg_nil ?_
            simp only [Act.put, List.setIfInBounds_toArray, List.set_cons_succ, List.set_cons_zero]
            have k1 := slI_at (HP.out.ext hu.up) n x HXX.out
            have k2 := slI_at (HQ.out.ext hu.up) n y HYY.out
            go_wp2_with (fail)
            exact ⟨rfl, hu, Ext.refl _, slot_eq rfl⟩) ?_
          refine sp_op (Ph.eq _) (fun u hu => by
            refine spArg_eq 0 rfl rfl ?_
            refine spArg_nil ?_
            simp only [Act.put, List.setIfInBounds_toArray, List.set_cons_succ, List.set_cons_zero]
            have k1 := slI_at (HP.out.ext hu.up) n x HXX.out
            have k2 := slI_at (HQ.out.ext hu.up) n y HYY.out
            go_wp2_with (fail)
            exact ⟨rfl, hu, Ext.refl _, slot_eq rfl⟩) ?_
          refine sp_op (Ph.eq _) (fun u hu => by
            refine spArg_eq 4 rfl rfl ?_
            refine spArg_eq 0 rfl rfl ?_
            refine spArg_nil ?_
            simp only [Act.put, List.setIfInBounds_toArray, List.set_cons_succ, List.set_cons_zero]
            have k1 := slI_at (HP.out.ext hu.up) n x HXX.out
            have k2 := slI_at (HQ.out.ext hu.up) n y HYY.out
            go_wp2_with (fail)
            exact ⟨rfl, hu, Ext.refl _, slot_eq rfl⟩) ?_
          refine sp_end ?_
          intro u hu
          refine spArg_eq 8 rfl rfl ?_
          refine spArg_eq 7 rfl rfl ?_
          refine spArg_eq 6 rfl rfl ?_
          refine spArg_eq 5 rfl rfl ?_
          refine spArg_eq 4 rfl rfl ?_
          refine spArg_eq 3 rfl rfl ?_
          refine spArg_eq 2 rfl rfl ?_
          refine spArg_eq 1 rfl rfl ?_
          refine spArg_eq 0 rfl rfl ?_
          refine spArg_nil ?_
          simp only [Act.put, List.setIfInBounds_toArray, List.set_cons_succ, List.set_cons_zero]
          go_wp2_with fail
          go_ret
          exact ⟨by rw [HD.out]; rfl, hu.up⟩
      · obtain rfl : n = p.length := by omega
        have HD := Lib.hid (show decide (p = q) = true from decide_eq_true (by have h := HE.out; rw [List.take_length, HLL.out, List.take_length] at h; exact h))
        go_wp2_with fail
        go_ret
        exact ⟨by rw [HD.out]; rfl, HX.out⟩
  · have HD := Lib.hid (show decide (p = q) = false from decide_eq_false (fun e => hll (by rw [e])))
    have hne : ((p.length : Int) != (q.length : Int)) = true := by rw [bne_iff_ne]; omega
    go_enter Tryz.func12, Tryz.ntmps12
    go_wp2_with fail
    go_ret
    exact ⟨by rw [HD.out]; rfl, Ext.refl _⟩
end Go.Proofs.YtmbgcjfmfkddpaaGreat
