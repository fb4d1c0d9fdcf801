/-
  Orders: RightOrder of the reference.
-/
import Derived.Test.YtmbgcjfmfkddpaaHopL
import Derived.Test.YtmbgcjfmfkddpaaInts
import Derived.Test.YtmbgcjfmfkddpaaSpec
namespace Go.Proofs.Ytmbgcjfmfkddpaa
set_option linter.unusedVariables false
set_option linter.unusedSimpArgs false
open Go Go.RowKit

/-- The first n of a list are so that it may be an order. -/
def permN (p : List Int) (n : Nat) : Prop := (∀ x ∈ p.take n, 0 ≤ x ∧ x < p.length) ∧ (p.take n).Nodup
theorem permN_zero (p : List Int) : permN p 0 := ⟨fun x h => by simp at h, by simp⟩
theorem permN_full (p : List Int) : permN p p.length ↔ permOk p := by unfold permN permOk; rw [List.take_length]
theorem permN_step {p : List Int} {n : Nat} {x : Int} (h : permN p n) (hx : p[n]? = some x) (h0 : 0 ≤ x) (h1 : x < p.length) (hd : ∀ j, j < n → p[j]? ≠ some x) : permN p (n + 1) := by
  obtain ⟨hn, rfl⟩ := List.getElem?_eq_some_iff.1 hx
  unfold permN
  rw [List.take_succ_eq_append_getElem hn]
  refine ⟨fun y hy => ?_, ?_⟩
  · rcases List.mem_append.1 hy with hy | hy
    · exact h.1 y hy
    · rw [List.mem_singleton] at hy; subst hy; exact ⟨h0, h1⟩
  · rw [List.nodup_append]
    refine ⟨h.2, by simp, fun a ha b hb => ?_⟩
    rw [List.mem_singleton] at hb; subst hb
    intro e; subst e
    obtain ⟨j, hj, he⟩ := List.getElem_of_mem ha
    rw [List.length_take] at hj
    rw [List.getElem_take] at he
    exact hd j (by omega) (by rw [List.getElem?_eq_getElem (by omega), he])
theorem not_perm_range {p : List Int} {n : Nat} {x : Int} (hx : p[n]? = some x) (h : ¬ (0 ≤ x ∧ x < p.length)) : ¬ permOk p := fun hp => h (hp.1 x (List.mem_of_getElem? hx))
theorem not_perm_twice {p : List Int} {m n : Nat} {x : Int} (hmn : m < n) (hm : p[m]? = some x) (hn : p[n]? = some x) : ¬ permOk p := fun hp => by
  obtain ⟨h1, e1⟩ := List.getElem?_eq_some_iff.1 hm
  obtain ⟨h2, e2⟩ := List.getElem?_eq_some_iff.1 hn
  exact List.pairwise_iff_getElem.1 hp.2 m n h1 h2 hmn (e1.trans e2.symm)
set_option maxRecDepth 100000 in
set_option maxHeartbeats 2000000 in
theorem RightOrderr_any (p : List Int) (B : Nat) (v : Value) (w : World) (hv : SlR intR B w v p) (hl : p.length ≤ 9223372036854775807) :
    Calls Try.prog 16 #[v] w fun e w' => e = .returned (.bool (decide (permOk p))) ∧ Below w.heap.size w w' := by
  obtain ⟨a, c, rfl, hc, hm⟩ := hv.form
  have HV := Lib.hid hv; clear hv
  go_enter Try.func16, Try.ntmps16
  go_wp2_with fail
  go_loopw [3, 4] (fun i _ wr => ∃ n : Nat, i = .int .i64 n ∧ n ≤ p.length ∧ permN p n ∧ Ext w wr) (fun i _ _ => p.length - (intOf i).toNat)
  case atStart => exact ⟨0, rfl, Nat.zero_le _, permN_zero _, Ext.refl _⟩
  case round =>
    obtain ⟨n, rfl, hn, hp, hext⟩ := hrel
    have HP := Lib.hid hp; have HE := Lib.hid hext; clear hp hext
    by_cases hlt : n < p.length
    · obtain ⟨b, o, c', e1, -, -⟩ := HV.out.open (by omega)
      obtain ⟨rfl, rfl⟩ : a = some ⟨b, o, none⟩ ∧ c = c' := by injection e1 with e1 _ e3; exact ⟨e1, e3⟩
      clear e1
      obtain ⟨x, hx⟩ : ∃ x, p[n]? = some x := ⟨_, List.getElem?_eq_getElem hlt⟩
      have HX := Lib.hid hx; clear hx
      have hcx : wr.cell? ⟨b, o + n, none⟩ = some (.int .i64 x) := slI_at (HV.out.ext HE.out) n x HX.out
      by_cases h0 : x < 0
      · have HD := Lib.hid (decide_eq_false (not_perm_range HX.out (by omega)))
        go_wp2_with fail
        go_ret
        exact ⟨by rw [HD.out]; rfl, HE.out⟩
      · by_cases h1 : (p.length : Int) ≤ x
        · have HD := Lib.hid (decide_eq_false (not_perm_range HX.out (by omega)))
          go_wp2_with fail
          go_ret
          exact ⟨by rw [HD.out]; rfl, HE.out⟩
        · clear hcx
          have hcx : wr.cell? ⟨b, o + n, none⟩ = some (.int .i64 x) := slI_at (HV.out.ext HE.out) n x HX.out
          go_wp2_with fail
          clear hcx
          go_loopw [4] (fun k wr => ∃ m : Nat, k = .int .i64 m ∧ m ≤ n ∧ (∀ j, j < m → p[j]? ≠ some x) ∧ Ext w wr) (fun k _ => n - (intOf k).toNat)
          case atStart => exact ⟨0, rfl, Nat.zero_le _, fun j hj => absurd hj (Nat.not_lt_zero _), HE.out⟩
          case round =>
            clear HE
            obtain ⟨m, rfl, hmn, hd, hext⟩ := hrel
            have HDD := Lib.hid hd; clear hd
            by_cases hm2 : m < n
            · obtain ⟨y, hy⟩ : ∃ y, p[m]? = some y := ⟨_, List.getElem?_eq_getElem (by omega)⟩
              have HY := Lib.hid hy; clear hy
              have hst : Stab (fun u => Ext w u) := fun _ _ h hb => Ext.tr h hb
              have hd1 : decide (p.length ≤ m) = false := decide_eq_false (by omega)
              have hd2 : decide (p.length ≤ n) = false := decide_eq_false (by omega)
              rename_i wr2
              go_wp2_with fail
              have hk : HoldT (fun u => Ext w u) w wr.drew := HoldT.drew hst ⟨hext, hext⟩
              by_cases hxy : y = x
              · subst hxy
                have HD := Lib.hid (decide_eq_false (not_perm_twice hm2 HY.out HX.out))
                try change Code.wp _ _ _ (Act.mk _ _) _
                refine wp_region_runR Ext 9 39 (HoldT (fun u => Ext w u) _) [[], [], [(0, 30), (1, 31)], [(2, 32)], [], [], [(4, 34), (5, 35)], [(6, 36)], [(3, 33), (7, 37)]] [(0, 30), (1, 31), (2, 32), (3, 33), (4, 34), (5, 35), (6, 36), (7, 37), (8, 38)] (by kernel_rfl) (by kernel_rfl) (by first | rfl | simp) (hk) ?_
                simp only [List.take_succ_cons, List.take_zero, List.drop_succ_cons, List.drop_zero]
                refine sp_op (Ph.eq _) (fun u hu => by
                  refine spArg_nil ?_
                  have k1 := slI_at (HV.out.ext hu.up) m y HY.out
                  have k2 := slI_at (HV.out.ext hu.up) n y HX.out
                  go_wp2_with (fail)
                  exact ⟨rfl, hu, Ext.refl _, slot_eq rfl⟩) ?_
                refine sp_op (Ph.eq _) (fun u hu => by
                  refine spArg_nil ?_
                  have k1 := slI_at (HV.out.ext hu.up) m y HY.out
                  have k2 := slI_at (HV.out.ext hu.up) n y HX.out
                  go_wp2_with (fail)
                  exact ⟨rfl, hu, Ext.refl _, slot_eq rfl⟩) ?_
                refine sp_op (Ph.eq _) (fun u hu => by
                  refine spArg_eq 1 rfl rfl ?_
                  refine spArg_eq 0 rfl rfl ?_
                  refine spArg_nil ?_
                  simp only [Act.put, List.setIfInBounds_toArray, List.set_cons_succ, List.set_cons_zero]
                  have k1 := slI_at (HV.out.ext hu.up) m y HY.out
                  have k2 := slI_at (HV.out.ext hu.up) n y HX.out
                  go_wp2_with (fail)
                  exact ⟨rfl, hu, Ext.refl _, slot_eq rfl⟩) ?_
                refine sp_op (Ph.eq _) (fun u hu => by
                  refine spArg_eq 0 rfl rfl ?_
                  refine spArg_nil ?_
                  simp only [Act.put, List.setIfInBounds_toArray, List.set_cons_succ, List.set_cons_zero]
                  have k1 := slI_at (HV.out.ext hu.up) m y HY.out
                  have k2 := slI_at (HV.out.ext hu.up) n y HX.out
                  go_wp2_with (fail)
                  exact ⟨rfl, hu, Ext.refl _, slot_eq rfl⟩) ?_
                refine sp_op (Ph.eq _) (fun u hu => by
                  refine spArg_nil ?_
                  have k1 := slI_at (HV.out.ext hu.up) m y HY.out
                  have k2 := slI_at (HV.out.ext hu.up) n y HX.out
                  go_wp2_with (fail)
                  exact ⟨rfl, hu, Ext.refl _, slot_eq rfl⟩) ?_
                refine sp_op (Ph.eq _) (fun u hu => by
                  refine spArg_nil ?_
                  have k1 := slI_at (HV.out.ext hu.up) m y HY.out
                  have k2 := slI_at (HV.out.ext hu.up) n y HX.out
                  go_wp2_with (fail)
                  exact ⟨rfl, hu, Ext.refl _, slot_eq rfl⟩) ?_
                refine sp_op (Ph.eq _) (fun u hu => by
                  refine spArg_eq 1 rfl rfl ?_
                  refine spArg_eq 0 rfl rfl ?_
                  refine spArg_nil ?_
                  simp only [Act.put, List.setIfInBounds_toArray, List.set_cons_succ, List.set_cons_zero]
                  have k1 := slI_at (HV.out.ext hu.up) m y HY.out
                  have k2 := slI_at (HV.out.ext hu.up) n y HX.out
                  go_wp2_with (fail)
                  exact ⟨rfl, hu, Ext.refl _, slot_eq rfl⟩) ?_
                refine sp_op (Ph.eq _) (fun u hu => by
                  refine spArg_eq 0 rfl rfl ?_
                  refine spArg_nil ?_
                  simp only [Act.put, List.setIfInBounds_toArray, List.set_cons_succ, List.set_cons_zero]
                  have k1 := slI_at (HV.out.ext hu.up) m y HY.out
                  have k2 := slI_at (HV.out.ext hu.up) n y HX.out
                  go_wp2_with (fail)
                  exact ⟨rfl, hu, Ext.refl _, slot_eq rfl⟩) ?_
                refine sp_op (Ph.eq _) (fun u hu => by
                  refine spArg_eq 4 rfl rfl ?_
                  refine spArg_eq 0 rfl rfl ?_
                  refine spArg_nil ?_
                  simp only [Act.put, List.setIfInBounds_toArray, List.set_cons_succ, List.set_cons_zero]
                  have k1 := slI_at (HV.out.ext hu.up) m y HY.out
                  have k2 := slI_at (HV.out.ext hu.up) n y HX.out
                  go_wp2_with (fail)
                  exact ⟨rfl, hu, Ext.refl _, slot_eq rfl⟩) ?_
                refine sp_end ?_
                intro u hu
                refine spArg_eq 8 rfl rfl ?_
                refine spArg_eq 7 rfl rfl ?_
                refine spArg_eq 6 rfl rfl ?_
                refine spArg_eq 5 rfl rfl ?_
                refine spArg_eq 4 rfl rfl ?_
                refine spArg_eq 3 rfl rfl ?_
                refine spArg_eq 2 rfl rfl ?_
                refine spArg_eq 1 rfl rfl ?_
                refine spArg_eq 0 rfl rfl ?_
                refine spArg_nil ?_
                simp only [Act.put, List.setIfInBounds_toArray, List.set_cons_succ, List.set_cons_zero]
                go_wp2_with fail
                go_ret
                exact ⟨by rw [HD.out]; rfl, hu.up⟩
              · have hne : (y == x) = false := by rw [beq_eq_false_iff_ne]; exact hxy
                try change Code.wp _ _ _ (Act.mk _ _) _
                refine wp_region_runR Ext 9 39 (HoldT (fun u => Ext w u) _) [[], [], [(0, 30), (1, 31)], [(2, 32)], [], [], [(4, 34), (5, 35)], [(6, 36)], [(3, 33), (7, 37)]] [(0, 30), (1, 31), (2, 32), (3, 33), (4, 34), (5, 35), (6, 36), (7, 37), (8, 38)] (by kernel_rfl) (by kernel_rfl) (by first | rfl | simp) (hk) ?_
                simp only [List.take_succ_cons, List.take_zero, List.drop_succ_cons, List.drop_zero]
                refine sp_op (Ph.eq _) (fun u hu => by
                  refine spArg_nil ?_
                  have k1 := slI_at (HV.out.ext hu.up) m y HY.out
                  have k2 := slI_at (HV.out.ext hu.up) n x HX.out
                  go_wp2_with (fail)
                  exact ⟨rfl, hu, Ext.refl _, slot_eq rfl⟩) ?_
                refine sp_op (Ph.eq _) (fun u hu => by
                  refine spArg_nil ?_
                  have k1 := slI_at (HV.out.ext hu.up) m y HY.out
                  have k2 := slI_at (HV.out.ext hu.up) n x HX.out
                  go_wp2_with (fail)
                  exact ⟨rfl, hu, Ext.refl _, slot_eq rfl⟩) ?_
                refine sp_op (Ph.eq _) (fun u hu => by
                  refine spArg_eq 1 rfl rfl ?_
                  refine spArg_eq 0 rfl rfl ?_
                  refine spArg_nil ?_
                  simp only [Act.put, List.setIfInBounds_toArray, List.set_cons_succ, List.set_cons_zero]
                  have k1 := slI_at (HV.out.ext hu.up) m y HY.out
                  have k2 := slI_at (HV.out.ext hu.up) n x HX.out
                  go_wp2_with (fail)
                  exact ⟨rfl, hu, Ext.refl _, slot_eq rfl⟩) ?_
                refine sp_op (Ph.eq _) (fun u hu => by
                  refine spArg_eq 0 rfl rfl ?_
                  refine spArg_nil ?_
                  simp only [Act.put, List.setIfInBounds_toArray, List.set_cons_succ, List.set_cons_zero]
                  have k1 := slI_at (HV.out.ext hu.up) m y HY.out
                  have k2 := slI_at (HV.out.ext hu.up) n x HX.out
                  go_wp2_with (fail)
                  exact ⟨rfl, hu, Ext.refl _, slot_eq rfl⟩) ?_
                refine sp_op (Ph.eq _) (fun u hu => by
                  refine spArg_nil ?_
                  have k1 := slI_at (HV.out.ext hu.up) m y HY.out
                  have k2 := slI_at (HV.out.ext hu.up) n x HX.out
                  go_wp2_with (fail)
                  exact ⟨rfl, hu, Ext.refl _, slot_eq rfl⟩) ?_
                refine sp_op (Ph.eq _) (fun u hu => by
                  refine spArg_nil ?_
                  have k1 := slI_at (HV.out.ext hu.up) m y HY.out
                  have k2 := slI_at (HV.out.ext hu.up) n x HX.out
                  go_wp2_with (fail)
                  exact ⟨rfl, hu, Ext.refl _, slot_eq rfl⟩) ?_
                refine sp_op (Ph.eq _) (fun u hu => by
                  refine spArg_eq 1 rfl rfl ?_
                  refine spArg_eq 0 rfl rfl ?_
                  refine spArg_nil ?_
                  simp only [Act.put, List.setIfInBounds_toArray, List.set_cons_succ, List.set_cons_zero]
                  have k1 := slI_at (HV.out.ext hu.up) m y HY.out
                  have k2 := slI_at (HV.out.ext hu.up) n x HX.out
                  go_wp2_with (fail)
                  exact ⟨rfl, hu, Ext.refl _, slot_eq rfl⟩) ?_
                refine sp_op (Ph.eq _) (fun u hu => by
                  refine spArg_eq 0 rfl rfl ?_
                  refine spArg_nil ?_
                  simp only [Act.put, List.setIfInBounds_toArray, List.set_cons_succ, List.set_cons_zero]
                  have k1 := slI_at (HV.out.ext hu.up) m y HY.out
                  have k2 := slI_at (HV.out.ext hu.up) n x HX.out
                  go_wp2_with (fail)
                  exact ⟨rfl, hu, Ext.refl _, slot_eq rfl⟩) ?_
                refine sp_op (Ph.eq _) (fun u hu => by
                  refine spArg_eq 4 rfl rfl ?_
                  refine spArg_eq 0 rfl rfl ?_
                  refine spArg_nil ?_
                  simp only [Act.put, List.setIfInBounds_toArray, List.set_cons_succ, List.set_cons_zero]
                  have k1 := slI_at (HV.out.ext hu.up) m y HY.out
                  have k2 := slI_at (HV.out.ext hu.up) n x HX.out
                  go_wp2_with (fail)
                  exact ⟨rfl, hu, Ext.refl _, slot_eq rfl⟩) ?_
                refine sp_end ?_
                intro u hu
                refine spArg_eq 8 rfl rfl ?_
                refine spArg_eq 7 rfl rfl ?_
                refine spArg_eq 6 rfl rfl ?_
                refine spArg_eq 5 rfl rfl ?_
                refine spArg_eq 4 rfl rfl ?_
                refine spArg_eq 3 rfl rfl ?_
                refine spArg_eq 2 rfl rfl ?_
                refine spArg_eq 1 rfl rfl ?_
                refine spArg_eq 0 rfl rfl ?_
                refine spArg_nil ?_
                simp only [Act.put, List.setIfInBounds_toArray, List.set_cons_succ, List.set_cons_zero]
                go_wp2_with fail
                go_roundw
                case rel => exact ⟨m + 1, rfl, by omega, fun j hj => by
                  by_cases e : j = m
                  · subst e; rw [HY.out]; intro h; injection h with h; exact hxy h
                  · exact HDD.out j (by omega), hu.up⟩
                case measure => (simp [intOf] <;> omega)
            · obtain rfl : m = n := by omega
              have HP2 := Lib.hid (permN_step HP.out HX.out (by omega) (by omega) HDD.out)
              go_wp2_with fail
              go_roundw
              case rel => exact ⟨m + 1, rfl, by omega, HP2.out, hext⟩
              case measure => (simp [intOf] <;> omega)
    · obtain rfl : n = p.length := by omega
      have HD := Lib.hid (decide_eq_true ((permN_full p).1 HP.out))
      go_wp2_with fail
      go_ret
      exact ⟨by rw [HD.out]; rfl, HE.out⟩
end Go.Proofs.Ytmbgcjfmfkddpaa
