/-
  ChainsOne and ChainsForm: walked.
-/
import Derived.Test.YtmbgcjfmfkddpaaDoorFrm
import Derived.Test.YtmbgcjfmfkddpaaDoorAl14
import Derived.Test.YtmbgcjfmfkddpaaDoorRows
import Derived.LaidSub
import Derived.Lib.LaidTab
import Derived.MakeChecks
namespace Go.Proofs.YtmbgcjfmfkddpaaDoor
set_option linter.unusedVariables false
set_option linter.unusedSimpArgs false
open Go Go.RowKit

theorem tab_ext {W u : World} {name : String} {k : IntKind} {zs : List Int} (h : Lib.TabIs Tryd.prog W name k zs) (e : Ext W u) : Lib.TabIs Tryd.prog u name k zs := by
  unfold Lib.TabIs at *
  unfold World.var? at *
  revert h
  cases hg : Tryd.prog.globalNamed name with
  | none => intro h; exact h
  | some g =>
    intro h
    by_cases hlt : g < W.heap.size
    · have hb := Below.block e g hlt
      simp only [Option.bind_eq_bind, Option.bind_some] at h ⊢
      rw [hb]; exact h
    · exfalso
      have : W.heap[g]? = none := Array.getElem?_eq_none (by omega)
      simp [this] at h
set_option maxRecDepth 100000 in
theorem tab_of_laid {W : World} (h : laidMetH Tryd.prog Rows.chainsOneRow.laid W) : Lib.TabIs Tryd.prog W "internal/strconv.uint64pow10" .u64 Lib.pow10Tab := by
  have h1 := laidMetH.filter (fun x => x.1 == "internal/strconv.uint64pow10") h
  rw [MakeChecks.laidMetH_plain _ _ _ (by kernel_rfl)] at h1
  exact Lib.tabIs_of_head (rest := []) (g := (Tryd.prog.globalNamed "internal/strconv.uint64pow10").getD 0) (by kernel_rfl) (t := _) rfl (e := _) (n := _) rfl rfl (by kernel_rfl) (by kernel_rfl) h1
theorem itoa_any {W : World} {n : Int} (h : Lib.TabIs Tryd.prog W "internal/strconv.uint64pow10" .u64 Lib.pow10Tab) (hn : inI n) : ItoaOk W n := fun u hu => by
  refine (Tryd.strconv_Itoa n hn.1 hn.2 u (tab_ext h hu)).mono ?_
  rintro e u' ⟨rfl, k, os, rfl⟩
  refine ⟨by rw [itoa_eq], ?_⟩
  exact ⟨rfl, rfl, rfl, by simp [Sort.grow, World.drewN], fun k hk => by simp [Sort.grow, World.drewN, Array.getElem?_append, hk]⟩
theorem slL_atI {B : Nat} {w : World} {b o m c : Nat} {l : List (List Int)} (h : SlR intsR B w (.slice (some ⟨b, o, none⟩) m c) l) (i : Nat) (od : List Int) (hi : l[i]? = some od) :
    ∃ v, w.cell? ⟨b, o + i, none⟩ = some v ∧ SlR intR B w v od := by
  obtain ⟨ch, ⟨v, rfl, hv⟩, _, hr⟩ := h.at i od hi
  refine ⟨v, ?_, hv⟩
  have := hr 0 _ rfl
  rwa [show intsR.sz = 1 from rfl, Nat.mul_one, Nat.add_zero] at this
theorem SameRefl_any (p : List Int) (B : Nat) (v1 v2 : Value) (w : World) (hp : SlR intR B w v1 p) (hq : SlR intR B w v2 p) (hl : p.length ≤ 1000000000) :
    Calls Tryd.prog 9 #[v1, v2] w fun e w' => e = .returned (.bool true) ∧ Below w.heap.size w w' := by
  refine (SameIntsr_any p p B v1 v2 w hp hq hl hl).mono ?_
  rintro e w' ⟨rfl, h⟩
  exact ⟨by rw [decide_eq_true rfl], h⟩
set_option maxRecDepth 100000 in
set_option maxHeartbeats 4000000 in
theorem ChainsOne_any (seed : List UInt8) (s c k : Int) (w : World) (h32 : seed.length = 32) (hci : inI c) (hit : ItoaOk w c) :
    Calls Tryd.prog 3 #[.agg (keyA seed), .int .i64 s, .int .i64 c, .int .i64 k] w fun e w' => e = .returned (.bool true) ∧ Below w.heap.size w w' := by
  have HK := Lib.hid h32
  have hk0 := Lib.hid (Blk.new w (keyA seed) 23)
  have hb0 := Lib.hid (show Below w.heap.size w (w.alloc (.cells (keyA seed) 23)) by go_grown)
  by_cases hg : 60 < s ∧ s ≤ 1000
  · obtain ⟨g1, g2⟩ := hg
    go_enter Tryd.func3, Tryd.ntmps3
    go_wp2_with (go_at_call 6; refine (alive14_any _).mono ?_; rintro e w1 ⟨rfl, hb1⟩; have e1 : Ext w w1 := hb0.out.trans (hb1.mono hb0.out.size); clear hb1)
    go_ret
    exact ⟨rfl, e1⟩
  · have HP := Lib.hid fun (u : World) (e : Ext w u) => One_all seed s c k u h32 hg hci (fun x hx => hit x (Ext.tr e hx))
    have HR := Lib.hid fun (u : World) => Oner_all seed s c k u h32 hg hci
    unfold RetI at HP HR
    have hok := oneL_ok (seed := seed) (c := c) (k := k) hg
    have hlen := oneL_len (seed := seed) (s := s) (c := c) (k := k)
    have HL := Lib.hid (oneL_len_le seed s c k)
    generalize oneL seed s c k = L at *
    generalize oneE seed s c k = E at *
    have HIJ := Lib.hid hok.1
    have HIR := Lib.hid (show ∀ (i : Nat) (x : Int), L[i]? = some x → 0 ≤ x ∧ x < s from fun i x h => by have := hok.2 i x h; omega)
    clear hok
    have hL20 := HL.out
    by_cases hE : E = 0
    · obtain ⟨h1, h2⟩ := hlen hE
      subst hE
      unfold OneOk at h1
      obtain rfl : k = (L.length : Int) := by omega
      have g1 : ¬ 60 < s := by omega
      clear hg h2 hlen h1 h32 hit
      go_enter Tryd.func3, Tryd.ntmps3
      go_wp2_with (first
        | (go_at_call 6; refine (alive14_any _).mono ?_; rintro e w1 ⟨rfl, hb1⟩; have hkey1 := hk0.out.below hb1; have e1 : Ext w w1 := hb0.out.trans (hb1.mono hb0.out.size); clear hb1)
        | (refine wpList_load_row rfl 23 (.tmp 4) rfl w.heap.size rfl _ (keyA seed) (0, 0) _ hkey1 under_key rfl (by rw [keyA_size, HK.out]; exact info_key) ?_)
        | (go_at_call 7; refine (HP.out _ e1).mono ?_; rintro e w2 ⟨v2, rfl, hv2, hb2⟩; obtain ⟨a2, c2, rfl, -, -⟩ := hv2.form; have e2 : Ext w w2 := Ext.tr e1 hb2; have hkey2 := hkey1.below hb2; have HV2 := Lib.hid hv2; clear hv2 hb2 hkey1)
        | (refine wpList_load_row rfl 23 (.tmp 4) rfl w.heap.size rfl _ (keyA seed) (0, 0) _ hkey2 under_key rfl (by rw [keyA_size, HK.out]; exact info_key) ?_)
        | (go_at_call 8; refine (HR.out _).mono ?_; rintro e w3 ⟨v3, rfl, hv3, hb3⟩; obtain ⟨a3, c3, rfl, -, -⟩ := hv3.form; have e23 : Ext w2 w3 := hb3; have e3 : Ext w w3 := Ext.tr e2 hb3; have HV3 := Lib.hid hv3; clear hv3 hb3)
        | (go_at_call 9; refine (SameRefl_any L 0 _ _ _ (HV2.out.ext e23) HV3.out (by have := HL.out; omega)).mono ?_; rintro e w4 ⟨rfl, hb4⟩; have e34 : Ext w3 w4 := hb4; have e4 : Ext w w4 := Ext.tr e3 hb4; have HV4 := Lib.hid ((HV2.out.ext e23).ext e34))
        | (go_at_call 10; refine (num14_any _ _).mono ?_; rintro e w5 ⟨rfl, rfl⟩))
      go_loopw [14, 15] (fun iv _ wr => ∃ n : Nat, iv = .int .i64 n ∧ n ≤ L.length ∧ Ext w wr ∧ Ext w4 wr) (fun iv _ _ => L.length - (intOf iv).toNat)
      case atStart => exact ⟨0, rfl, Nat.zero_le _, e4, Ext.refl _⟩
      case round =>
        obtain ⟨n, rfl, hn, hX, hX4⟩ := hrel
        have HX := Lib.hid hX; have HX4 := Lib.hid hX4
        clear hX hX4
        by_cases hlt : n < L.length
        · obtain ⟨b, o, c', e0, -, -⟩ := HV4.out.open (by omega)
          obtain ⟨rfl, rfl⟩ : a2 = some ⟨b, o, none⟩ ∧ c2 = c' := by injection e0 with e0 _ e9; exact ⟨e0, e9⟩
          clear e0
          obtain ⟨x, hx⟩ : ∃ x, L[n]? = some x := ⟨_, List.getElem?_eq_getElem hlt⟩
          have hxr := HIR.out n x hx
          have hcx := slI_at (HV4.out.ext HX4.out) n x hx
          have d1 : ¬ x < 0 := by omega
          have d2 : ¬ s ≤ x := by omega
          have HXX := Lib.hid hx; clear hx hxr
          go_wp2_with fail
          clear hcx
          go_loopw [15] (fun jv wq => ∃ j : Nat, jv = .int .i64 j ∧ j ≤ n ∧ Ext w wq ∧ Ext w4 wq) (fun jv _ => n - (intOf jv).toNat)
          case atStart => exact ⟨0, rfl, Nat.zero_le _, HX.out, HX4.out⟩
          case round =>
            clear HX HX4
            obtain ⟨j, rfl, hj, hX, hX4⟩ := hrel
            have HX := Lib.hid hX; have HX4 := Lib.hid hX4
            clear hX hX4
            by_cases hjn : j < n
            · obtain ⟨y, hy⟩ : ∃ y, L[j]? = some y := ⟨_, List.getElem?_eq_getElem (by omega)⟩
              have hne : (y == x) = false := by rw [beq_eq_false_iff_ne]; intro e; subst e; have := HIJ.out _ _ _ hy HXX.out; omega
              have HYY := Lib.hid hy; clear hy
              have hst : Stab (fun u => Ext w4 u) := fun _ _ h hb => Ext.tr h hb
              go_wp2_with fail
              have hk : HoldT (fun u => Ext w4 u) w wr.drew := HoldT.drew hst ⟨HX4.out, HX.out⟩
              have hd1 : decide (L.length ≤ n) = false := decide_eq_false (by omega)
              have hd2 : decide (L.length ≤ j) = false := decide_eq_false (by omega)
              try change Code.wp _ _ _ (Act.mk _ _) _
              refine wp_region_runR Ext 9 95 (HoldT (fun u => Ext w4 u) _) [[], [], [(0, 78), (1, 79)], [(2, 80)], [], [], [(4, 82), (5, 83)], [(6, 84)], [(3, 81), (7, 85)]] [(0, 78), (1, 79), (2, 80), (3, 81), (4, 82), (5, 83), (6, 84), (7, 85), (8, 86)] (by kernel_rfl) (by kernel_rfl) (by first | rfl | simp) (hk) ?_
              simp only [List.take_succ_cons, List.take_zero, List.drop_succ_cons, List.drop_zero]
              refine sp_op (Ph.eq _) (fun u hu => by
                refine spArg_nil ?_
                have k1 := slI_at (HV4.out.ext hu.has) n x HXX.out
                have k2 := slI_at (HV4.out.ext hu.has) j y HYY.out
                go_wp2_with (fail)
                exact ⟨rfl, hu, Ext.refl _, slot_eq rfl⟩) ?_
              refine sp_op (Ph.eq _) (fun u hu => by
                refine spArg_nil ?_
                have k1 := slI_at (HV4.out.ext hu.has) n x HXX.out
                have k2 := slI_at (HV4.out.ext hu.has) j y HYY.out
                go_wp2_with (fail)
                exact ⟨rfl, hu, Ext.refl _, slot_eq rfl⟩) ?_
              refine sp_op (Ph.eq _) (fun u hu => by
                refine spArg_eq 1 rfl rfl ?_
                refine spArg_eq 0 rfl rfl ?_
                refine spArg_nil ?_
                simp only [Act.put, List.setIfInBounds_toArray, List.set_cons_succ, List.set_cons_zero]
                have k1 := slI_at (HV4.out.ext hu.has) n x HXX.out
                have k2 := slI_at (HV4.out.ext hu.has) j y HYY.out
                go_wp2_with (fail)
                exact ⟨rfl, hu, Ext.refl _, slot_eq rfl⟩) ?_
              refine sp_op (Ph.eq _) (fun u hu => by
                refine spArg_eq 0 rfl rfl ?_
                refine spArg_nil ?_
                simp only [Act.put, List.setIfInBounds_toArray, List.set_cons_succ, List.set_cons_zero]
                have k1 := slI_at (HV4.out.ext hu.has) n x HXX.out
                have k2 := slI_at (HV4.out.ext hu.has) j y HYY.out
                go_wp2_with (fail)
                exact ⟨rfl, hu, Ext.refl _, slot_eq rfl⟩) ?_
              refine sp_op (Ph.eq _) (fun u hu => by
                refine spArg_nil ?_
                have k1 := slI_at (HV4.out.ext hu.has) n x HXX.out
                have k2 := slI_at (HV4.out.ext hu.has) j y HYY.out
                go_wp2_with (fail)
                exact ⟨rfl, hu, Ext.refl _, slot_eq rfl⟩) ?_
              refine sp_op (Ph.eq _) (fun u hu => by
                refine spArg_nil ?_
                have k1 := slI_at (HV4.out.ext hu.has) n x HXX.out
                have k2 := slI_at (HV4.out.ext hu.has) j y HYY.out
                go_wp2_with (fail)
                exact ⟨rfl, hu, Ext.refl _, slot_eq rfl⟩) ?_
              refine sp_op (Ph.eq _) (fun u hu => by
                refine spArg_eq 1 rfl rfl ?_
                refine spArg_eq 0 rfl rfl ?_
                refine spArg_nil ?_
                simp only [Act.put, List.setIfInBounds_toArray, List.set_cons_succ, List.set_cons_zero]
                have k1 := slI_at (HV4.out.ext hu.has) n x HXX.out
                have k2 := slI_at (HV4.out.ext hu.has) j y HYY.out
                go_wp2_with (fail)
                exact ⟨rfl, hu, Ext.refl _, slot_eq rfl⟩) ?_
              refine sp_op (Ph.eq _) (fun u hu => by
                refine spArg_eq 0 rfl rfl ?_
                refine spArg_nil ?_
                simp only [Act.put, List.setIfInBounds_toArray, List.set_cons_succ, List.set_cons_zero]
                have k1 := slI_at (HV4.out.ext hu.has) n x HXX.out
                have k2 := slI_at (HV4.out.ext hu.has) j y HYY.out
                go_wp2_with (fail)
                exact ⟨rfl, hu, Ext.refl _, slot_eq rfl⟩) ?_
              refine sp_op (Ph.eq _) (fun u hu => by
                refine spArg_eq 4 rfl rfl ?_
                refine spArg_eq 0 rfl rfl ?_
                refine spArg_nil ?_
                simp only [Act.put, List.setIfInBounds_toArray, List.set_cons_succ, List.set_cons_zero]
                have k1 := slI_at (HV4.out.ext hu.has) n x HXX.out
                have k2 := slI_at (HV4.out.ext hu.has) j y HYY.out
                go_wp2_with (fail)
                exact ⟨rfl, hu, Ext.refl _, slot_eq rfl⟩) ?_
              refine sp_end ?_
              intro u hu
              refine spArg_eq 8 rfl rfl ?_
              refine spArg_eq 7 rfl rfl ?_
              refine spArg_eq 6 rfl rfl ?_
              refine spArg_eq 5 rfl rfl ?_
              refine spArg_eq 4 rfl rfl ?_
              refine spArg_eq 3 rfl rfl ?_
              refine spArg_eq 2 rfl rfl ?_
              refine spArg_eq 1 rfl rfl ?_
              refine spArg_eq 0 rfl rfl ?_
              refine spArg_nil ?_
              simp only [Act.put, List.setIfInBounds_toArray, List.set_cons_succ, List.set_cons_zero]
              go_wp2_with fail
              go_roundw
              case rel => exact ⟨j + 1, rfl, by omega, hu.up, hu.has⟩
              case measure => (simp [intOf] <;> omega)
            · obtain rfl : n = j := by omega
              go_wp2_with fail
              go_roundw
              case rel => exact ⟨n + 1, rfl, by omega, HX.out, HX4.out⟩
              case measure => (simp [intOf] <;> omega)
        · obtain rfl : n = L.length := by omega
          go_wp2_with fail
          go_ret
          exact ⟨rfl, HX.out⟩
    · have hE2 : (E != 0) = true := by rw [bne_iff_ne]; exact hE
      clear hlen h32 hit
      by_cases h60 : 60 < s
      · have g2 : ¬ s ≤ 1000 := by omega
        clear hg
        go_enter Tryd.func3, Tryd.ntmps3
        go_wp2_with (first
          | (go_at_call 6; refine (alive14_any _).mono ?_; rintro e w1 ⟨rfl, hb1⟩; have hkey1 := hk0.out.below hb1; have e1 : Ext w w1 := hb0.out.trans (hb1.mono hb0.out.size); clear hb1)
          | (refine wpList_load_row rfl 23 (.tmp 4) rfl w.heap.size rfl _ (keyA seed) (0, 0) _ hkey1 under_key rfl (by rw [keyA_size, HK.out]; exact info_key) ?_)
          | (go_at_call 7; refine (HP.out _ e1).mono ?_; rintro e w2 ⟨v2, rfl, hv2, hb2⟩; obtain ⟨a2, c2, rfl, -, -⟩ := hv2.form; have e2 : Ext w w2 := Ext.tr e1 hb2; have hkey2 := hkey1.below hb2; have HV2 := Lib.hid hv2; clear hv2 hb2 hkey1)
          | (refine wpList_load_row rfl 23 (.tmp 4) rfl w.heap.size rfl _ (keyA seed) (0, 0) _ hkey2 under_key rfl (by rw [keyA_size, HK.out]; exact info_key) ?_)
          | (go_at_call 8; refine (HR.out _).mono ?_; rintro e w3 ⟨v3, rfl, hv3, hb3⟩; obtain ⟨a3, c3, rfl, -, -⟩ := hv3.form; have e23 : Ext w2 w3 := hb3; have e3 : Ext w w3 := Ext.tr e2 hb3; have HV3 := Lib.hid hv3; clear hv3 hb3)
          | (go_at_call 9; refine (SameRefl_any L 0 _ _ _ (HV2.out.ext e23) HV3.out (by have := HL.out; omega)).mono ?_; rintro e w4 ⟨rfl, hb4⟩; have e34 : Ext w3 w4 := hb4; have e4 : Ext w w4 := Ext.tr e3 hb4; have HV4 := Lib.hid ((HV2.out.ext e23).ext e34))
          | (go_at_call 10; refine (num14_any _ _).mono ?_; rintro e w5 ⟨rfl, rfl⟩))
        go_loopw [14, 15] (fun iv _ wr => ∃ n : Nat, iv = .int .i64 n ∧ n ≤ L.length ∧ Ext w wr ∧ Ext w4 wr) (fun iv _ _ => L.length - (intOf iv).toNat)
        case atStart => exact ⟨0, rfl, Nat.zero_le _, e4, Ext.refl _⟩
        case round =>
          obtain ⟨n, rfl, hn, hX, hX4⟩ := hrel
          have HX := Lib.hid hX; have HX4 := Lib.hid hX4
          clear hX hX4
          by_cases hlt : n < L.length
          · obtain ⟨b, o, c', e0, -, -⟩ := HV4.out.open (by omega)
            obtain ⟨rfl, rfl⟩ : a2 = some ⟨b, o, none⟩ ∧ c2 = c' := by injection e0 with e0 _ e9; exact ⟨e0, e9⟩
            clear e0
            obtain ⟨x, hx⟩ : ∃ x, L[n]? = some x := ⟨_, List.getElem?_eq_getElem hlt⟩
            have hxr := HIR.out n x hx
            have hcx := slI_at (HV4.out.ext HX4.out) n x hx
            have d1 : ¬ x < 0 := by omega
            have d2 : ¬ s ≤ x := by omega
            have HXX := Lib.hid hx; clear hx hxr
            go_wp2_with fail
            clear hcx
            go_loopw [15] (fun jv wq => ∃ j : Nat, jv = .int .i64 j ∧ j ≤ n ∧ Ext w wq ∧ Ext w4 wq) (fun jv _ => n - (intOf jv).toNat)
            case atStart => exact ⟨0, rfl, Nat.zero_le _, HX.out, HX4.out⟩
            case round =>
              clear HX HX4
              obtain ⟨j, rfl, hj, hX, hX4⟩ := hrel
              have HX := Lib.hid hX; have HX4 := Lib.hid hX4
              clear hX hX4
              by_cases hjn : j < n
              · obtain ⟨y, hy⟩ : ∃ y, L[j]? = some y := ⟨_, List.getElem?_eq_getElem (by omega)⟩
                have hne : (y == x) = false := by rw [beq_eq_false_iff_ne]; intro e; subst e; have := HIJ.out _ _ _ hy HXX.out; omega
                have HYY := Lib.hid hy; clear hy
                have hst : Stab (fun u => Ext w4 u) := fun _ _ h hb => Ext.tr h hb
                go_wp2_with fail
                have hk : HoldT (fun u => Ext w4 u) w wr.drew := HoldT.drew hst ⟨HX4.out, HX.out⟩
                have hd1 : decide (L.length ≤ n) = false := decide_eq_false (by omega)
                have hd2 : decide (L.length ≤ j) = false := decide_eq_false (by omega)
                try change Code.wp _ _ _ (Act.mk _ _) _
                refine wp_region_runR Ext 9 95 (HoldT (fun u => Ext w4 u) _) [[], [], [(0, 78), (1, 79)], [(2, 80)], [], [], [(4, 82), (5, 83)], [(6, 84)], [(3, 81), (7, 85)]] [(0, 78), (1, 79), (2, 80), (3, 81), (4, 82), (5, 83), (6, 84), (7, 85), (8, 86)] (by kernel_rfl) (by kernel_rfl) (by first | rfl | simp) (hk) ?_
                simp only [List.take_succ_cons, List.take_zero, List.drop_succ_cons, List.drop_zero]
                refine sp_op (Ph.eq _) (fun u hu => by
                  refine spArg_nil ?_
                  have k1 := slI_at (HV4.out.ext hu.has) n x HXX.out
                  have k2 := slI_at (HV4.out.ext hu.has) j y HYY.out
                  go_wp2_with (fail)
                  exact ⟨rfl, hu, Ext.refl _, slot_eq rfl⟩) ?_
                refine sp_op (Ph.eq _) (fun u hu => by
                  refine spArg_nil ?_
                  have k1 := slI_at (HV4.out.ext hu.has) n x HXX.out
                  have k2 := slI_at (HV4.out.ext hu.has) j y HYY.out
                  go_wp2_with (fail)
                  exact ⟨rfl, hu, Ext.refl _, slot_eq rfl⟩) ?_
                refine sp_op (Ph.eq _) (fun u hu => by
                  refine spArg_eq 1 rfl rfl ?_
                  refine spArg_eq 0 rfl rfl ?_
                  refine spArg_nil ?_
                  simp only [Act.put, List.setIfInBounds_toArray, List.set_cons_succ, List.set_cons_zero]
                  have k1 := slI_at (HV4.out.ext hu.has) n x HXX.out
                  have k2 := slI_at (HV4.out.ext hu.has) j y HYY.out
                  go_wp2_with (fail)
                  exact ⟨rfl, hu, Ext.refl _, slot_eq rfl⟩) ?_
                refine sp_op (Ph.eq _) (fun u hu => by
                  refine spArg_eq 0 rfl rfl ?_
                  refine spArg_nil ?_
                  simp only [Act.put, List.setIfInBounds_toArray, List.set_cons_succ, List.set_cons_zero]
                  have k1 := slI_at (HV4.out.ext hu.has) n x HXX.out
                  have k2 := slI_at (HV4.out.ext hu.has) j y HYY.out
                  go_wp2_with (fail)
                  exact ⟨rfl, hu, Ext.refl _, slot_eq rfl⟩) ?_
                refine sp_op (Ph.eq _) (fun u hu => by
                  refine spArg_nil ?_
                  have k1 := slI_at (HV4.out.ext hu.has) n x HXX.out
                  have k2 := slI_at (HV4.out.ext hu.has) j y HYY.out
                  go_wp2_with (fail)
                  exact ⟨rfl, hu, Ext.refl _, slot_eq rfl⟩) ?_
                refine sp_op (Ph.eq _) (fun u hu => by
                  refine spArg_nil ?_
                  have k1 := slI_at (HV4.out.ext hu.has) n x HXX.out
                  have k2 := slI_at (HV4.out.ext hu.has) j y HYY.out
                  go_wp2_with (fail)
                  exact ⟨rfl, hu, Ext.refl _, slot_eq rfl⟩) ?_
                refine sp_op (Ph.eq _) (fun u hu => by
                  refine spArg_eq 1 rfl rfl ?_
                  refine spArg_eq 0 rfl rfl ?_
                  refine spArg_nil ?_
                  simp only [Act.put, List.setIfInBounds_toArray, List.set_cons_succ, List.set_cons_zero]
                  have k1 := slI_at (HV4.out.ext hu.has) n x HXX.out
                  have k2 := slI_at (HV4.out.ext hu.has) j y HYY.out
                  go_wp2_with (fail)
                  exact ⟨rfl, hu, Ext.refl _, slot_eq rfl⟩) ?_
                refine sp_op (Ph.eq _) (fun u hu => by
                  refine spArg_eq 0 rfl rfl ?_
                  refine spArg_nil ?_
                  simp only [Act.put, List.setIfInBounds_toArray, List.set_cons_succ, List.set_cons_zero]
                  have k1 := slI_at (HV4.out.ext hu.has) n x HXX.out
                  have k2 := slI_at (HV4.out.ext hu.has) j y HYY.out
                  go_wp2_with (fail)
                  exact ⟨rfl, hu, Ext.refl _, slot_eq rfl⟩) ?_
                refine sp_op (Ph.eq _) (fun u hu => by
                  refine spArg_eq 4 rfl rfl ?_
                  refine spArg_eq 0 rfl rfl ?_
                  refine spArg_nil ?_
                  simp only [Act.put, List.setIfInBounds_toArray, List.set_cons_succ, List.set_cons_zero]
                  have k1 := slI_at (HV4.out.ext hu.has) n x HXX.out
                  have k2 := slI_at (HV4.out.ext hu.has) j y HYY.out
                  go_wp2_with (fail)
                  exact ⟨rfl, hu, Ext.refl _, slot_eq rfl⟩) ?_
                refine sp_end ?_
                intro u hu
                refine spArg_eq 8 rfl rfl ?_
                refine spArg_eq 7 rfl rfl ?_
                refine spArg_eq 6 rfl rfl ?_
                refine spArg_eq 5 rfl rfl ?_
                refine spArg_eq 4 rfl rfl ?_
                refine spArg_eq 3 rfl rfl ?_
                refine spArg_eq 2 rfl rfl ?_
                refine spArg_eq 1 rfl rfl ?_
                refine spArg_eq 0 rfl rfl ?_
                refine spArg_nil ?_
                simp only [Act.put, List.setIfInBounds_toArray, List.set_cons_succ, List.set_cons_zero]
                go_wp2_with fail
                go_roundw
                case rel => exact ⟨j + 1, rfl, by omega, hu.up, hu.has⟩
                case measure => (simp [intOf] <;> omega)
              · obtain rfl : n = j := by omega
                go_wp2_with fail
                go_roundw
                case rel => exact ⟨n + 1, rfl, by omega, HX.out, HX4.out⟩
                case measure => (simp [intOf] <;> omega)
          · obtain rfl : n = L.length := by omega
            go_wp2_with fail
            go_ret
            exact ⟨rfl, HX.out⟩
      · clear hg
        go_enter Tryd.func3, Tryd.ntmps3
        go_wp2_with (first
          | (go_at_call 6; refine (alive14_any _).mono ?_; rintro e w1 ⟨rfl, hb1⟩; have hkey1 := hk0.out.below hb1; have e1 : Ext w w1 := hb0.out.trans (hb1.mono hb0.out.size); clear hb1)
          | (refine wpList_load_row rfl 23 (.tmp 4) rfl w.heap.size rfl _ (keyA seed) (0, 0) _ hkey1 under_key rfl (by rw [keyA_size, HK.out]; exact info_key) ?_)
          | (go_at_call 7; refine (HP.out _ e1).mono ?_; rintro e w2 ⟨v2, rfl, hv2, hb2⟩; obtain ⟨a2, c2, rfl, -, -⟩ := hv2.form; have e2 : Ext w w2 := Ext.tr e1 hb2; have hkey2 := hkey1.below hb2; have HV2 := Lib.hid hv2; clear hv2 hb2 hkey1)
          | (refine wpList_load_row rfl 23 (.tmp 4) rfl w.heap.size rfl _ (keyA seed) (0, 0) _ hkey2 under_key rfl (by rw [keyA_size, HK.out]; exact info_key) ?_)
          | (go_at_call 8; refine (HR.out _).mono ?_; rintro e w3 ⟨v3, rfl, hv3, hb3⟩; obtain ⟨a3, c3, rfl, -, -⟩ := hv3.form; have e23 : Ext w2 w3 := hb3; have e3 : Ext w w3 := Ext.tr e2 hb3; have HV3 := Lib.hid hv3; clear hv3 hb3)
          | (go_at_call 9; refine (SameRefl_any L 0 _ _ _ (HV2.out.ext e23) HV3.out (by have := HL.out; omega)).mono ?_; rintro e w4 ⟨rfl, hb4⟩; have e34 : Ext w3 w4 := hb4; have e4 : Ext w w4 := Ext.tr e3 hb4; have HV4 := Lib.hid ((HV2.out.ext e23).ext e34))
          | (go_at_call 10; refine (num14_any _ _).mono ?_; rintro e w5 ⟨rfl, rfl⟩))
        go_loopw [14, 15] (fun iv _ wr => ∃ n : Nat, iv = .int .i64 n ∧ n ≤ L.length ∧ Ext w wr ∧ Ext w4 wr) (fun iv _ _ => L.length - (intOf iv).toNat)
        case atStart => exact ⟨0, rfl, Nat.zero_le _, e4, Ext.refl _⟩
        case round =>
          obtain ⟨n, rfl, hn, hX, hX4⟩ := hrel
          have HX := Lib.hid hX; have HX4 := Lib.hid hX4
          clear hX hX4
          by_cases hlt : n < L.length
          · obtain ⟨b, o, c', e0, -, -⟩ := HV4.out.open (by omega)
            obtain ⟨rfl, rfl⟩ : a2 = some ⟨b, o, none⟩ ∧ c2 = c' := by injection e0 with e0 _ e9; exact ⟨e0, e9⟩
            clear e0
            obtain ⟨x, hx⟩ : ∃ x, L[n]? = some x := ⟨_, List.getElem?_eq_getElem hlt⟩
            have hxr := HIR.out n x hx
            have hcx := slI_at (HV4.out.ext HX4.out) n x hx
            have d1 : ¬ x < 0 := by omega
            have d2 : ¬ s ≤ x := by omega
            have HXX := Lib.hid hx; clear hx hxr
            go_wp2_with fail
            clear hcx
            go_loopw [15] (fun jv wq => ∃ j : Nat, jv = .int .i64 j ∧ j ≤ n ∧ Ext w wq ∧ Ext w4 wq) (fun jv _ => n - (intOf jv).toNat)
            case atStart => exact ⟨0, rfl, Nat.zero_le _, HX.out, HX4.out⟩
            case round =>
              clear HX HX4
              obtain ⟨j, rfl, hj, hX, hX4⟩ := hrel
              have HX := Lib.hid hX; have HX4 := Lib.hid hX4
              clear hX hX4
              by_cases hjn : j < n
              · obtain ⟨y, hy⟩ : ∃ y, L[j]? = some y := ⟨_, List.getElem?_eq_getElem (by omega)⟩
                have hne : (y == x) = false := by rw [beq_eq_false_iff_ne]; intro e; subst e; have := HIJ.out _ _ _ hy HXX.out; omega
                have HYY := Lib.hid hy; clear hy
                have hst : Stab (fun u => Ext w4 u) := fun _ _ h hb => Ext.tr h hb
                go_wp2_with fail
                have hk : HoldT (fun u => Ext w4 u) w wr.drew := HoldT.drew hst ⟨HX4.out, HX.out⟩
                have hd1 : decide (L.length ≤ n) = false := decide_eq_false (by omega)
                have hd2 : decide (L.length ≤ j) = false := decide_eq_false (by omega)
                try change Code.wp _ _ _ (Act.mk _ _) _
                refine wp_region_runR Ext 9 95 (HoldT (fun u => Ext w4 u) _) [[], [], [(0, 78), (1, 79)], [(2, 80)], [], [], [(4, 82), (5, 83)], [(6, 84)], [(3, 81), (7, 85)]] [(0, 78), (1, 79), (2, 80), (3, 81), (4, 82), (5, 83), (6, 84), (7, 85), (8, 86)] (by kernel_rfl) (by kernel_rfl) (by first | rfl | simp) (hk) ?_
                simp only [List.take_succ_cons, List.take_zero, List.drop_succ_cons, List.drop_zero]
                refine sp_op (Ph.eq _) (fun u hu => by
                  refine spArg_nil ?_
                  have k1 := slI_at (HV4.out.ext hu.has) n x HXX.out
                  have k2 := slI_at (HV4.out.ext hu.has) j y HYY.out
                  go_wp2_with (fail)
                  exact ⟨rfl, hu, Ext.refl _, slot_eq rfl⟩) ?_
                refine sp_op (Ph.eq _) (fun u hu => by
                  refine spArg_nil ?_
                  have k1 := slI_at (HV4.out.ext hu.has) n x HXX.out
                  have k2 := slI_at (HV4.out.ext hu.has) j y HYY.out
                  go_wp2_with (fail)
                  exact ⟨rfl, hu, Ext.refl _, slot_eq rfl⟩) ?_
                refine sp_op (Ph.eq _) (fun u hu => by
                  refine spArg_eq 1 rfl rfl ?_
                  refine spArg_eq 0 rfl rfl ?_
                  refine spArg_nil ?_
                  simp only [Act.put, List.setIfInBounds_toArray, List.set_cons_succ, List.set_cons_zero]
                  have k1 := slI_at (HV4.out.ext hu.has) n x HXX.out
                  have k2 := slI_at (HV4.out.ext hu.has) j y HYY.out
                  go_wp2_with (fail)
                  exact ⟨rfl, hu, Ext.refl _, slot_eq rfl⟩) ?_
                refine sp_op (Ph.eq _) (fun u hu => by
                  refine spArg_eq 0 rfl rfl ?_
                  refine spArg_nil ?_
                  simp only [Act.put, List.setIfInBounds_toArray, List.set_cons_succ, List.set_cons_zero]
                  have k1 := slI_at (HV4.out.ext hu.has) n x HXX.out
                  have k2 := slI_at (HV4.out.ext hu.has) j y HYY.out
                  go_wp2_with (fail)
                  exact ⟨rfl, hu, Ext.refl _, slot_eq rfl⟩) ?_
                refine sp_op (Ph.eq _) (fun u hu => by
                  refine spArg_nil ?_
                  have k1 := slI_at (HV4.out.ext hu.has) n x HXX.out
                  have k2 := slI_at (HV4.out.ext hu.has) j y HYY.out
                  go_wp2_with (fail)
                  exact ⟨rfl, hu, Ext.refl _, slot_eq rfl⟩) ?_
                refine sp_op (Ph.eq _) (fun u hu => by
                  refine spArg_nil ?_
                  have k1 := slI_at (HV4.out.ext hu.has) n x HXX.out
                  have k2 := slI_at (HV4.out.ext hu.has) j y HYY.out
                  go_wp2_with (fail)
                  exact ⟨rfl, hu, Ext.refl _, slot_eq rfl⟩) ?_
                refine sp_op (Ph.eq _) (fun u hu => by
                  refine spArg_eq 1 rfl rfl ?_
                  refine spArg_eq 0 rfl rfl ?_
                  refine spArg_nil ?_
                  simp only [Act.put, List.setIfInBounds_toArray, List.set_cons_succ, List.set_cons_zero]
                  have k1 := slI_at (HV4.out.ext hu.has) n x HXX.out
                  have k2 := slI_at (HV4.out.ext hu.has) j y HYY.out
                  go_wp2_with (fail)
                  exact ⟨rfl, hu, Ext.refl _, slot_eq rfl⟩) ?_
                refine sp_op (Ph.eq _) (fun u hu => by
                  refine spArg_eq 0 rfl rfl ?_
                  refine spArg_nil ?_
                  simp only [Act.put, List.setIfInBounds_toArray, List.set_cons_succ, List.set_cons_zero]
                  have k1 := slI_at (HV4.out.ext hu.has) n x HXX.out
                  have k2 := slI_at (HV4.out.ext hu.has) j y HYY.out
                  go_wp2_with (fail)
                  exact ⟨rfl, hu, Ext.refl _, slot_eq rfl⟩) ?_
                refine sp_op (Ph.eq _) (fun u hu => by
                  refine spArg_eq 4 rfl rfl ?_
                  refine spArg_eq 0 rfl rfl ?_
                  refine spArg_nil ?_
                  simp only [Act.put, List.setIfInBounds_toArray, List.set_cons_succ, List.set_cons_zero]
                  have k1 := slI_at (HV4.out.ext hu.has) n x HXX.out
                  have k2 := slI_at (HV4.out.ext hu.has) j y HYY.out
                  go_wp2_with (fail)
                  exact ⟨rfl, hu, Ext.refl _, slot_eq rfl⟩) ?_
                refine sp_end ?_
                intro u hu
                refine spArg_eq 8 rfl rfl ?_
                refine spArg_eq 7 rfl rfl ?_
                refine spArg_eq 6 rfl rfl ?_
                refine spArg_eq 5 rfl rfl ?_
                refine spArg_eq 4 rfl rfl ?_
                refine spArg_eq 3 rfl rfl ?_
                refine spArg_eq 2 rfl rfl ?_
                refine spArg_eq 1 rfl rfl ?_
                refine spArg_eq 0 rfl rfl ?_
                refine spArg_nil ?_
                simp only [Act.put, List.setIfInBounds_toArray, List.set_cons_succ, List.set_cons_zero]
                go_wp2_with fail
                go_roundw
                case rel => exact ⟨j + 1, rfl, by omega, hu.up, hu.has⟩
                case measure => (simp [intOf] <;> omega)
              · obtain rfl : n = j := by omega
                go_wp2_with fail
                go_roundw
                case rel => exact ⟨n + 1, rfl, by omega, HX.out, HX4.out⟩
                case measure => (simp [intOf] <;> omega)
          · obtain rfl : n = L.length := by omega
            go_wp2_with fail
            go_ret
            exact ⟨rfl, HX.out⟩
set_option maxRecDepth 100000 in
set_option maxHeartbeats 2000000 in
theorem same14_any (p : List (List Int)) (B : Nat) (v1 v2 : Value) (w : World) (hp : SlR intsR B w v1 p) (hq : SlR intsR B w v2 p) (hl : ∀ l ∈ p, l.length ≤ 1000000000) (hpl : p.length ≤ 1000000000) :
    Calls Tryd.prog 13 #[v1, v2] w fun e w' => e = .returned (.bool true) ∧ Below w.heap.size w w' := by
  obtain ⟨a1, c1, rfl, -, -⟩ := hp.form
  obtain ⟨a2, c2, rfl, -, -⟩ := hq.form
  have HP := Lib.hid hp; have HQ := Lib.hid hq; have HL := Lib.hid hl
  clear hp hq hl
  go_enter Tryd.func13, Tryd.ntmps13
  go_wp2_with fail
  go_loopw [5] (fun iv wr => ∃ n : Nat, iv = .int .i64 n ∧ n ≤ p.length ∧ Ext w wr) (fun iv _ => p.length - (intOf iv).toNat)
  case atStart => exact ⟨0, rfl, Nat.zero_le _, Ext.refl _⟩
  case round =>
    obtain ⟨n, rfl, hn, hX⟩ := hrel
    have HX := Lib.hid hX
    clear hX
    by_cases hlt : n < p.length
    · obtain ⟨b1, o1, c1', e1, -, -⟩ := HP.out.open (by omega)
      obtain ⟨rfl, rfl⟩ : a1 = some ⟨b1, o1, none⟩ ∧ c1 = c1' := by injection e1 with e1 _ e3; exact ⟨e1, e3⟩
      clear e1
      obtain ⟨b2, o2, c2', e2, -, -⟩ := HQ.out.open (by omega)
      obtain ⟨rfl, rfl⟩ : a2 = some ⟨b2, o2, none⟩ ∧ c2 = c2' := by injection e2 with e1 _ e3; exact ⟨e1, e3⟩
      clear e2
      obtain ⟨L, hL⟩ : ∃ L, p[n]? = some L := ⟨_, List.getElem?_eq_getElem hlt⟩
      have HLL := Lib.hid (HL.out L (List.mem_of_getElem? hL))
      obtain ⟨x1, hc1, hs1⟩ := slL_atI (HP.out.ext HX.out) n L hL
      obtain ⟨x2, hc2, hs2⟩ := slL_atI (HQ.out.ext HX.out) n L hL
      have HS1 := Lib.hid hs1; have HS2 := Lib.hid hs2; have HC1 := Lib.hid hc1; have HC2 := Lib.hid hc2
      clear hs1 hs2 hc1 hc2 hL
      have hst : Stab (fun u => Ext wr u) := fun _ _ h hb => Ext.tr h hb
      go_wp2_with fail
      have hk : HoldT (fun u => Ext wr u) w wr.drew := HoldT.drew hst ⟨Ext.refl _, HX.out⟩
      have hd1 : decide (p.length ≤ n) = false := decide_eq_false (by omega)
      try change Code.wp _ _ _ (Act.mk _ _) _
      refine wp_region_runR Ext 10 27 (HoldT (fun u => Ext wr u) _) [[], [], [(0, 17), (1, 18)], [(2, 19)], [], [], [(4, 21), (5, 22)], [(6, 23)], [(3, 20), (7, 24)], [(8, 25)]] [(0, 17), (1, 18), (2, 19), (3, 20), (4, 21), (5, 22), (6, 23), (7, 24), (8, 25), (9, 26)] (by kernel_rfl) (by kernel_rfl) (by first | rfl | simp) (hk) ?_
      simp only [List.take_succ_cons, List.take_zero, List.drop_succ_cons, List.drop_zero]
      refine sp_op (Ph.eq _) (fun u hu => by
        refine spArg_nil ?_
        have k1 := (Below.cell hu.has (World.block_lt_of_cell? _ _ HC1.out)).trans HC1.out
        have k2 := (Below.cell hu.has (World.block_lt_of_cell? _ _ HC2.out)).trans HC2.out
        go_wp2_with (fail)
        exact ⟨rfl, hu, Ext.refl _, slot_eq rfl⟩) ?_
      refine sp_op (Ph.eq _) (fun u hu => by
        refine spArg_nil ?_
        have k1 := (Below.cell hu.has (World.block_lt_of_cell? _ _ HC1.out)).trans HC1.out
        have k2 := (Below.cell hu.has (World.block_lt_of_cell? _ _ HC2.out)).trans HC2.out
        go_wp2_with (fail)
        exact ⟨rfl, hu, Ext.refl _, slot_eq rfl⟩) ?_
      refine sp_op (Ph.eq _) (fun u hu => by
        refine spArg_eq 1 rfl rfl ?_
        refine spArg_eq 0 rfl rfl ?_
        refine spArg_nil ?_
        simp only [Act.put, List.setIfInBounds_toArray, List.set_cons_succ, List.set_cons_zero]
        have k1 := (Below.cell hu.has (World.block_lt_of_cell? _ _ HC1.out)).trans HC1.out
        have k2 := (Below.cell hu.has (World.block_lt_of_cell? _ _ HC2.out)).trans HC2.out
        go_wp2_with (fail)
        exact ⟨rfl, hu, Ext.refl _, slot_eq rfl⟩) ?_
      refine sp_op (Ph.eq _) (fun u hu => by
        refine spArg_eq 0 rfl rfl ?_
        refine spArg_nil ?_
        simp only [Act.put, List.setIfInBounds_toArray, List.set_cons_succ, List.set_cons_zero]
        have k1 := (Below.cell hu.has (World.block_lt_of_cell? _ _ HC1.out)).trans HC1.out
        have k2 := (Below.cell hu.has (World.block_lt_of_cell? _ _ HC2.out)).trans HC2.out
        go_wp2_with (fail)
        exact ⟨rfl, hu, Ext.refl _, slot_eq rfl⟩) ?_
      refine sp_op (Ph.eq _) (fun u hu => by
        refine spArg_nil ?_
        have k1 := (Below.cell hu.has (World.block_lt_of_cell? _ _ HC1.out)).trans HC1.out
        have k2 := (Below.cell hu.has (World.block_lt_of_cell? _ _ HC2.out)).trans HC2.out
        go_wp2_with (fail)
        exact ⟨rfl, hu, Ext.refl _, slot_eq rfl⟩) ?_
      refine sp_op (Ph.eq _) (fun u hu => by
        refine spArg_nil ?_
        have k1 := (Below.cell hu.has (World.block_lt_of_cell? _ _ HC1.out)).trans HC1.out
        have k2 := (Below.cell hu.has (World.block_lt_of_cell? _ _ HC2.out)).trans HC2.out
        go_wp2_with (fail)
        exact ⟨rfl, hu, Ext.refl _, slot_eq rfl⟩) ?_
      refine sp_op (Ph.eq _) (fun u hu => by
        refine spArg_eq 1 rfl rfl ?_
        refine spArg_eq 0 rfl rfl ?_
        refine spArg_nil ?_
        simp only [Act.put, List.setIfInBounds_toArray, List.set_cons_succ, List.set_cons_zero]
        have k1 := (Below.cell hu.has (World.block_lt_of_cell? _ _ HC1.out)).trans HC1.out
        have k2 := (Below.cell hu.has (World.block_lt_of_cell? _ _ HC2.out)).trans HC2.out
        go_wp2_with (fail)
        exact ⟨rfl, hu, Ext.refl _, slot_eq rfl⟩) ?_
      refine sp_op (Ph.eq _) (fun u hu => by
        refine spArg_eq 0 rfl rfl ?_
        refine spArg_nil ?_
        simp only [Act.put, List.setIfInBounds_toArray, List.set_cons_succ, List.set_cons_zero]
        have k1 := (Below.cell hu.has (World.block_lt_of_cell? _ _ HC1.out)).trans HC1.out
        have k2 := (Below.cell hu.has (World.block_lt_of_cell? _ _ HC2.out)).trans HC2.out
        go_wp2_with (fail)
        exact ⟨rfl, hu, Ext.refl _, slot_eq rfl⟩) ?_
      refine sp_op (Ph.eq _) (fun u hu => by
        refine spArg_eq 4 rfl rfl ?_
        refine spArg_eq 0 rfl rfl ?_
        refine spArg_nil ?_
        simp only [Act.put, List.setIfInBounds_toArray, List.set_cons_succ, List.set_cons_zero]
        have k1 := (Below.cell hu.has (World.block_lt_of_cell? _ _ HC1.out)).trans HC1.out
        have k2 := (Below.cell hu.has (World.block_lt_of_cell? _ _ HC2.out)).trans HC2.out
        go_wp2_with ((go_at_call 9; refine (SameRefl_any L B _ _ _ (HS1.out.ext hu.has) (HS2.out.ext hu.has) HLL.out).mono ?_; rintro e_ x_ ⟨rfl, hb_⟩))
        exact ⟨rfl, HoldT.step hst hu hb_, hb_, slot_eq rfl⟩) ?_
      refine sp_op (Ph.eq _) (fun u hu => by
        refine spArg_eq 0 rfl rfl ?_
        refine spArg_nil ?_
        simp only [Act.put, List.setIfInBounds_toArray, List.set_cons_succ, List.set_cons_zero]
        have k1 := (Below.cell hu.has (World.block_lt_of_cell? _ _ HC1.out)).trans HC1.out
        have k2 := (Below.cell hu.has (World.block_lt_of_cell? _ _ HC2.out)).trans HC2.out
        go_wp2_with (fail)
        exact ⟨rfl, hu, Ext.refl _, slot_eq rfl⟩) ?_
      refine sp_end ?_
      intro u hu
      refine spArg_eq 9 rfl rfl ?_
      refine spArg_eq 8 rfl rfl ?_
      refine spArg_eq 7 rfl rfl ?_
      refine spArg_eq 6 rfl rfl ?_
      refine spArg_eq 5 rfl rfl ?_
      refine spArg_eq 4 rfl rfl ?_
      refine spArg_eq 3 rfl rfl ?_
      refine spArg_eq 2 rfl rfl ?_
      refine spArg_eq 1 rfl rfl ?_
      refine spArg_eq 0 rfl rfl ?_
      refine spArg_nil ?_
      simp only [Act.put, List.setIfInBounds_toArray, List.set_cons_succ, List.set_cons_zero]
      go_wp2_with fail
      go_roundw
      case rel => exact ⟨n + 1, rfl, by omega, hu.up⟩
      case measure => (simp [intOf] <;> omega)
    · obtain rfl : n = p.length := by omega
      go_wp2_with fail
      go_ret
      exact ⟨rfl, HX.out⟩
theorem formS_lens (seed : List UInt8) (s n k : Int) : (∀ l ∈ (formS seed s n k).1, l.length ≤ 1000000000) ∧ (formS seed s n k).1.length ≤ 1000 := by
  unfold formS
  split
  · by_cases h : (formF seed s k n.toNat).2 = 0
    · obtain ⟨h1, h2⟩ := formF_len (n := n.toNat) (ls := (formF seed s k n.toNat).1) (by rw [← h])
      refine ⟨fun l hl => ?_, by omega⟩
      obtain ⟨i, hi, rfl⟩ := List.getElem_of_mem hl
      have := (h2 i (by omega)).2
      rw [List.getElem?_eq_getElem hi] at this
      have e : (formF seed s k n.toNat).1[i] = oneL seed s i k := by injection this
      rw [e]
      exact Nat.le_trans (oneL_len_le _ _ _ _) (by decide)
    · rw [(formF_nil h).1]; exact ⟨fun l hl => by simp at hl, by simp⟩
  · exact ⟨fun l hl => by simp at hl, by simp⟩
set_option maxRecDepth 100000 in
set_option maxHeartbeats 4000000 in
theorem ChainsForm_any (seed : List UInt8) (s n k : Int) (w : World) (h32 : seed.length = 32) :
    Calls Tryd.prog 4 #[.agg (keyA seed), .int .i64 s, .int .i64 n, .int .i64 k] w fun e w' => e = .returned (.bool true) ∧ Below w.heap.size w w' := by
  have HK := Lib.hid h32
  have hk0 := Lib.hid (Blk.new w (keyA seed) 23)
  have hb0 := Lib.hid (show Below w.heap.size w (w.alloc (.cells (keyA seed) 23)) by go_grown)
  by_cases hg : 60 < s ∧ s ≤ 1000
  · obtain ⟨g1, g2⟩ := hg
    go_enter Tryd.func4, Tryd.ntmps4
    go_wp2_with (go_at_call 6; refine (alive14_any _).mono ?_; rintro e w1 ⟨rfl, hb1⟩; have e1 : Ext w w1 := hb0.out.trans (hb1.mono hb0.out.size); clear hb1)
    go_ret
    exact ⟨rfl, e1⟩
  · by_cases hn : 20 < n ∧ n ≤ 1000
    · obtain ⟨n1, n2⟩ := hn
      by_cases h60 : 60 < s
      · have g2 : ¬ s ≤ 1000 := by omega
        clear hg
        go_enter Tryd.func4, Tryd.ntmps4
        go_wp2_with (go_at_call 6; refine (alive14_any _).mono ?_; rintro e w1 ⟨rfl, hb1⟩; have e1 : Ext w w1 := hb0.out.trans (hb1.mono hb0.out.size); clear hb1)
        go_ret
        exact ⟨rfl, e1⟩
      · clear hg
        go_enter Tryd.func4, Tryd.ntmps4
        go_wp2_with (go_at_call 6; refine (alive14_any _).mono ?_; rintro e w1 ⟨rfl, hb1⟩; have e1 : Ext w w1 := hb0.out.trans (hb1.mono hb0.out.size); clear hb1)
        go_ret
        exact ⟨rfl, e1⟩
    · have HP := Lib.hid fun (u : World) => Form_any seed s n k u h32 hg hn
      have HR := Lib.hid fun (u : World) => Formr_any seed s n k u h32 hg hn
      unfold RetII at HP HR
      have HL := Lib.hid (formS_lens seed s n k)
      generalize (formS seed s n k).1 = L at *
      generalize (formS seed s n k).2 = E at *
      clear h32
      by_cases h60 : 60 < s
      · have g2 : ¬ s ≤ 1000 := by omega
        clear hg
        by_cases h20 : 20 < n
        · have n2 : ¬ n ≤ 1000 := by omega
          clear hn
          go_enter Tryd.func4, Tryd.ntmps4
          go_wp2_with (first
            | (go_at_call 6; refine (alive14_any _).mono ?_; rintro e w1 ⟨rfl, hb1⟩; have hkey1 := hk0.out.below hb1; have e1 : Ext w w1 := hb0.out.trans (hb1.mono hb0.out.size); clear hb1)
            | (refine wpList_load_row rfl 23 (.tmp 4) rfl w.heap.size rfl _ (keyA seed) (0, 0) _ hkey1 under_key rfl (by rw [keyA_size, HK.out]; exact info_key) ?_)
            | (go_at_call 11; refine (HP.out _).mono ?_; rintro e w2 ⟨v2, rfl, hv2, hb2⟩; obtain ⟨a2, c2, rfl, -, -⟩ := hv2.form; have e2 : Ext w w2 := Ext.tr e1 hb2; have hkey2 := hkey1.below hb2; have HV2 := Lib.hid hv2; clear hv2 hb2 hkey1)
            | (refine wpList_load_row rfl 23 (.tmp 4) rfl w.heap.size rfl _ (keyA seed) (0, 0) _ hkey2 under_key rfl (by rw [keyA_size, HK.out]; exact info_key) ?_)
            | (go_at_call 12; refine (HR.out _).mono ?_; rintro e w3 ⟨v3, rfl, hv3, hb3⟩; obtain ⟨a3, c3, rfl, -, -⟩ := hv3.form; have e23 : Ext w2 w3 := hb3; have e3 : Ext w w3 := Ext.tr e2 hb3; have HV3 := Lib.hid hv3; clear hv3 hb3)
            | (go_at_call 13; refine (same14_any L 0 _ _ _ (HV2.out.sl.ext e23) HV3.out.sl HL.out.1 (by have := HL.out.2; omega)).mono ?_; rintro e w4 ⟨rfl, hb4⟩; have e4 : Ext w w4 := Ext.tr e3 hb4)
            | (go_at_call 10; refine (num14_any _ _).mono ?_; rintro e w5 ⟨rfl, rfl⟩))
          go_ret
          exact ⟨rfl, e4⟩
        · clear hn
          go_enter Tryd.func4, Tryd.ntmps4
          go_wp2_with (first
            | (go_at_call 6; refine (alive14_any _).mono ?_; rintro e w1 ⟨rfl, hb1⟩; have hkey1 := hk0.out.below hb1; have e1 : Ext w w1 := hb0.out.trans (hb1.mono hb0.out.size); clear hb1)
            | (refine wpList_load_row rfl 23 (.tmp 4) rfl w.heap.size rfl _ (keyA seed) (0, 0) _ hkey1 under_key rfl (by rw [keyA_size, HK.out]; exact info_key) ?_)
            | (go_at_call 11; refine (HP.out _).mono ?_; rintro e w2 ⟨v2, rfl, hv2, hb2⟩; obtain ⟨a2, c2, rfl, -, -⟩ := hv2.form; have e2 : Ext w w2 := Ext.tr e1 hb2; have hkey2 := hkey1.below hb2; have HV2 := Lib.hid hv2; clear hv2 hb2 hkey1)
            | (refine wpList_load_row rfl 23 (.tmp 4) rfl w.heap.size rfl _ (keyA seed) (0, 0) _ hkey2 under_key rfl (by rw [keyA_size, HK.out]; exact info_key) ?_)
            | (go_at_call 12; refine (HR.out _).mono ?_; rintro e w3 ⟨v3, rfl, hv3, hb3⟩; obtain ⟨a3, c3, rfl, -, -⟩ := hv3.form; have e23 : Ext w2 w3 := hb3; have e3 : Ext w w3 := Ext.tr e2 hb3; have HV3 := Lib.hid hv3; clear hv3 hb3)
            | (go_at_call 13; refine (same14_any L 0 _ _ _ (HV2.out.sl.ext e23) HV3.out.sl HL.out.1 (by have := HL.out.2; omega)).mono ?_; rintro e w4 ⟨rfl, hb4⟩; have e4 : Ext w w4 := Ext.tr e3 hb4)
            | (go_at_call 10; refine (num14_any _ _).mono ?_; rintro e w5 ⟨rfl, rfl⟩))
          go_ret
          exact ⟨rfl, e4⟩
      · clear hg
        by_cases h20 : 20 < n
        · have n2 : ¬ n ≤ 1000 := by omega
          clear hn
          go_enter Tryd.func4, Tryd.ntmps4
          go_wp2_with (first
            | (go_at_call 6; refine (alive14_any _).mono ?_; rintro e w1 ⟨rfl, hb1⟩; have hkey1 := hk0.out.below hb1; have e1 : Ext w w1 := hb0.out.trans (hb1.mono hb0.out.size); clear hb1)
            | (refine wpList_load_row rfl 23 (.tmp 4) rfl w.heap.size rfl _ (keyA seed) (0, 0) _ hkey1 under_key rfl (by rw [keyA_size, HK.out]; exact info_key) ?_)
            | (go_at_call 11; refine (HP.out _).mono ?_; rintro e w2 ⟨v2, rfl, hv2, hb2⟩; obtain ⟨a2, c2, rfl, -, -⟩ := hv2.form; have e2 : Ext w w2 := Ext.tr e1 hb2; have hkey2 := hkey1.below hb2; have HV2 := Lib.hid hv2; clear hv2 hb2 hkey1)
            | (refine wpList_load_row rfl 23 (.tmp 4) rfl w.heap.size rfl _ (keyA seed) (0, 0) _ hkey2 under_key rfl (by rw [keyA_size, HK.out]; exact info_key) ?_)
            | (go_at_call 12; refine (HR.out _).mono ?_; rintro e w3 ⟨v3, rfl, hv3, hb3⟩; obtain ⟨a3, c3, rfl, -, -⟩ := hv3.form; have e23 : Ext w2 w3 := hb3; have e3 : Ext w w3 := Ext.tr e2 hb3; have HV3 := Lib.hid hv3; clear hv3 hb3)
            | (go_at_call 13; refine (same14_any L 0 _ _ _ (HV2.out.sl.ext e23) HV3.out.sl HL.out.1 (by have := HL.out.2; omega)).mono ?_; rintro e w4 ⟨rfl, hb4⟩; have e4 : Ext w w4 := Ext.tr e3 hb4)
            | (go_at_call 10; refine (num14_any _ _).mono ?_; rintro e w5 ⟨rfl, rfl⟩))
          go_ret
          exact ⟨rfl, e4⟩
        · clear hn
          go_enter Tryd.func4, Tryd.ntmps4
          go_wp2_with (first
            | (go_at_call 6; refine (alive14_any _).mono ?_; rintro e w1 ⟨rfl, hb1⟩; have hkey1 := hk0.out.below hb1; have e1 : Ext w w1 := hb0.out.trans (hb1.mono hb0.out.size); clear hb1)
            | (refine wpList_load_row rfl 23 (.tmp 4) rfl w.heap.size rfl _ (keyA seed) (0, 0) _ hkey1 under_key rfl (by rw [keyA_size, HK.out]; exact info_key) ?_)
            | (go_at_call 11; refine (HP.out _).mono ?_; rintro e w2 ⟨v2, rfl, hv2, hb2⟩; obtain ⟨a2, c2, rfl, -, -⟩ := hv2.form; have e2 : Ext w w2 := Ext.tr e1 hb2; have hkey2 := hkey1.below hb2; have HV2 := Lib.hid hv2; clear hv2 hb2 hkey1)
            | (refine wpList_load_row rfl 23 (.tmp 4) rfl w.heap.size rfl _ (keyA seed) (0, 0) _ hkey2 under_key rfl (by rw [keyA_size, HK.out]; exact info_key) ?_)
            | (go_at_call 12; refine (HR.out _).mono ?_; rintro e w3 ⟨v3, rfl, hv3, hb3⟩; obtain ⟨a3, c3, rfl, -, -⟩ := hv3.form; have e23 : Ext w2 w3 := hb3; have e3 : Ext w w3 := Ext.tr e2 hb3; have HV3 := Lib.hid hv3; clear hv3 hb3)
            | (go_at_call 13; refine (same14_any L 0 _ _ _ (HV2.out.sl.ext e23) HV3.out.sl HL.out.1 (by have := HL.out.2; omega)).mono ?_; rintro e w4 ⟨rfl, hb4⟩; have e4 : Ext w w4 := Ext.tr e3 hb4)
            | (go_at_call 10; refine (num14_any _ _).mono ?_; rintro e w5 ⟨rfl, rfl⟩))
          go_ret
          exact ⟨rfl, e4⟩
end Go.Proofs.YtmbgcjfmfkddpaaDoor
