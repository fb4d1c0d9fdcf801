/-
  KeysMake: walked.
-/
import Derived.Test.YtngkjngfiakmaaaDoorKl1
import Derived.Test.YtngkjngfiakmaaaDoorRows
import Derived.LaidSub
import Derived.Lib.LaidTab
import Derived.MakeChecks
namespace Go.Proofs.YtngkjngfiakmaaaDoor
set_option linter.unusedVariables false
set_option linter.unusedSimpArgs false
open Go Go.RowKit

theorem tab_ext {W u : World} {name : String} {k : IntKind} {zs : List Int} (h : Lib.TabIs Tryd.prog W name k zs) (e : Ext W u) : Lib.TabIs Tryd.prog u name k zs := by
  unfold Lib.TabIs at *
  unfold World.var? at *
  revert h
  cases hg : Tryd.prog.globalNamed name with
  | none => intro h; exact h
  | some g =>
    intro h
    by_cases hlt : g < W.heap.size
    · have hb := Below.block e g hlt
      simp only [Option.bind_eq_bind, Option.bind_some] at h ⊢
      rw [hb]; exact h
    · exfalso
      have : W.heap[g]? = none := Array.getElem?_eq_none (by omega)
      simp [this] at h
set_option maxRecDepth 100000 in
theorem tab_of_laid {W : World} (h : laidMetH Tryd.prog Rows.keysMakeRow.laid W) : Lib.TabIs Tryd.prog W "internal/strconv.uint64pow10" .u64 Lib.pow10Tab := by
  have h1 := laidMetH.filter (fun x => x.1 == "internal/strconv.uint64pow10") h
  rw [MakeChecks.laidMetH_plain _ _ _ (by kernel_rfl)] at h1
  exact Lib.tabIs_of_head (rest := []) (g := (Tryd.prog.globalNamed "internal/strconv.uint64pow10").getD 0) (by kernel_rfl) (t := _) rfl (e := _) (n := _) rfl rfl (by kernel_rfl) (by kernel_rfl) h1
theorem itoa_any {W : World} {n : Int} (h : Lib.TabIs Tryd.prog W "internal/strconv.uint64pow10" .u64 Lib.pow10Tab) (hn : inI n) : ItoaOk W n := fun u hu => by
  refine (Tryd.strconv_Itoa n hn.1 hn.2 u (tab_ext h hu)).mono ?_
  rintro e u' ⟨rfl, k, os, rfl⟩
  refine ⟨by rw [itoa_eq], ?_⟩
  exact ⟨rfl, rfl, rfl, by simp [Sort.grow, World.drewN], fun k hk => by simp [Sort.grow, World.drewN, Array.getElem?_append, hk]⟩
set_option maxRecDepth 100000 in
set_option maxHeartbeats 2000000 in
theorem KeysMake_any (seed : List UInt8) (r c p : Int) (w : World) (h32 : seed.length = 32) (hr : inI r) (hc : inI c) (hp : inI p) (hit : ∀ n, inI n → ItoaOk w n) :
    Calls Tryd.prog 3 #[.agg (keyA seed), .int .i64 r, .int .i64 c, .int .i64 p] w fun e w' => e = .returned (.bool true) ∧ Below w.heap.size w w' := by
  have HK := Lib.hid h32; clear h32
  have hk0 := Lib.hid (Blk.new w (keyA seed) 23)
  have hb0 := Lib.hid (show Below w.heap.size w (w.alloc (.cells (keyA seed) 23)) by go_grown)
  have HIN := Lib.hid (show ∀ n ∈ [r, c, p], inI n by intro n hn; simp at hn; rcases hn with rfl | rfl | rfl <;> assumption)
  have HM1 := Lib.hid fun (u : World) (e : Ext w u) => Make_any seed r c p u HK.out hr hc hp (fun n hn => (hit n (HIN.out n hn)).mono e)
  have HM2 := Lib.hid fun (u : World) => Maker_any seed r c p u HK.out hr hc hp
  have HDL := Lib.hid (show (makeD seed r c p).length = 3 from rfl)
  unfold RetM at HM1 HM2
  clear hit
  generalize makeS seed r c p = MS at *
  generalize makeD seed r c p = KS at *
  obtain ⟨k0, k1, k2⟩ := MS
  go_enter Tryd.func3, Tryd.ntmps3
  go_wp2_with (first
    | (go_at_call 9; refine (alive16_any _).mono ?_; rintro e w1 ⟨rfl, hb1⟩; have hkey1 := hk0.out.below hb1; have e1 : Ext w w1 := hb0.out.trans (hb1.mono hb0.out.size); clear hb1)
    | (refine wpList_load_row rfl 23 (.tmp 4) rfl w.heap.size rfl _ (keyA seed) (0, 0) _ hkey1 under_key rfl (by rw [keyA_size, HK.out]; exact info_key) ?_)
    | (go_at_call 10; refine (HM1.out _ e1).mono ?_; rintro e w2 ⟨v2, rfl, hv2, hb2⟩; obtain ⟨a2, c2, rfl, -, -⟩ := sees_form hv2.1; have e2 : Ext w1 w2 := hb2; have hkey2 := hkey1.below hb2; have HV2 := Lib.hid hv2.1; clear hv2 hb2 hkey1)
    | (go_at_call 11; refine (HM2.out _).mono ?_; rintro e w5 ⟨v5, rfl, hv5, hb5⟩; obtain ⟨a5, c5, rfl, -, -⟩ := sees_form hv5.1; have e5 : Ext w2 w5 := Ext.tr e4 hb5; have HR5 := hR4.below hb5; have HV5 := Lib.hid hv5.1; clear hv5 hb5 hkey4 hR4)
    | (refine wpList_allocB rfl _ rfl _ run_allocSec ?_; intro x3 B3 hh3 hB3 e3)
    | (refine wpList_store_row rfl 27 (.tmp 10) _ rfl B3 (SecC k0 k1 k2) _ _ rfl rfl hh3 rfl info_sec (one_secC _ _ _) ?_; intro x4 hg4 hs4 hR4
       have e4 : Ext w2 x4 := ext_rowK e3 hg4 hB3
       have hkey4 := hkey2.below e4
       clear hg4 hs4 e3 hh3 hkey2)
    | (refine wpList_load_row rfl 23 (.tmp 4) rfl w.heap.size rfl _ (keyA seed) (0, 0) _ hkey4 under_key rfl (by rw [keyA_size, HK.out]; exact info_key) ?_)
    | (refine wpList_store_row rfl 27 (.tmp 12) _ rfl B3 (SecC k0 k1 k2) _ _ rfl rfl hh3 rfl info_sec (one_secC _ _ _) ?_; intro x7 hg7 hs7 hR7
       have e7 : Ext w5 x7 := ext_rowK e3 hg7 hB3
       have hR8 := HR5.below e7
       have e8 : Ext w2 x7 := Ext.tr e5 e7)
    | (refine wpList_load_rowG rfl 27 (.tmp 10) rfl _ rfl _ (SecC k0 k1 k2) (0, 0) _ hR8 Tryd.underlying27 rfl info_sec ?_)
    | (refine wpList_load_rowG rfl 27 (.tmp 12) rfl _ rfl _ (SecC k0 k1 k2) (0, 0) _ hR7 Tryd.underlying27 rfl info_sec ?_)
    | (refine wpList_eql rfl 27 _ _ rfl _ _ _ rfl rfl guard_sec (run_eqSec _ _ _ _) ?_)
    | (go_at_call 12; refine (SameN_any KS _ _ _ (HV2.out.below e8 (by decide)) (HV5.out.below e7 (by decide)) (by rw [HDL.out]; decide)).mono ?_; rintro e w9 ⟨rfl, hb9⟩; have e9 : Ext w w9 := Ext.tr e1 (Ext.tr e2 (Ext.tr e8 hb9))))
  go_ret
  exact ⟨rfl, e9⟩
end Go.Proofs.YtngkjngfiakmaaaDoor
