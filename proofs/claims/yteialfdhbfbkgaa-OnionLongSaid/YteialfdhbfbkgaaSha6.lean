/-
  The sum of bytes: the first program.
-/
import Derived.Test.YteialfdhbfbkgaaSha4
import Derived.Test.YteialfdhbfbkgaaSha5
namespace Go.Proofs.Yteialfdhbfbkgaa
set_option linter.unusedVariables false
set_option linter.unusedSimpArgs false
open Go Go.RowKit

theorem info_key : (Try.prog.info? 23).map (·.size) = some 32 := by kernel_rfl
theorem under_key : Try.prog.underlying 23 = some (.array 32 5) := Try.underlying23
theorem run_index8 (f : Nat → BitVec 32) (i : Nat) (h : i < 8) (w : World) : (Instr.index 95 (.agg (arr32 8 f)) (.int .i64 i)).run Try.prog w = .ok (.int .u32 (N32 (f i))) w := by
  have hc := arr32_get 8 f i h
  generalize arr32 8 f = cs at hc
  have h1 : (Try.prog.info? 94).map (·.size) = some 1 := by kernel_rfl
  obtain ⟨ti, hti, hsz⟩ := Option.map_eq_some_iff.1 h1
  simp [Instr.index, run_underlying Try.underlying95, sizeOf, typeInfo, hti, hsz, h, go_sem]
  rw [hc]; rfl
theorem run_arrayAt (a : Addr) (c : Nat) (w : World) : (Instr.arrayAt 23 (.slice (some a) 32 c)).run Try.prog w = .ok (.pointer (some a)) w := by
  simp [Instr.arrayAt, run_underlying under_key, go_sem]
theorem keyA_one (l : List UInt8) : ∀ u ∈ (keyA l).toList, u.oneCell' = true := by simpa [keyA] using one_BV l

def SumRel (w : World) (B : Nat) (v5 : Value) (p : List UInt8) (i : Value) (wr : World) : Prop :=
  ∃ n m : Nat, i = .int .i64 m ∧ Hid (m = 64 * n) ∧ m ≤ p.length ∧ Blk wr B (cells8 (shaBlocks p n)) 95 ∧ Blk wr (B + 1) (arr32 64 shaK) 97 ∧ SeesB wr v5 p ∧
    Blk wr w.heap.size (keyA (List.replicate 32 0)) 23 ∧ Below w.heap.size w wr
def SumRel2 (w : World) (s : W8) (i v : Value) (wr : World) : Prop :=
  ∃ n : Nat, n ≤ 8 ∧ i = .int .i64 n ∧ SeesB wr v (bytes8 s n) ∧ Blk wr w.heap.size (keyA (List.replicate 32 0)) 23 ∧ Below w.heap.size w wr

set_option maxRecDepth 100000 in
set_option maxHeartbeats 1000000 in
theorem Sum_any (w : World) (v : Value) (l : List UInt8) (hv : SeesB w v l) (hl : l.length ≤ 70368744177000) :
    Calls Try.prog 72 #[v] w fun e w' => e = .returned (.agg (keyA (sha l))) ∧ Below w.heap.size w w' := by
  have hpm := shaPad_mod l
  have hpl : (shaPad l).length ≤ 70368744177200 := by rw [length_shaPad]; unfold padN; omega
  unfold sha
  generalize hp : shaPad l = p at hpm hpl ⊢
  have HP := Lib.hid hp; clear hp
  have HM := Lib.hid hpm; clear hpm
  go_enter Try.func72, Try.ntmps72
  go_wp2_with fail
  refine (first_any _).mono ?_; rintro e w1 ⟨rfl, hb1⟩
  go_wp2_with fail
  refine (numbers_any _).mono ?_; rintro e w2 ⟨rfl, hb2⟩
  have hk : Blk w1 w.heap.size (keyA (List.replicate 32 0)) 23 := by rw [keyA_zero]; exact (Blk.new w _ _).below hb1
  have hbel1 : Below w.heap.size w w1 := Below.trans (by go_grown) (hb1.mono (by simp only [World.size_alloc]; omega))
  have hlt : w.heap.size < w1.heap.size := hk.lt
  clear hb1
  have hbel2 : Below w.heap.size w w2 := hbel1.trans (hb2.mono hbel1.size)
  have hk2 := hk.below hb2
  have hs2 := hb2.size
  clear hb2 hk hbel1
  have hs2' : w1.heap.size ≤ w2.heap.size := hs2
  go_wp2_with (refine wpList_store_row rfl 97 _ _ rfl (w2.heap.size + 1) (arr32 64 shaK) (arr32 64 (fun _ => 0)) 97 rfl rfl (by rw [arr32_zero64]; exact Blk.new2 _ _ _ _) (by rw [arr32_size, arr32_size]) (by rw [arr32_size]; exact info_arr64) (arr32_one _ _) ?_; intro w3 hg3 hs3 hK3)
  have hN3 : Blk w3 w2.heap.size (cells8 shaInit) 95 := Blk.grownBy ((Blk.new w2 _ _).alloc _) hg3 (some_ne (by omega))
  have hk3 : Blk w3 w.heap.size (keyA (List.replicate 32 0)) 23 := ((hk2.alloc _).alloc _).grownBy hg3 (some_ne (by omega))
  have hbel3 : Below w.heap.size w w3 := Below.grown (B := w.heap.size) ((hbel2.alloc hbel2.size _).alloc (by simp only [World.size_alloc]; omega) _) hg3 (by simp only [World.size_alloc]; omega) (fun k hk => by cases hk; omega)
  clear hg3 hs3 hbel2 hk2 hs2
  go_wp2_with fail
  refine (padded_any _ _ l (hv.below hbel3 (by decide)) hl).mono ?_; rintro e w4 ⟨v5, rfl, hown5, hb4⟩
  have hN4 := hN3.below hb4; have hK4 := hK3.below hb4; have hk4 := hk3.below hb4
  have hbel4 : Below w.heap.size w w4 := hbel3.trans (hb4.mono hbel3.size)
  have hv5 := sees_of_owns hown5
  have hne : v5.ownBlock ≠ some w2.heap.size := fun e => by have := (hown5.lt _ e).1; have := hN3.lt; omega
  have hw2 : w.heap.size < w2.heap.size := Nat.lt_of_lt_of_le hlt hs2'
  clear hN3 hK3 hk3 hbel3 hb4 hown5 hv
  rw [HP.out] at hv5
  obtain ⟨a5, c5, rfl, hac5, hc5⟩ := sees_form hv5
  go_wp2_with fail
  go_loopw [6] (fun i wr => SumRel w w2.heap.size (.slice a5 p.length c5) p i wr) (fun i _ => p.length - (intOf i).toNat)
  case atStart => exact ⟨0, 0, rfl, Lib.hid rfl, by omega, hN4, hK4, hv5, hk4, hbel4⟩
  case round =>
    clear hN4 hK4 hv5 hk4 hbel4
    obtain ⟨n, m, rfl, HMN, hmp, hN, hK, hv5, hk, hbel⟩ := hrel
    have hpos : m < p.length → m + 64 ≤ p.length := fun h => by have := HM.out; have := HMN.out; omega
    by_cases hlt2 : m < p.length
    · have hp64 := hpos hlt2; clear hpos
      obtain ⟨c0, c1, c2, c3, c4, c5', c6, c7⟩ := blk8 hN
      go_wp2_with fail
      refine wp_region_quiet_tail 7 (by kernel_rfl) (by kernel_rfl) ?_
      simp only [List.take_succ_cons, List.take_zero, List.drop_succ_cons, List.drop_zero]
      iterate 7 (first | (refine wpQuiet_load_row rfl 97 _ rfl (w2.heap.size + 1) rfl _ _ (0, 0) _ (fun w_ hw_ => by obtain ⟨q_, rfl⟩ := hw_; exact hK) Try.underlying97 rfl (by rw [arr32_size]; exact info_arr64) ?_) | go_big_quiet_step (fail))
      refine wpQuiet_nil ?_
      intro nr
      go_wp2_with (first
        | (go_at_call 96; refine (mix_any _ _ ((p.drop m).take 64) _ _ (seesB_sub (hv5.drewN nr) m 64 hp64 (by omega)) (by simp; omega)).mono ?_; rintro e w5 ⟨rfl, hb5⟩; have hN5 := Blk.below (hN.drewN nr) hb5)
        | (refine wpList_store8 rfl _ _ rfl w2.heap.size _ _ rfl rfl hN5 ?_; intro w6 hg6 hs6 hN6))
      go_roundw
      case rel =>
        have hbel5 := (below_drewN hbel nr).trans (hb5.mono (below_drewN hbel nr).size)
        have hbel6 := hbel5.grown hg6 hbel5.size (fun k hk => by cases hk; omega)
        refine ⟨n + 1, m + 64, by go_num, Lib.hid (by rw [HMN.out]; omega), by omega, ?_, ((hK.drewN nr).below hb5).grownBy hg6 (some_ne (by omega)), ?_, ((hk.drewN nr).below hb5).grownBy hg6 (some_ne (by omega)), hbel6⟩
        · have := hN6; rw [HMN.out] at this; exact this
        · exact ((hv5.drewN nr).below hb5 (by decide)).grownBy hg6 (by decide) (Or.inr hne)
      case measure => simp [intOf]; omega
    · obtain rfl : m = p.length := by omega
      have hn64 : n = p.length / 64 := by have := HMN.out; omega
      rw [hn64] at hN
      clear hn64 HMN hpos
      generalize hs : shaBlocks p (p.length / 64) = s at hN
      have HS := Lib.hid hs; clear hs
      go_wp2_with (refine wpList_load8 rfl _ rfl w2.heap.size _ rfl hN ?_)
      go_loopw [29, 7] (fun i v wr => SumRel2 w s i v wr) (fun i _ _ => 8 - (intOf i).toNat)
      case atStart => exact ⟨0, by omega, rfl, Sees.nil _ _, hk, hbel⟩
      case round =>
        clear hN hK hv5 hk hbel
        obtain ⟨n, hn, rfl, hv, hk, hbel⟩ := hrel
        by_cases hlt : n < 8
        · have hix := run_index8 s.get n hlt
          rw [← cells8_arr] at hix
          have hlen := length_bytes8 s n
          have HL := Lib.hid hlen; clear hlen
          go_wp2_with (go_at_call 91; refine (Put32_any _ _ (bytes8 s n) _ hv (N32_nonneg _) (N32_lt _) (by rw [HL.out]; omega)).mono ?_; rintro e w5 ⟨v6, rfl, hown6, hb6⟩)
          go_roundw
          case rel =>
            refine ⟨n + 1, by omega, by go_num, ?_, hk.below hb6, hbel.trans (hb6.mono hbel.size)⟩
            rw [bytes8_succ]
            have := sees_of_owns hown6
            rwa [show (N32 (s.get n)).toNat = (s.get n).toNat from by unfold N32; simp] at this
          case measure => simp [intOf]; omega
        · obtain rfl : n = 8 := by omega
          have hl32 : (bytes8 s 8).length = 32 := length_bytes8 s 8
          obtain ⟨b, o, c, rfl, hc1, hc2, hr⟩ := seesB_open hv (by rw [hl32]; omega)
          rw [hl32] at hc1 ⊢
          have HL := Lib.hid hl32; clear hl32
          have HR := Lib.hid hr; clear hr
          have hat := run_arrayAt ⟨b, o, none⟩ c
          go_wp2_with (first
            | (refine wpList_load_mid rfl 23 _ rfl b o rfl ((bytes8 s 8).map BV) _ HR.out under_key rfl (by rw [List.length_map, HL.out]; exact info_key) ?_)
            | (refine wpList_store_row rfl 23 _ _ rfl w.heap.size (keyA (bytes8 s 8)) _ _ rfl rfl hk (by rw [keyA_size, keyA_size, HL.out]; rfl) (by rw [keyA_size, HL.out]; exact info_key) (keyA_one _) ?_; intro w7 hg7 hs7 hR7))
          refine bodyPost_ret (results_cell_row Try.results72 _ _ w.heap.size _ _ (0, 0) _ rfl hR7 under_key rfl (by rw [keyA_size, HL.out]; exact info_key)) rfl ⟨?_, hbel.grown hg7 hbel.size (fun k hk => ?_)⟩
          · rw [HS.out]
          · cases hk; exact Nat.le_refl _
end Go.Proofs.Yteialfdhbfbkgaa
