/-
  The words of a block's rounds, and the block: the first program.
-/
import Derived.Test.YteialfdhbfbkgaaWords
import Derived.Test.YteialfdhbfbkgaaSha1
import Derived.Test.YteialfdhbfbkgaaRegion
namespace Go.Proofs.Yteialfdhbfbkgaa
set_option linter.unusedVariables false
set_option linter.unusedSimpArgs false
open Go Go.RowKit
attribute [local go_sem] bits32_and bits32_or bits32_xor bits32_not add32 add32' shr32_3 shr32_10 u32_unsigned

theorem info_arr64 : (Try.prog.info? 97).map (·.size) = some 64 := by kernel_rfl
theorem info_arr8 : (Try.prog.info? 95).map (·.size) = some 8 := by kernel_rfl
theorem N32_ofNat (n : Nat) (h : n < 4294967296) : (n : Int) = N32 (BitVec.ofNat 32 n) := by unfold N32; simp; omega
theorem beN4_lt (l : List UInt8) : beN (l.take 4) < 4294967296 :=
  Nat.lt_of_lt_of_le (beN_lt _) (Nat.le_trans (Nat.pow_le_pow_right (by omega) (show (l.take 4).length ≤ 4 by simp; omega)) (by decide))

def SchedRel (w : World) (f : Nat → BitVec 32) (i : Value) (wr : World) : Prop :=
  ∃ k : Nat, k ≤ 64 ∧ i = .int .i64 k ∧ Blk wr (w.heap.size + 1) (arr32 64 (fun j => if j < k then f j else 0)) 97 ∧ Blk wr w.heap.size (arr32 64 (fun _ => 0)) 97 ∧ Below w.heap.size w wr

theorem sched_put {wr : World} {g k : Nat} {t : TypeId} {f : Nat → BitVec 32} (h : Blk wr g (arr32 64 (fun j => if j < k then f j else 0)) t) :
    Blk (wr.setCell ⟨g, k, none⟩ (.int .u32 (N32 (f k)))) g (arr32 64 (fun j => if j < k + 1 then f j else 0)) t := by
  have := h.set k (.int .u32 (N32 (f k)))
  rw [arr32_set] at this
  rw [arr32_congr (g := fun j => if j = k then f k else if j < k then f j else 0)]
  · exact this
  · intro j _
    by_cases e : j = k
    · subst e; simp
    · simp only [e, if_false]; congr 1; simp; omega
theorem sched_cell {wr : World} {g k : Nat} {t : TypeId} {f : Nat → BitVec 32} (h : Blk wr g (arr32 64 (fun j => if j < k then f j else 0)) t) (j : Nat) (hj : j < k) (hk : k ≤ 64) :
    wr.cell? ⟨g, j, none⟩ = some (.int .u32 (N32 (f j))) := by
  rw [h.cell, arr32_get _ _ _ (by omega), if_pos hj]
theorem sched_here {wr : World} {g k : Nat} {t : TypeId} {f : Nat → BitVec 32} (h : Blk wr g (arr32 64 (fun j => if j < k then f j else 0)) t) (hk : k < 64) :
    wr.cell? ⟨g, k, none⟩ = some (.int .u32 (N32 0)) := by
  rw [h.cell, arr32_get _ _ _ (by omega), if_neg (by omega)]

set_option maxRecDepth 100000 in
set_option maxHeartbeats 1000000 in
theorem schedule_any (w : World) (v : Value) (l : List UInt8) (hv : SeesB w v l) (hl : l.length = 64) :
    Calls Try.prog 115 #[v] w fun e w' => e = .returned (.agg (arr32 64 (shaW (blkW l)))) ∧ Below w.heap.size w w' := by
  have HL := Lib.hid hl; clear hl
  go_enter Try.func115, Try.ntmps115
  go_wp2_with fail
  go_loopw [9] (fun i wr => SchedRel w (shaW (blkW l)) i wr) (fun i _ => 64 - (intOf i).toNat)
  case atStart =>
    refine ⟨0, by omega, rfl, ?_, ?_, by go_grown⟩
    · show Blk _ _ (arr32 64 (fun _ => 0)) _
      rw [arr32_zero64]; exact Blk.new2 _ _ _ _
    · rw [arr32_zero64]; exact (Blk.new w _ _).alloc _
  case round =>
    obtain ⟨k, hk, rfl, hB, hR, hbel⟩ := hrel
    by_cases hlt : k < 64
    · have hcell := sched_here hB hlt
      have hfr := hB.free k
      by_cases h16 : k < 16
      · go_wp2_with (go_at_call 125; refine (Get32_ok _ _ l _ (hv.below hbel (by decide)) (by omega) (by rw [HL.out]; omega)).mono ?_; rintro e w' ⟨rfl, rfl⟩)
        go_roundw
        case rel =>
          refine ⟨k + 1, by omega, by go_num, ?_, hR.setCell _ _ (by simp), hbel.setCell (by simp) _⟩
          have e : shaW (blkW l) k = BitVec.ofNat 32 (beN ((l.drop (4 * k)).take 4)) := by rw [shaW, if_pos h16]; rfl
          rw [N32_ofNat _ (beN4_lt _), ← e]
          exact sched_put hB
        case measure => simp [intOf]; omega
      · have h1 := sched_cell hB (k - 15) (by omega) hk
        have h2 := sched_cell hB (k - 2) (by omega) hk
        have h3 := sched_cell hB (k - 16) (by omega) hk
        have h4 := sched_cell hB (k - 7) (by omega) hk
        go_wp2_with fail
        go_quiet (fail)
        go_wp2_with (go_at_call 126; refine (rot_any _ _ _ (by omega) (by omega)).mono ?_; rintro e w' ⟨rfl, rfl⟩)
        refine wp_region_quiet_tail 15 (by kernel_rfl) (by kernel_rfl) ?_
        simp only [List.take_succ_cons, List.take_zero, List.drop_succ_cons, List.drop_zero]
        iterate 15 (go_big_quiet_step (fail))
        refine wpQuiet_nil ?_
        intro nr
        go_wp2_with fail
        go_roundw
        case rel =>
          refine ⟨k + 1, by omega, by go_num, ?_, (hR.setCell _ _ (by simp)).drewN _, below_drewN (hbel.setCell (by simp) _) _⟩
          have e : shaW (blkW l) k = shaW (blkW l) (k - 16) + sig0 (shaW (blkW l) (k - 15)) + shaW (blkW l) (k - 7) + sig1 (shaW (blkW l) (k - 2)) := by rw [shaW, if_neg h16]
          have := sched_put hB
          rw [e] at this
          exact this.drewN _
        case measure => simp [intOf]; omega
    · obtain rfl : k = 64 := by omega
      have eB : arr32 64 (fun j => if j < 64 then shaW (blkW l) j else 0) = arr32 64 (shaW (blkW l)) := arr32_congr fun i hi => by simp [hi]
      rw [eB] at hB; clear eB
      go_wp2_with (first
        | (refine wpList_load_row rfl _ _ rfl (w.heap.size + 1) rfl _ _ (0, 0) _ hB Try.underlying97 rfl (by rw [arr32_size]; exact info_arr64) ?_)
        | (refine wpList_store_row rfl _ _ _ rfl w.heap.size _ _ _ rfl rfl hR (by simp only [arr32_size]) (by rw [arr32_size]; exact info_arr64) (arr32_one _ _) ?_; intro w2 hg2 hs2 hR2))
      refine bodyPost_ret (results_cell_row Try.results115 _ _ w.heap.size _ _ (0, 0) _ rfl hR2 Try.underlying97 rfl (by rw [arr32_size]; exact info_arr64)) rfl ⟨rfl, hbel.grown hg2 hbel.size (fun k hk => ?_)⟩
      cases hk; exact Nat.le_refl _
end Go.Proofs.Yteialfdhbfbkgaa
