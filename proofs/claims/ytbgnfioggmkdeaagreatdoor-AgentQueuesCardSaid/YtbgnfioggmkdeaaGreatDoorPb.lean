/-
  The rounds of SHA-256: both programs' rotations, the round and the block of the first program.
  The words of a block's rounds, and the block: the first program.
  A block mixed in: the first program.
  The constants; the padding: the first program.
  The padding: the first program.
  The sum of bytes: the first program.
  The sum of parts: the first program.
  Arms for walks: what an operation makes, under a name; worlds that follow one another.
  A block mixed in: the reference.
  The sum of bytes: the reference.
  The sum of bytes: the reference.
  The sum of parts: the reference.
-/
import Derived.Test.YtbgnfioggmkdeaaGreatDoorProg
import Derived.Test.YtbgnfioggmkdeaaGreatDoorPa
import Derived.BigQuiet
import Derived.Deep.QuietTactic
namespace Go.Proofs.YtbgnfioggmkdeaaGreatDoor
set_option linter.unusedVariables false
set_option linter.unusedSimpArgs false
open Go Go.RowKit
attribute [local go_sem] bits32_and bits32_or bits32_xor bits32_not add32 add32' shr32_3 shr32_10 u32_unsigned

set_option maxHeartbeats 400000 in
theorem rot_any (x : BitVec 32) (n : Int) (w : World) (h0 : 0 < n) (h1 : n < 32) :
    Calls Tryz.prog 184 #[.int .u32 (N32 x), .int .i64 n] w fun e w' => e = .returned (.int .u32 (N32 (x.rotateRight n.toNat))) ∧ w' = w := by
  have hm : bits .and .u64 n 31 = n := by
    have := bits_mask .u64 64 (by decide) (fun m a b => by rw [IntKind.wrap_u64]; omega) 5 (by decide) n (by omega) (by omega)
    simp at this; rw [this]; omega
  have hn : bits .and .u64 (32 - n) 31 = 32 - n := by
    have := bits_mask .u64 64 (by decide) (fun m a b => by rw [IntKind.wrap_u64]; omega) 5 (by decide) (32 - n) (by omega) (by omega)
    simp at this; rw [this]; omega
  have hr := rot32 x n.toNat (by omega) (by omega)
  rw [show 32 - n.toNat = (32 - n).toNat from by omega] at hr
  go_enter Tryz.func184, Tryz.ntmps184
  go_wp2
  go_ret
  exact ⟨rfl, rfl⟩

set_option maxHeartbeats 400000 in
theorem rotr_any (x : BitVec 32) (n : Int) (w : World) (h0 : 0 < n) (h1 : n < 32) :
    Calls Tryz.prog 198 #[.int .u32 (N32 x), .int .i64 n] w fun e w' => e = .returned (.int .u32 (N32 (x.rotateRight n.toNat))) ∧ w' = w := by
  have hm : n % 32 = n := by omega
  have hn : (n + 32) % 32 = n := by omega
  have hz : (n == 0) = false := beq_eq_false_iff_ne.2 (by omega)
  have hr := rot32 x n.toNat (by omega) (by omega)
  rw [show 32 - n.toNat = (32 - n).toNat from by omega] at hr
  go_enter Tryz.func198, Tryz.ntmps198
  go_wp2
  go_ret
  exact ⟨rfl, rfl⟩

theorem turn_any (x : BitVec 32) (n : Int) (w : World) (h0 : 0 < n) (h1 : n < 32) :
    Calls Tryz.prog 179 #[.int .u32 (N32 x), .int .i64 n] w fun e w' => e = .returned (.int .u32 (N32 (x.rotateRight n.toNat))) ∧ w' = w := by
  go_enter Tryz.func179, Tryz.ntmps179
  go_wp2_with (go_at_call 198; refine (rotr_any _ _ _ (by omega) (by omega)).mono ?_; rintro e w' ⟨rfl, rfl⟩)
  go_ret
  exact ⟨rfl, rfl⟩

set_option maxHeartbeats 400000 in
theorem step_any (s : W8) (k : BitVec 32) (w : World) :
    Calls Tryz.prog 155 #[agg8 s, .int .u32 (N32 k)] w fun e w' => e = .returned (agg8 (shaStep s k)) ∧ Below w.heap.size w w' := by
  go_enter Tryz.func155, Tryz.ntmps155
  go_wp2_with fail
  go_quiet (fail)
  go_wp2_with (go_at_call 184; refine (rot_any _ _ _ (by omega) (by omega)).mono ?_; rintro e w' ⟨rfl, rfl⟩)
  exact bodyPost_ret (v := agg8 (shaStep s k)) (by simp [results, Tryz.results155, go_sem, shaStep]) rfl ⟨rfl, below_drewN (by go_grown) _⟩
end Go.Proofs.YtbgnfioggmkdeaaGreatDoor
namespace Go.Proofs.YtbgnfioggmkdeaaGreatDoor
set_option linter.unusedVariables false
set_option linter.unusedSimpArgs false
open Go Go.RowKit
attribute [local go_sem] bits32_and bits32_or bits32_xor bits32_not add32 add32' shr32_3 shr32_10 u32_unsigned

theorem info_arr64 : (Tryz.prog.info? 171).map (·.size) = some 64 := by kernel_rfl
theorem info_arr8 : (Tryz.prog.info? 169).map (·.size) = some 8 := by kernel_rfl
theorem N32_ofNat (n : Nat) (h : n < 4294967296) : (n : Int) = N32 (BitVec.ofNat 32 n) := by unfold N32; simp; omega
theorem beN4_lt (l : List UInt8) : beN (l.take 4) < 4294967296 :=
  Nat.lt_of_lt_of_le (beN_lt _) (Nat.le_trans (Nat.pow_le_pow_right (by omega) (show (l.take 4).length ≤ 4 by simp; omega)) (by decide))

def SchedRel (w : World) (f : Nat → BitVec 32) (i : Value) (wr : World) : Prop :=
  ∃ k : Nat, k ≤ 64 ∧ i = .int .i64 k ∧ Blk wr (w.heap.size + 1) (arr32 64 (fun j => if j < k then f j else 0)) 171 ∧ Blk wr w.heap.size (arr32 64 (fun _ => 0)) 171 ∧ Below w.heap.size w wr

theorem sched_put {wr : World} {g k : Nat} {t : TypeId} {f : Nat → BitVec 32} (h : Blk wr g (arr32 64 (fun j => if j < k then f j else 0)) t) :
    Blk (wr.setCell ⟨g, k, none⟩ (.int .u32 (N32 (f k)))) g (arr32 64 (fun j => if j < k + 1 then f j else 0)) t := by
  have := h.set k (.int .u32 (N32 (f k)))
  rw [arr32_set] at this
  rw [arr32_congr (g := fun j => if j = k then f k else if j < k then f j else 0)]
  · exact this
  · intro j _
    by_cases e : j = k
    · subst e; simp
    · simp only [e, if_false]; congr 1; simp; omega
theorem sched_cell {wr : World} {g k : Nat} {t : TypeId} {f : Nat → BitVec 32} (h : Blk wr g (arr32 64 (fun j => if j < k then f j else 0)) t) (j : Nat) (hj : j < k) (hk : k ≤ 64) :
    wr.cell? ⟨g, j, none⟩ = some (.int .u32 (N32 (f j))) := by
  rw [h.cell, arr32_get _ _ _ (by omega), if_pos hj]
theorem sched_here {wr : World} {g k : Nat} {t : TypeId} {f : Nat → BitVec 32} (h : Blk wr g (arr32 64 (fun j => if j < k then f j else 0)) t) (hk : k < 64) :
    wr.cell? ⟨g, k, none⟩ = some (.int .u32 (N32 0)) := by
  rw [h.cell, arr32_get _ _ _ (by omega), if_neg (by omega)]

set_option maxRecDepth 100000 in
set_option maxHeartbeats 1000000 in
theorem schedule_any (w : World) (v : Value) (l : List UInt8) (hv : SeesB w v l) (hl : l.length = 64) :
    Calls Tryz.prog 154 #[v] w fun e w' => e = .returned (.agg (arr32 64 (shaW (blkW l)))) ∧ Below w.heap.size w w' := by
  have HL := Lib.hid hl; clear hl
  go_enter Tryz.func154, Tryz.ntmps154
  go_wp2_with fail
  go_loopw [9] (fun i wr => SchedRel w (shaW (blkW l)) i wr) (fun i _ => 64 - (intOf i).toNat)
  case atStart =>
    refine ⟨0, by omega, rfl, ?_, ?_, by go_grown⟩
    · show Blk _ _ (arr32 64 (fun _ => 0)) _
      rw [arr32_zero64]; exact Blk.new2 _ _ _ _
    · rw [arr32_zero64]; exact (Blk.new w _ _).alloc _
  case round =>
    obtain ⟨k, hk, rfl, hB, hR, hbel⟩ := hrel
    by_cases hlt : k < 64
    · have hcell := sched_here hB hlt
      have hfr := hB.free k
      by_cases h16 : k < 16
      · go_wp2_with (go_at_call 183; refine (Get32_ok _ _ l _ (hv.below hbel (by decide)) (by omega) (by rw [HL.out]; omega)).mono ?_; rintro e w' ⟨rfl, rfl⟩)
        go_roundw
        case rel =>
          refine ⟨k + 1, by omega, by go_num, ?_, hR.setCell _ _ (by simp), hbel.setCell (by simp) _⟩
          have e : shaW (blkW l) k = BitVec.ofNat 32 (beN ((l.drop (4 * k)).take 4)) := by rw [shaW, if_pos h16]; rfl
          rw [N32_ofNat _ (beN4_lt _), ← e]
          exact sched_put hB
        case measure => simp [intOf]; omega
      · have h1 := sched_cell hB (k - 15) (by omega) hk
        have h2 := sched_cell hB (k - 2) (by omega) hk
        have h3 := sched_cell hB (k - 16) (by omega) hk
        have h4 := sched_cell hB (k - 7) (by omega) hk
        go_wp2_with fail
        go_quiet (fail)
        go_wp2_with (go_at_call 184; refine (rot_any _ _ _ (by omega) (by omega)).mono ?_; rintro e w' ⟨rfl, rfl⟩)
        refine wp_region_quiet_tail 15 (by kernel_rfl) (by kernel_rfl) ?_
        simp only [List.take_succ_cons, List.take_zero, List.drop_succ_cons, List.drop_zero]
        iterate 15 (go_big_quiet_step (fail))
        refine wpQuiet_nil ?_
        intro nr
        go_wp2_with fail
        go_roundw
        case rel =>
          refine ⟨k + 1, by omega, by go_num, ?_, (hR.setCell _ _ (by simp)).drewN _, below_drewN (hbel.setCell (by simp) _) _⟩
          have e : shaW (blkW l) k = shaW (blkW l) (k - 16) + sig0 (shaW (blkW l) (k - 15)) + shaW (blkW l) (k - 7) + sig1 (shaW (blkW l) (k - 2)) := by rw [shaW, if_neg h16]
          have := sched_put hB
          rw [e] at this
          exact this.drewN _
        case measure => simp [intOf]; omega
    · obtain rfl : k = 64 := by omega
      have eB : arr32 64 (fun j => if j < 64 then shaW (blkW l) j else 0) = arr32 64 (shaW (blkW l)) := arr32_congr fun i hi => by simp [hi]
      rw [eB] at hB; clear eB
      go_wp2_with (first
        | (refine wpList_load_row rfl _ _ rfl (w.heap.size + 1) rfl _ _ (0, 0) _ hB Tryz.underlying171 rfl (by rw [arr32_size]; exact info_arr64) ?_)
        | (refine wpList_store_row rfl _ _ _ rfl w.heap.size _ _ _ rfl rfl hR (by simp only [arr32_size]) (by rw [arr32_size]; exact info_arr64) (arr32_one _ _) ?_; intro w2 hg2 hs2 hR2))
      refine bodyPost_ret (results_cell_row Tryz.results154 _ _ w.heap.size _ _ (0, 0) _ rfl hR2 Tryz.underlying171 rfl (by rw [arr32_size]; exact info_arr64)) rfl ⟨rfl, hbel.grown hg2 hbel.size (fun k hk => ?_)⟩
      cases hk; exact Nat.le_refl _
end Go.Proofs.YtbgnfioggmkdeaaGreatDoor
namespace Go.Proofs.YtbgnfioggmkdeaaGreatDoor
set_option linter.unusedVariables false
set_option linter.unusedSimpArgs false
open Go Go.RowKit
attribute [local go_sem] bits32_and bits32_or bits32_xor bits32_not add32 add32' shr32_3 shr32_10 u32_unsigned

theorem blk8 {w : World} {g : Nat} {s : W8} {t : TypeId} (h : Blk w g (cells8 s) t) :
    w.cell? ⟨g, 0, none⟩ = some (.int .u32 (N32 s.a)) ∧ w.cell? ⟨g, 1, none⟩ = some (.int .u32 (N32 s.b)) ∧ w.cell? ⟨g, 2, none⟩ = some (.int .u32 (N32 s.c)) ∧ w.cell? ⟨g, 3, none⟩ = some (.int .u32 (N32 s.d)) ∧
    w.cell? ⟨g, 4, none⟩ = some (.int .u32 (N32 s.e)) ∧ w.cell? ⟨g, 5, none⟩ = some (.int .u32 (N32 s.f)) ∧ w.cell? ⟨g, 6, none⟩ = some (.int .u32 (N32 s.g)) ∧ w.cell? ⟨g, 7, none⟩ = some (.int .u32 (N32 s.h)) :=
  ⟨h.cell 0, h.cell 1, h.cell 2, h.cell 3, h.cell 4, h.cell 5, h.cell 6, h.cell 7⟩
theorem one8 (s : W8) : ∀ v ∈ (cells8 s).toList, v.oneCell' = true := by rw [cells8_arr]; exact arr32_one _ _
/-- Eight words loaded out of a block, and stored over one. -/
theorem wpList_load8 {w : World} {ops : Array Oper} {rest : List Oper} {o : Oper} {a : Act} {Q : Exit → Act → World → Prop} (hgd : o.guard = none) (x : Operand) (ho : o.op = .load 169 x)
    (g : Nat) (s : W8) (hx : a.eval x = .pointer (some ⟨g, 0, none⟩)) (hb : Blk w g (cells8 s) 169) (h : wpList Tryz.prog ops Q rest (a.put o.dst (agg8 s)) w) : wpList Tryz.prog ops Q (o :: rest) a w :=
  wpList_load_row hgd _ x ho g hx _ _ (0, 0) _ hb Tryz.underlying169 rfl (by rw [size8]; exact info_arr8) h
theorem wpList_store8 {w : World} {ops : Array Oper} {rest : List Oper} {o : Oper} {a : Act} {Q : Exit → Act → World → Prop} (hgd : o.guard = none) (x y : Operand) (ho : o.op = .store 169 x y)
    (g : Nat) (s z : W8) (hx : a.eval x = .pointer (some ⟨g, 0, none⟩)) (hy : a.eval y = agg8 s) (hb : Blk w g (cells8 z) 169)
    (h : ∀ w', w.grownBy w' (some g) → w'.heap.size = w.heap.size → Blk w' g (cells8 s) 169 → wpList Tryz.prog ops Q rest (a.put o.dst undef) w') : wpList Tryz.prog ops Q (o :: rest) a w :=
  wpList_store_row hgd _ x y ho g (cells8 s) (cells8 z) _ hx hy hb (by rw [size8, size8]) (by rw [size8]; exact info_arr8) (one8 s) h
theorem result8 {fn : Func} {p : Tmp} (h : fn.results = #[.cell p 169]) (tmps : Array Value) (w : World) (g : Nat) (s : W8)
    (hp : tmps.getD p undef = .pointer (some ⟨g, 0, none⟩)) (hb : Blk w g (cells8 s) 169) : (results fn tmps).run Tryz.prog w = .ok (agg8 s) w :=
  results_cell_row h tmps w g _ _ (0, 0) _ hp hb Tryz.underlying169 rfl (by rw [size8]; exact info_arr8)
theorem run_index64 (f : Nat → BitVec 32) (i : Nat) (h : i < 64) (w : World) : (Instr.index 171 (.agg (arr32 64 f)) (.int .i64 i)).run Tryz.prog w = .ok (.int .u32 (N32 (f i))) w := by
  have hc := arr32_get 64 f i h
  have hs := arr32_size 64 f
  generalize arr32 64 f = cs at hc hs
  have h1 : (Tryz.prog.info? 168).map (·.size) = some 1 := by kernel_rfl
  obtain ⟨ti, hti, hsz⟩ := Option.map_eq_some_iff.1 h1
  simp [Instr.index, run_underlying Tryz.underlying171, sizeOf, typeInfo, hti, hsz, h, go_sem]
  rw [hc]; rfl

def MixRel (w : World) (s : W8) (k m : Nat → BitVec 32) (i : Value) (wr : World) : Prop :=
  ∃ n : Nat, n ≤ 64 ∧ i = .int .i64 n ∧ Blk wr w.heap.size (cells8 s) 169 ∧ Blk wr (w.heap.size + 1) (arr32 64 k) 171 ∧ (∃ z, Blk wr (w.heap.size + 1 + 1) (cells8 z) 169) ∧
    Blk wr (w.heap.size + 1 + 1 + 1) (cells8 (shaRounds s k m n)) 169 ∧ Below w.heap.size w wr
def MixRel2 (w : World) (s t : W8) (i : Value) (wr : World) : Prop :=
  ∃ n : Nat, n ≤ 8 ∧ i = .int .i64 n ∧ Blk wr w.heap.size (arr32 8 (fun j => if j < n then s.get j + t.get j else s.get j)) 169 ∧ (∃ z, Blk wr (w.heap.size + 1 + 1) (cells8 z) 169) ∧
    Blk wr (w.heap.size + 1 + 1 + 1) (cells8 t) 169 ∧ Below w.heap.size w wr

set_option maxRecDepth 100000 in
set_option maxHeartbeats 1000000 in
theorem mix_any (w : World) (v : Value) (l : List UInt8) (s : W8) (k : Nat → BitVec 32) (hv : SeesB w v l) (hl : l.length = 64) :
    Calls Tryz.prog 108 #[agg8 s, v, .agg (arr32 64 k)] w fun e w' => e = .returned (agg8 (shaMix s k l)) ∧ Below w.heap.size w w' := by
  have HL := Lib.hid hl; clear hl
  go_enter Tryz.func108, Tryz.ntmps108
  go_wp2_with (go_at_call 154; refine (schedule_any _ _ l ((((hv.alloc (by decide) _).alloc (by decide) _).alloc (by decide) _).alloc (by decide) _) HL.out).mono ?_; rintro e w1 ⟨rfl, hb1⟩)
  have hA : Blk w1 w.heap.size (cells8 s) 169 := ((((Blk.new w _ _).alloc _).alloc _).alloc _).below hb1
  have hK : Blk w1 (w.heap.size + 1) (arr32 64 k) 171 := (((Blk.new2 w _ _ _).alloc _).alloc _).below hb1
  have hZ : Blk w1 (w.heap.size + 1 + 1) (cells8 ⟨0, 0, 0, 0, 0, 0, 0, 0⟩) 169 := ((Blk.new3 w _ _ _ _).alloc _).below hb1
  have hN : Blk w1 (w.heap.size + 1 + 1 + 1) (cells8 s) 169 := (Blk.new4 w _ _ _ _ _).below hb1
  have hbel : Below w.heap.size w w1 := Below.trans (by go_grown) (hb1.mono (by simp only [World.size_alloc]; omega))
  clear hb1
  go_loopw [14] (fun i wr => MixRel w s k (shaW (blkW l)) i wr) (fun i _ => 64 - (intOf i).toNat)
  case atStart => exact ⟨0, by omega, rfl, hA, hK, ⟨_, hZ⟩, hN, hbel⟩
  case round =>
    clear hA hK hZ hN hbel
    obtain ⟨n, hn, rfl, hA, hK, ⟨z, hZ⟩, hN, hbel⟩ := hrel
    by_cases hlt : n < 64
    · obtain ⟨c0, c1, c2, c3, c4, c5, c6, c7⟩ := blk8 hN
      have ck : wr.cell? ⟨w.heap.size + 1, n, none⟩ = some (.int .u32 (N32 (k n))) := by rw [hK.cell, arr32_get _ _ _ hlt]
      have hix := run_index64 (shaW (blkW l)) n hlt
      go_wp2_with fail
      refine wp_region_quiet_tail 6 (by kernel_rfl) (by kernel_rfl) ?_
      simp only [List.take_succ_cons, List.take_zero, List.drop_succ_cons, List.drop_zero]
      iterate 6 (go_big_quiet_step (fail))
      refine wpQuiet_nil ?_
      intro nr
      go_wp2_with (first
        | (go_at_call 155; refine (step_any _ _ _).mono ?_; rintro e w2 ⟨rfl, hb2⟩; have hN2 := Blk.below (hN.drewN nr) hb2)
        | (refine wpList_store8 rfl _ _ rfl (w.heap.size + 1 + 1 + 1) _ _ rfl rfl hN2 ?_; intro w3 hg3 hs3 hN3))
      go_roundw
      case rel =>
        have hbel2 := (below_drewN hbel nr).trans (hb2.mono (below_drewN hbel nr).size)
        exact ⟨n + 1, by omega, by go_num, ((hA.drewN nr).below hb2).grownBy hg3 (some_ne (by omega)), ((hK.drewN nr).below hb2).grownBy hg3 (some_ne (by omega)), ⟨z, ((hZ.drewN nr).below hb2).grownBy hg3 (some_ne (by omega))⟩, hN3,
          hbel2.grown hg3 hbel2.size (fun k hk => by cases hk; omega)⟩
      case measure => simp [intOf]; omega
    · obtain rfl : n = 64 := by omega
      generalize hT : shaRounds s k (shaW (blkW l)) 64 = T at hN
      have HT := Lib.hid hT; clear hT
      go_wp2_with fail
      go_loopw [26] (fun i wr => MixRel2 w s T i wr) (fun i _ => 8 - (intOf i).toNat)
      case atStart => exact ⟨0, by omega, rfl, hA, ⟨z, hZ⟩, hN, hbel⟩
      case round =>
        clear hA hZ hN hbel hK
        obtain ⟨n, hn, rfl, hA, ⟨z, hZ⟩, hN, hbel⟩ := hrel
        by_cases hlt : n < 8
        · have cA : wr.cell? ⟨w.heap.size, n, none⟩ = some (.int .u32 (N32 (s.get n))) := by rw [hA.cell, arr32_get _ _ _ hlt, if_neg (by omega)]
          have cN : wr.cell? ⟨w.heap.size + 1 + 1 + 1, n, none⟩ = some (.int .u32 (N32 (T.get n))) := by rw [hN.cell, cells8_arr, arr32_get _ _ _ hlt]
          have fA := hA.free n
          go_wp2_with fail
          refine wp_region_quiet_tail 8 (by kernel_rfl) (by kernel_rfl) ?_
          simp only [List.take_succ_cons, List.take_zero, List.drop_succ_cons, List.drop_zero]
          iterate 8 (go_big_quiet_step (fail))
          refine wpQuiet_nil ?_
          intro nr
          go_wp2_with fail
          go_roundw
          case rel =>
            refine ⟨n + 1, by omega, by go_num, ?_, ⟨z, (hZ.setCell _ _ (by simp only; omega)).drewN nr⟩, (hN.setCell _ _ (by simp only; omega)).drewN nr, below_drewN (hbel.setCell (by simp only; omega) _) nr⟩
            have := hA.set n (.int .u32 (N32 (s.get n + T.get n)))
            rw [arr32_set] at this
            rw [arr32_congr (g := fun j => if j = n then s.get n + T.get n else if j < n then s.get j + T.get j else s.get j)]
            · exact this.drewN nr
            · intro j _
              by_cases e : j = n
              · subst e; simp
              · by_cases e2 : j < n
                · simp [e, e2, show j < n + 1 from by omega]
                · simp [e, e2, show ¬ j < n + 1 from by omega]
          case measure => simp [intOf]; omega
        · obtain rfl : n = 8 := by omega
          have eA : arr32 8 (fun j => if j < 8 then s.get j + T.get j else s.get j) = cells8 (s.add T) := by
            rw [← add8_arr]; exact arr32_congr fun i hi => by simp [hi]
          rw [eA] at hA; clear eA
          go_wp2_with (first
            | (refine wpList_load8 rfl _ rfl w.heap.size _ rfl hA ?_)
            | (refine wpList_store8 rfl _ _ rfl (w.heap.size + 1 + 1) _ _ rfl rfl hZ ?_; intro w2 hg2 hs2 hR2))
          refine bodyPost_ret (result8 Tryz.results108 _ _ (w.heap.size + 1 + 1) _ rfl hR2) rfl ⟨?_, hbel.grown hg2 hbel.size (fun k hk => ?_)⟩
          · show Ending.returned (agg8 (s.add T)) = Ending.returned (agg8 (shaMix s k l))
            unfold shaMix; rw [HT.out]
          · cases hk; omega
end Go.Proofs.YtbgnfioggmkdeaaGreatDoor
namespace Go.Proofs.YtbgnfioggmkdeaaGreatDoor
set_option linter.unusedVariables false
set_option linter.unusedSimpArgs false
open Go Go.RowKit

set_option maxRecDepth 100000 in
set_option maxHeartbeats 1000000 in
theorem first_any (w : World) : Calls Tryz.prog 105 #[] w fun e w' => e = .returned (agg8 shaInit) ∧ Below w.heap.size w w' := by
  rw [show agg8 shaInit = .agg (cells8 shaInit) from rfl, shaInit_arr]
  go_enter Tryz.func105, Tryz.ntmps105
  go_wp2
  exact bodyPost_ret (v := .agg _) (by simp [results, Tryz.results105, go_sem]) rfl ⟨rfl, by go_grown⟩

set_option maxRecDepth 100000 in
set_option maxHeartbeats 1000000 in
theorem numbers_any (w : World) : Calls Tryz.prog 106 #[] w fun e w' => e = .returned (.agg (arr32 64 shaK)) ∧ Below w.heap.size w w' := by
  go_enter Tryz.func106, Tryz.ntmps106
  have hz : Blk (w.alloc (.cells (arr32 64 (fun _ => 0)) 171)) w.heap.size (arr32 64 (fun _ => 0)) 171 := Blk.new w _ _
  rw [arr32_zero64] at hz
  have HZ := Lib.hid hz; clear hz
  go_wp2_with (refine wpList_store_row rfl 171 _ _ rfl w.heap.size (arr32 64 shaK) _ _ rfl (by rw [shaK_arr]; rfl) HZ.out (by rw [arr32_size]; rfl) (by rw [arr32_size]; exact info_arr64) (arr32_one _ _) ?_; intro w2 hg2 hs2 hR2)
  refine bodyPost_ret (results_cell_row Tryz.results106 _ _ w.heap.size _ _ (0, 0) _ rfl hR2 Tryz.underlying171 rfl (by rw [arr32_size]; exact info_arr64)) rfl ⟨rfl, Below.grown (by go_grown) hg2 (by simp only [World.size_alloc]; omega) (fun k hk => ?_)⟩
  cases hk; exact Nat.le_refl _
end Go.Proofs.YtbgnfioggmkdeaaGreatDoor
namespace Go.Proofs.YtbgnfioggmkdeaaGreatDoor
set_option linter.unusedVariables false
set_option linter.unusedSimpArgs false
open Go Go.RowKit

theorem seesB_one (w : World) (b : UInt8) (t : TypeId) : SeesB (w.alloc (.cells #[BV b] t)) (.slice (some ⟨w.heap.size, 0, none⟩) 1 1) [b] :=
  seesB_lit w [BV b] t [b] 1 rfl rfl (by decide)

def PadRel (w : World) (l : List UInt8) (v : Value) (wr : World) : Prop :=
  ∃ z : Nat, z ≤ padN l.length ∧ OwnB wr w.heap.size v (l ++ [128] ++ List.replicate z 0) ∧ Below w.heap.size w wr

set_option maxRecDepth 100000 in
set_option maxHeartbeats 1000000 in
theorem padded_any (w : World) (v : Value) (l : List UInt8) (hv : SeesB w v l) (hl : l.length ≤ 70368744177000) :
    Calls Tryz.prog 107 #[v] w (RetB (shaPad l) w) := by
  obtain ⟨a0, c0, rfl, hac0, hc0⟩ := sees_form hv
  go_enter Tryz.func107, Tryz.ntmps107
  go_wp2_with (at_builtin; first
    | (refine appB (W := w) rfl _ _ rfl v1 l rfl (hown1.alloc _) _ [128] rfl (seesB_one _ 128 _) (by simp only [List.length_cons, List.length_nil]; omega) (hb1.alloc hb1.size _) ?_; intro v2 w2 hown2 hgr2 hb2)
    | (refine appB (W := w) rfl _ _ rfl (.slice none 0 0) [] rfl (ownB_nil _ _) _ l rfl hv (by simp only [List.length_nil]; omega) (Below.refl _ _) ?_; intro v1 w1 hown1 hgr1 hb1))
  go_loopw [3] (fun v wr => PadRel w l v wr) (fun v _ => 70368744177664 - lenV v)
  case atStart => exact ⟨0, by omega, by simpa using hown2, hb2⟩
  case round =>
    clear hown1 hown2 hgr1 hgr2 hb1 hb2
    obtain ⟨z, hz, hown, hbel⟩ := hrel
    obtain ⟨a, c, rfl, hac, hc⟩ := owns_form hown
    have HO := Lib.hid hown; clear hown
    have hN2 : (l ++ [128] ++ List.replicate z 0).length = l.length + 1 + z := by simp; omega
    have hp : padN l.length = (119 - l.length % 64) % 64 := rfl
    generalize hN : (l ++ [128] ++ List.replicate z 0).length = N at hN2 hac ⊢
    have HN := Lib.hid hN; clear hN
    have hb : N < 70368744177200 := by omega
    by_cases hlt : z < padN l.length
    · have ht : ((N : Int) % 64 != 56) = true := by rw [bne_iff_ne]; omega
      have HN2 := Lib.hid hN2; have HP := Lib.hid hp; clear hN2 hp
      go_wp2_with (at_builtin; refine appB (W := w) rfl _ _ rfl (.slice a N c) (l ++ [128] ++ List.replicate z 0) rfl (by rw [← HN.out]; exact HO.out.alloc _) _ [0] rfl (seesB_one _ 0 _) (by rw [HN.out]; simp only [List.length_cons, List.length_nil]; omega) (hbel.alloc hbel.size _) ?_; intro v3 w3 hown3 hgr3 hb3)
      have hfin : PadRel w l v3 w3 := ⟨z + 1, by omega, by
        rw [show l ++ [128] ++ List.replicate (z + 1) 0 = l ++ [128] ++ List.replicate z 0 ++ [0] from by rw [List.replicate_succ', List.append_assoc]; simp [List.append_assoc]]
        exact hown3, hb3⟩
      obtain ⟨a3, c3, rfl, hac3, hc3⟩ := owns_form hown3
      refine ⟨hfin, ?_⟩
      show 70368744177664 - (l ++ [128] ++ List.replicate z 0 ++ [0]).length < 70368744177664 - N
      rw [List.length_append, HN.out]; simp only [List.length_cons, List.length_nil]; omega
    · obtain rfl : z = padN l.length := by omega
      have ht : ((N : Int) % 64 != 56) = false := by rw [bne_eq_false_iff_eq]; omega
      have HN2 := Lib.hid hN2; have HP := Lib.hid hp; clear hN2 hp
      go_wp2_with fail
      refine (Put64_any _ _ (l ++ [128] ++ List.replicate (padN l.length) 0) _ (by rw [← HN.out]; exact sees_of_owns HO.out) (by omega) (by omega) (by rw [HN.out]; omega)).mono ?_
      rintro e w2 ⟨v2, rfl, hown2, hb2⟩
      go_wp2_with fail
      go_ret
      refine ⟨v2, rfl, ?_, hbel.trans (hb2.mono hbel.size)⟩
      have := owns_mono hown2 hbel.size
      unfold shaPad
      rwa [show ((l.length : Int) * 8).toNat = l.length * 8 from by omega] at this
end Go.Proofs.YtbgnfioggmkdeaaGreatDoor
namespace Go.Proofs.YtbgnfioggmkdeaaGreatDoor
set_option linter.unusedVariables false
set_option linter.unusedSimpArgs false
open Go Go.RowKit

theorem info_key : (Tryz.prog.info? 24).map (·.size) = some 32 := by kernel_rfl
theorem under_key : Tryz.prog.underlying 24 = some (.array 32 5) := Tryz.underlying24
theorem run_index8 (f : Nat → BitVec 32) (i : Nat) (h : i < 8) (w : World) : (Instr.index 169 (.agg (arr32 8 f)) (.int .i64 i)).run Tryz.prog w = .ok (.int .u32 (N32 (f i))) w := by
  have hc := arr32_get 8 f i h
  generalize arr32 8 f = cs at hc
  have h1 : (Tryz.prog.info? 168).map (·.size) = some 1 := by kernel_rfl
  obtain ⟨ti, hti, hsz⟩ := Option.map_eq_some_iff.1 h1
  simp [Instr.index, run_underlying Tryz.underlying169, sizeOf, typeInfo, hti, hsz, h, go_sem]
  rw [hc]; rfl
theorem run_arrayAt (a : Addr) (c : Nat) (w : World) : (Instr.arrayAt 24 (.slice (some a) 32 c)).run Tryz.prog w = .ok (.pointer (some a)) w := by
  simp [Instr.arrayAt, run_underlying under_key, go_sem]
theorem keyA_one (l : List UInt8) : ∀ u ∈ (keyA l).toList, u.oneCell' = true := by simpa [keyA] using one_BV l

def SumRel (w : World) (B : Nat) (v5 : Value) (p : List UInt8) (i : Value) (wr : World) : Prop :=
  ∃ n m : Nat, i = .int .i64 m ∧ Hid (m = 64 * n) ∧ m ≤ p.length ∧ Blk wr B (cells8 (shaBlocks p n)) 169 ∧ Blk wr (B + 1) (arr32 64 shaK) 171 ∧ SeesB wr v5 p ∧
    Blk wr w.heap.size (keyA (List.replicate 32 0)) 24 ∧ Below w.heap.size w wr
def SumRel2 (w : World) (s : W8) (i v : Value) (wr : World) : Prop :=
  ∃ n : Nat, n ≤ 8 ∧ i = .int .i64 n ∧ SeesB wr v (bytes8 s n) ∧ Blk wr w.heap.size (keyA (List.replicate 32 0)) 24 ∧ Below w.heap.size w wr

set_option maxRecDepth 100000 in
set_option maxHeartbeats 1000000 in
theorem Sum_any (w : World) (v : Value) (l : List UInt8) (hv : SeesB w v l) (hl : l.length ≤ 70368744177000) :
    Calls Tryz.prog 68 #[v] w fun e w' => e = .returned (.agg (keyA (sha l))) ∧ Below w.heap.size w w' := by
  have hpm := shaPad_mod l
  have hpl : (shaPad l).length ≤ 70368744177200 := by rw [length_shaPad]; unfold padN; omega
  unfold sha
  generalize hp : shaPad l = p at hpm hpl ⊢
  have HP := Lib.hid hp; clear hp
  have HM := Lib.hid hpm; clear hpm
  go_enter Tryz.func68, Tryz.ntmps68
  go_wp2_with fail
  refine (first_any _).mono ?_; rintro e w1 ⟨rfl, hb1⟩
  go_wp2_with fail
  refine (numbers_any _).mono ?_; rintro e w2 ⟨rfl, hb2⟩
  have hk : Blk w1 w.heap.size (keyA (List.replicate 32 0)) 24 := by rw [keyA_zero]; exact (Blk.new w _ _).below hb1
  have hbel1 : Below w.heap.size w w1 := Below.trans (by go_grown) (hb1.mono (by simp only [World.size_alloc]; omega))
  have hlt : w.heap.size < w1.heap.size := hk.lt
  clear hb1
  have hbel2 : Below w.heap.size w w2 := hbel1.trans (hb2.mono hbel1.size)
  have hk2 := hk.below hb2
  have hs2 := hb2.size
  clear hb2 hk hbel1
  have hs2' : w1.heap.size ≤ w2.heap.size := hs2
  go_wp2_with (refine wpList_store_row rfl 171 _ _ rfl (w2.heap.size + 1) (arr32 64 shaK) (arr32 64 (fun _ => 0)) 171 rfl rfl (by rw [arr32_zero64]; exact Blk.new2 _ _ _ _) (by rw [arr32_size, arr32_size]) (by rw [arr32_size]; exact info_arr64) (arr32_one _ _) ?_; intro w3 hg3 hs3 hK3)
  have hN3 : Blk w3 w2.heap.size (cells8 shaInit) 169 := Blk.grownBy ((Blk.new w2 _ _).alloc _) hg3 (some_ne (by omega))
  have hk3 : Blk w3 w.heap.size (keyA (List.replicate 32 0)) 24 := ((hk2.alloc _).alloc _).grownBy hg3 (some_ne (by omega))
  have hbel3 : Below w.heap.size w w3 := Below.grown (B := w.heap.size) ((hbel2.alloc hbel2.size _).alloc (by simp only [World.size_alloc]; omega) _) hg3 (by simp only [World.size_alloc]; omega) (fun k hk => by cases hk; omega)
  clear hg3 hs3 hbel2 hk2 hs2
  go_wp2_with fail
  refine (padded_any _ _ l (hv.below hbel3 (by decide)) hl).mono ?_; rintro e w4 ⟨v5, rfl, hown5, hb4⟩
  have hN4 := hN3.below hb4; have hK4 := hK3.below hb4; have hk4 := hk3.below hb4
  have hbel4 : Below w.heap.size w w4 := hbel3.trans (hb4.mono hbel3.size)
  have hv5 := sees_of_owns hown5
  have hne : v5.ownBlock ≠ some w2.heap.size := fun e => by have := (hown5.lt _ e).1; have := hN3.lt; omega
  have hw2 : w.heap.size < w2.heap.size := Nat.lt_of_lt_of_le hlt hs2'
  clear hN3 hK3 hk3 hbel3 hb4 hown5 hv
  rw [HP.out] at hv5
  obtain ⟨a5, c5, rfl, hac5, hc5⟩ := sees_form hv5
  go_wp2_with fail
  go_loopw [6] (fun i wr => SumRel w w2.heap.size (.slice a5 p.length c5) p i wr) (fun i _ => p.length - (intOf i).toNat)
  case atStart => exact ⟨0, 0, rfl, Lib.hid rfl, by omega, hN4, hK4, hv5, hk4, hbel4⟩
  case round =>
    clear hN4 hK4 hv5 hk4 hbel4
    obtain ⟨n, m, rfl, HMN, hmp, hN, hK, hv5, hk, hbel⟩ := hrel
    have hpos : m < p.length → m + 64 ≤ p.length := fun h => by have := HM.out; have := HMN.out; omega
    by_cases hlt2 : m < p.length
    · have hp64 := hpos hlt2; clear hpos
      obtain ⟨c0, c1, c2, c3, c4, c5', c6, c7⟩ := blk8 hN
      go_wp2_with fail
      refine wp_region_quiet_tail 7 (by kernel_rfl) (by kernel_rfl) ?_
      simp only [List.take_succ_cons, List.take_zero, List.drop_succ_cons, List.drop_zero]
      iterate 7 (first | (refine wpQuiet_load_row rfl 171 _ rfl (w2.heap.size + 1) rfl _ _ (0, 0) _ (fun w_ hw_ => by obtain ⟨q_, rfl⟩ := hw_; exact hK) Tryz.underlying171 rfl (by rw [arr32_size]; exact info_arr64) ?_) | go_big_quiet_step (fail))
      refine wpQuiet_nil ?_
      intro nr
      go_wp2_with (first
        | (go_at_call 108; refine (mix_any _ _ ((p.drop m).take 64) _ _ (seesB_sub (hv5.drewN nr) m 64 hp64 (by omega)) (by simp; omega)).mono ?_; rintro e w5 ⟨rfl, hb5⟩; have hN5 := Blk.below (hN.drewN nr) hb5)
        | (refine wpList_store8 rfl _ _ rfl w2.heap.size _ _ rfl rfl hN5 ?_; intro w6 hg6 hs6 hN6))
      go_roundw
      case rel =>
        have hbel5 := (below_drewN hbel nr).trans (hb5.mono (below_drewN hbel nr).size)
        have hbel6 := hbel5.grown hg6 hbel5.size (fun k hk => by cases hk; omega)
        refine ⟨n + 1, m + 64, by go_num, Lib.hid (by rw [HMN.out]; omega), by omega, ?_, ((hK.drewN nr).below hb5).grownBy hg6 (some_ne (by omega)), ?_, ((hk.drewN nr).below hb5).grownBy hg6 (some_ne (by omega)), hbel6⟩
        · have := hN6; rw [HMN.out] at this; exact this
        · exact ((hv5.drewN nr).below hb5 (by decide)).grownBy hg6 (by decide) (Or.inr hne)
      case measure => simp [intOf]; omega
    · obtain rfl : m = p.length := by omega
      have hn64 : n = p.length / 64 := by have := HMN.out; omega
      rw [hn64] at hN
      clear hn64 HMN hpos
      generalize hs : shaBlocks p (p.length / 64) = s at hN
      have HS := Lib.hid hs; clear hs
      go_wp2_with (refine wpList_load8 rfl _ rfl w2.heap.size _ rfl hN ?_)
      go_loopw [29, 7] (fun i v wr => SumRel2 w s i v wr) (fun i _ _ => 8 - (intOf i).toNat)
      case atStart => exact ⟨0, by omega, rfl, Sees.nil _ _, hk, hbel⟩
      case round =>
        clear hN hK hv5 hk hbel
        obtain ⟨n, hn, rfl, hv, hk, hbel⟩ := hrel
        by_cases hlt : n < 8
        · have hix := run_index8 s.get n hlt
          rw [← cells8_arr] at hix
          have hlen := length_bytes8 s n
          have HL := Lib.hid hlen; clear hlen
          go_wp2_with (go_at_call 109; refine (Put32_any _ _ (bytes8 s n) _ hv (N32_nonneg _) (N32_lt _) (by rw [HL.out]; omega)).mono ?_; rintro e w5 ⟨v6, rfl, hown6, hb6⟩)
          go_roundw
          case rel =>
            refine ⟨n + 1, by omega, by go_num, ?_, hk.below hb6, hbel.trans (hb6.mono hbel.size)⟩
            rw [bytes8_succ]
            have := sees_of_owns hown6
            rwa [show (N32 (s.get n)).toNat = (s.get n).toNat from by unfold N32; simp] at this
          case measure => simp [intOf]; omega
        · obtain rfl : n = 8 := by omega
          have hl32 : (bytes8 s 8).length = 32 := length_bytes8 s 8
          obtain ⟨b, o, c, rfl, hc1, hc2, hr⟩ := seesB_open hv (by rw [hl32]; omega)
          rw [hl32] at hc1 ⊢
          have HL := Lib.hid hl32; clear hl32
          have HR := Lib.hid hr; clear hr
          have hat := run_arrayAt ⟨b, o, none⟩ c
          go_wp2_with (first
            | (refine wpList_load_mid rfl 24 _ rfl b o rfl ((bytes8 s 8).map BV) _ HR.out under_key rfl (by rw [List.length_map, HL.out]; exact info_key) ?_)
            | (refine wpList_store_row rfl 24 _ _ rfl w.heap.size (keyA (bytes8 s 8)) _ _ rfl rfl hk (by rw [keyA_size, keyA_size, HL.out]; rfl) (by rw [keyA_size, HL.out]; exact info_key) (keyA_one _) ?_; intro w7 hg7 hs7 hR7))
          refine bodyPost_ret (results_cell_row Tryz.results68 _ _ w.heap.size _ _ (0, 0) _ rfl hR7 under_key rfl (by rw [keyA_size, HL.out]; exact info_key)) rfl ⟨?_, hbel.grown hg7 hbel.size (fun k hk => ?_)⟩
          · rw [HS.out]
          · cases hk; exact Nat.le_refl _
end Go.Proofs.YtbgnfioggmkdeaaGreatDoor
namespace Go.Proofs.YtbgnfioggmkdeaaGreatDoor
set_option linter.unusedVariables false
set_option linter.unusedSimpArgs false
open Go Go.RowKit

def PartsRel (w : World) (ll : List (List UInt8)) (i v : Value) (wr : World) : Prop :=
  ∃ k : Nat, k ≤ ll.length ∧ i = .int .i64 k ∧ SeesB wr v (flatP (ll.take k)) ∧ (∃ z, Blk wr w.heap.size z 24 ∧ z.size = 32) ∧ Below w.heap.size w wr

set_option maxRecDepth 100000 in
set_option maxHeartbeats 1000000 in
theorem Parts_any (w : World) (v : Value) (ll : List (List UInt8)) (hv : SeesBB w v ll) (hl : (flatP ll).length ≤ 70368744177000) :
    Calls Tryz.prog 157 #[v] w fun e w' => e = .returned (.agg (keyA (parts ll))) ∧ Below w.heap.size w w' := by
  have HV := Lib.hid hv
  obtain ⟨vs, hvs, hel⟩ := hv
  obtain ⟨a0, c0, rfl, hac0, hc0⟩ := sees_form hvs
  have HE := Lib.hid hel; clear hel
  go_enter Tryz.func157, Tryz.ntmps157
  go_wp2_with fail
  go_loopw [8, 3] (fun i v wr => PartsRel w ll i v wr) (fun i _ _ => ll.length - (intOf i).toNat)
  case atStart => exact ⟨0, by omega, rfl, Sees.nil _ _, ⟨_, Blk.new w _ _, rfl⟩, by go_grown⟩
  case round =>
    obtain ⟨k, hk, rfl, hb, ⟨z, hz, hzs⟩, hbel⟩ := hrel
    by_cases hlt : k < ll.length
    · obtain ⟨hl1, a1, c1, he1, hn1, hm1, hnc1, hcellx⟩ := hvs.below hbel (by decide)
      cases he1
      obtain ⟨b, o, rfl, hcell⟩ := hcellx (by omega)
      clear hcellx
      have hx : vs[k]? = some (vs[k]'(by omega)) := List.getElem?_eq_getElem _
      have hcx := hcell k _ hx
      have hsx := (HE.out k (ll[k]) _ (List.getElem?_eq_getElem hlt) hx).below hbel (by decide)
      clear hcell
      have HX := Lib.hid hx; clear hx
      generalize vs[k]'(by omega) = vx at hcx hsx
      obtain ⟨ax, cx, rfl, hacx, hcx2⟩ := sees_form hsx
      have hsn : flatP (ll.take (k + 1)) = flatP (ll.take k) ++ put64 (ll[k]).length ++ ll[k] := by
        rw [List.take_succ_eq_append_getElem hlt, flatP_snoc]
      have hle := flatP_take_le ll (k + 1)
      rw [hsn] at hle; simp only [List.length_append, length_put64] at hle
      have HSN := Lib.hid hsn; clear hsn
      go_wp2_with (first
        | (go_at_call 110; refine (Put64_any _ _ (flatP (ll.take k)) _ hb (by omega) (by omega) (by omega)).mono ?_; rintro e w5 ⟨v6, rfl, hown6, hb6⟩)
        | (at_builtin; refine appB (W := wr) rfl _ _ rfl v6 _ rfl hown6 _ (ll[k]) rfl (hsx.below hb6 (by decide)) (by simp only [List.length_append, length_put64]; omega) hb6 ?_; intro v7 w7 hown7 hgr7 hb7))
      go_roundw
      case rel =>
        refine ⟨k + 1, by omega, by go_num, ?_, ⟨z, hz.below hb7, hzs⟩, hbel.trans (hb7.mono hbel.size)⟩
        rw [HSN.out]
        have := sees_of_owns hown7
        rwa [show ((ll[k].length : Int)).toNat = ll[k].length from by omega] at this
      case measure => simp [intOf]; omega
    · obtain rfl : k = ll.length := by omega
      rw [List.take_length] at hb
      go_wp2_with (first
        | (go_at_call 68; refine (Sum_any _ _ (flatP ll) hb hl).mono ?_; rintro e w5 ⟨rfl, hb5⟩; have hz5 := hz.below hb5)
        | (refine wpList_store_row rfl 24 _ _ rfl w.heap.size (keyA (sha (flatP ll))) _ _ rfl rfl hz5 (by rw [hzs, keyA_size, length_sha]) (by rw [keyA_size, length_sha]; exact info_key) (keyA_one _) ?_; intro w7 hg7 hs7 hR7))
      have hbel5 := hbel.trans (hb5.mono hbel.size)
      refine bodyPost_ret (results_cell_row Tryz.results157 _ _ w.heap.size _ _ (0, 0) _ rfl hR7 under_key rfl (by rw [keyA_size, length_sha]; exact info_key)) rfl ⟨rfl, hbel5.grown hg7 hbel5.size (fun k hk => ?_)⟩
      cases hk; exact Nat.le_refl _
end Go.Proofs.YtbgnfioggmkdeaaGreatDoor
namespace Go.Proofs.YtbgnfioggmkdeaaGreatDoor
set_option linter.unusedVariables false
set_option linter.unusedSimpArgs false
open Go Go.RowKit

/-- From w to u nothing that w has is touched. -/
def Ext (w u : World) : Prop := Below w.heap.size w u
theorem Ext.refl (w : World) : Ext w w := Below.refl _ _
theorem Ext.tr {a b c : World} (h : Ext a b) (k : Ext b c) : Ext a c := Below.trans h (Below.mono k (Below.size h))
/-- From w to u nothing that w has is touched but the block g. -/
def ExtG (g : Option Nat) (w u : World) : Prop := w.grownBy u g
theorem ExtG.refl (g : Option Nat) (w : World) : ExtG g w w := grownBy_refl _ _
theorem ExtG.tr {g : Option Nat} {a b c : World} (h : ExtG g a b) (k : ExtG g b c) : ExtG g a c :=
  ⟨k.os.trans h.os, k.tape.trans h.tape, k.output.trans h.output, Nat.le_trans h.size k.size, fun i hi hne => (k.block i (Nat.lt_of_lt_of_le hi h.size) hne).trans (h.block i hi hne)⟩
theorem Ext.g {w u : World} (h : Ext w u) (g : Option Nat) : ExtG g w u := ⟨h.os, h.tape, h.output, h.size, fun k hk _ => h.block k hk⟩
theorem Ext.alloc (w : World) (o : Obj) : Ext w (w.alloc o) := show Below _ _ _ from by go_grown
theorem Ext.drew (w : World) : Ext w w.drew := Below.drew (Below.refl _ _)

/-- From w to u every key's block is as it was. -/
def KeepK (w u : World) : Prop := ∀ g cs, Blk w g cs 24 → Blk u g cs 24
theorem KeepK.refl (w : World) : KeepK w w := fun _ _ h => h
theorem KeepK.tr {a b c : World} (h : KeepK a b) (k : KeepK b c) : KeepK a c := fun g cs x => k g cs (h g cs x)
theorem Ext.k {w u : World} (h : Ext w u) : KeepK w u := fun _ _ x => x.below h
theorem KeepK.app {w u : World} {B : Nat} {v : Value} {l : List UInt8} (hown : OwnB w B v l) (hg : w.grownBy u v.ownBlock) : KeepK w u := fun g cs x => x.grownBy hg (fun e => by
  rcases hown.2 with ⟨rfl, _⟩ | ⟨g', cap, cur, rfl, _, hh, _⟩
  · cases e
  · have : g = g' := Option.some.inj e
    subst this
    unfold Blk at x
    rw [x] at hh
    injection hh with h1
    injection h1 with _ h2 _
    exact absurd h2 (by decide))
/-- A new variable, its block named. -/
theorem wpList_allocB {P : Program} {ops : Array Oper} {rest : List Oper} {o : Oper} {a : Act} {w : World} {Q : Exit → Act → World → Prop} (hgd : o.guard = none) (ty : TypeId) (ho : o.op = .alloc ty)
    (cs : Array Value) (hrun : ∀ w : World, (Instr.alloc ty true (.tuple #[])).run P w = .ok (.pointer (some ⟨w.heap.size, 0, none⟩)) (w.alloc (.cells cs ty)))
    (h : ∀ w' B, Blk w' B cs ty → w.heap.size ≤ B → Ext w w' → wpList P ops Q rest (a.put o.dst (.pointer (some ⟨B, 0, none⟩))) w') : wpList P ops Q (o :: rest) a w := by
  refine wpList_plain hgd fun K hK => ?_
  unfold Oper.wp
  simp only [execOp, ho, Sem.run_bind, hrun, Result.andThen_ok, Sem.run_pure]
  exact hK _ _ (h _ _ (Blk.new _ _ _) (Nat.le_refl _) (Ext.alloc _ _))
theorem run_allocKey (w : World) : (Instr.alloc 24 true (.tuple #[])).run Tryz.prog w = .ok (.pointer (some ⟨w.heap.size, 0, none⟩)) (w.alloc (.cells (keyA (List.replicate 32 0)) 24)) := by
  rw [keyA_zero]; simp [go_sem]
/-- A literal of one byte, its block named. -/
theorem wpList_lit1 {ops : Array Oper} {rest : List Oper} {o : Oper} {a : Act} {w : World} {Q : Exit → Act → World → Prop} (hgd : o.guard = none) (x : Operand) (ho : o.op = .buildSlice 44 1 #[(0, x)]) (b : UInt8) (hx : a.eval x = BV b)
    (h : ∀ w' B, SeesB w' (.slice (some ⟨B, 0, none⟩) 1 1) [b] → w.heap.size ≤ B → Ext w w' → wpList Tryz.prog ops Q rest (a.put o.dst (.slice (some ⟨B, 0, none⟩) 1 1)) w') : wpList Tryz.prog ops Q (o :: rest) a w := by
  have hrun : (Instr.buildSlice 44 1 #[(0, BV b)]).run Tryz.prog w = .ok (.slice (some ⟨w.heap.size, 0, none⟩) 1 1) (w.alloc (.cells #[BV b] 5)) := by simp [go_sem]
  refine wpList_plain hgd fun K hK => ?_
  unfold Oper.wp
  simp only [execOp, ho, List.map_toArray, List.map_cons, List.map_nil, hx, Sem.run_bind, hrun, Result.andThen_ok, Sem.run_pure]
  exact hK _ _ (h _ _ (seesB_one _ _ _) (Nat.le_refl _) (Ext.alloc _ _))
end Go.Proofs.YtbgnfioggmkdeaaGreatDoor
namespace Go.Proofs.YtbgnfioggmkdeaaGreatDoor
set_option linter.unusedVariables false
set_option linter.unusedSimpArgs false
open Go Go.RowKit
attribute [local go_sem] bits32_and bits32_or bits32_xor bits32_not add32 add32' shr32_3 shr32_10 u32_unsigned

def MixedRel1 (w : World) (s : W8) (f : Nat → BitVec 32) (i : Value) (wr : World) : Prop :=
  ∃ n : Nat, 16 ≤ n ∧ n ≤ 64 ∧ i = .int .i64 n ∧ Blk wr w.heap.size (cells8 s) 169 ∧ Blk wr (w.heap.size + 1) (arr32 64 (fun j => if j < n then shaW f j else f j)) 171 ∧
    (∃ z, Blk wr (w.heap.size + 1 + 1) (cells8 z) 169) ∧ Below w.heap.size w wr

def MixedRel2 (w : World) (B : Nat) (s : W8) (f k : Nat → BitVec 32) (i : Value) (wr : World) : Prop :=
  ∃ n : Nat, n ≤ 64 ∧ i = .int .i64 n ∧ Blk wr w.heap.size (cells8 s) 169 ∧ Blk wr (w.heap.size + 1) (arr32 64 (shaW f)) 171 ∧
    (∃ z, Blk wr (w.heap.size + 1 + 1) (cells8 z) 169) ∧ Blk wr B (cells8 (shaRounds s k (shaW f) n)) 169 ∧ Below w.heap.size w wr
def MixedRel3 (w0 : World) (B : Nat) (T : W8) (j : Value) (wr : World) : Prop :=
  ∃ m : Nat, m ≤ 7 ∧ j = .int .i64 m ∧ w0.grownBy wr (some B) ∧ Blk wr B (arr32 8 (fun i => if i ≤ m then T.get i else T.get (i - 1))) 169
def MixedRel4 (w : World) (B : Nat) (s T : W8) (i : Value) (wr : World) : Prop :=
  ∃ n : Nat, n ≤ 8 ∧ i = .int .i64 n ∧ Blk wr w.heap.size (cells8 s) 169 ∧ (∃ z, Blk wr (w.heap.size + 1 + 1) (cells8 z) 169) ∧
    Blk wr B (arr32 8 (fun j => if j < n then s.get j + T.get j else T.get j)) 169 ∧ Below w.heap.size w wr
theorem mixed_put {wr : World} {g n : Nat} {t : TypeId} {f : Nat → BitVec 32} (h : Blk wr g (arr32 64 (fun j => if j < n then shaW f j else f j)) t) :
    Blk (wr.setCell ⟨g, n, none⟩ (.int .u32 (N32 (shaW f n)))) g (arr32 64 (fun j => if j < n + 1 then shaW f j else f j)) t := by
  have := h.set n (.int .u32 (N32 (shaW f n)))
  rw [arr32_set] at this
  rw [arr32_congr (g := fun j => if j = n then shaW f n else if j < n then shaW f j else f j)]
  · exact this
  · intro j _
    by_cases e : j = n
    · subst e; simp
    · by_cases e2 : j < n
      · simp [e, e2, show j < n + 1 from by omega]
      · simp [e, e2, show ¬ j < n + 1 from by omega]

theorem mixed_step (T : W8) (k m : BitVec 32) : cells8 (shaStep T (k + m)) = ((cells8 ⟨T.a, T.a, T.b, T.c, T.d, T.e, T.f, T.g⟩).setIfInBounds 4 (.int .u32 (N32 (T.d + (T.h + (T.e.rotateRight 6 ^^^ T.e.rotateRight 11 ^^^ T.e.rotateRight 25) + (T.e &&& T.f ^^^ ~~~T.e &&& T.g) + k + m))))).setIfInBounds 0
    (.int .u32 (N32 (T.h + (T.e.rotateRight 6 ^^^ T.e.rotateRight 11 ^^^ T.e.rotateRight 25) + (T.e &&& T.f ^^^ ~~~T.e &&& T.g) + k + m + ((T.a.rotateRight 2 ^^^ T.a.rotateRight 13 ^^^ T.a.rotateRight 22) + (T.a &&& T.b ^^^ T.a &&& T.c ^^^ T.b &&& T.c))))) := by
  have e : ∀ X : BitVec 32, X + (k + m) = X + k + m := fun X => (BitVec.add_assoc X k m).symm
  simp only [shaStep, e, cells8, List.setIfInBounds_toArray, List.set_cons_zero, List.set_cons_succ]
set_option maxRecDepth 100000 in
set_option maxHeartbeats 1000000 in
theorem mixed_any (w : World) (v : Value) (s : W8) (f k : Nat → BitVec 32) (hv : Sees w 1 v 64 (arr32 64 k).toList) :
    Calls Tryz.prog 148 #[agg8 s, .agg (arr32 64 f), v] w fun e w' => e = .returned (agg8 (s.add (shaRounds s k (shaW f) 64))) ∧ Below w.heap.size w w' := by
  go_enter Tryz.func148, Tryz.ntmps148
  go_wp2_with fail
  go_loopw [7] (fun i wr => MixedRel1 w s f i wr) (fun i _ => 64 - (intOf i).toNat)
  case atStart =>
    refine ⟨16, by omega, by omega, rfl, (((Blk.new w _ _).alloc _).alloc _), ?_, ⟨⟨0, 0, 0, 0, 0, 0, 0, 0⟩, Blk.new3 w _ _ _ _⟩, by go_grown⟩
    have e : arr32 64 (fun j => if j < 16 then shaW f j else f j) = arr32 64 f := arr32_congr fun i hi => by
      by_cases h : i < 16
      · rw [if_pos h, shaW, if_pos h]
      · rw [if_neg h]
    rw [e]; exact (Blk.new2 w _ _ _).alloc _
  case round =>
    obtain ⟨n, h16, hn, rfl, hA, hM, ⟨z, hZ⟩, hbel⟩ := hrel
    by_cases hlt : n < 64
    · have hc : ∀ j, j < n → wr.cell? ⟨w.heap.size + 1, j, none⟩ = some (.int .u32 (N32 (shaW f j))) := fun j hj => by rw [hM.cell, arr32_get _ _ _ (by omega), if_pos hj]
      have h1 := hc (n - 15) (by omega)
      have h2 := hc (n - 2) (by omega)
      have h3 := hc (n - 16) (by omega)
      have h4 := hc (n - 7) (by omega)
      have h5 : wr.cell? ⟨w.heap.size + 1, n, none⟩ = some (.int .u32 (N32 (f n))) := by rw [hM.cell, arr32_get _ _ _ hlt, if_neg (by omega)]
      have h6 := hM.free n
      clear hc
      go_wp2_with fail
      refine wp_region_quiet_tail 29 (by kernel_rfl) (by kernel_rfl) ?_
      simp only [List.take_succ_cons, List.take_zero, List.drop_succ_cons, List.drop_zero]
      iterate 29 (go_big_quiet_step ((go_at_call 179; exact Calls.quiet_of_same (turn_any _ _ _ (by omega) (by omega)))))
      refine wpQuiet_nil ?_
      intro nr
      go_wp2_with fail
      go_roundw
      case rel =>
        refine ⟨n + 1, by omega, by omega, by go_num, (hA.setCell _ _ (by simp only; omega)).drewN nr, ?_, ⟨z, (hZ.setCell _ _ (by simp only; omega)).drewN nr⟩, below_drewN (hbel.setCell (by simp only; omega) _) nr⟩
        have := mixed_put hM
        have e : shaW f n = shaW f (n - 16) + shaW f (n - 7) + sig0 (shaW f (n - 15)) + sig1 (shaW f (n - 2)) := by
          rw [shaW, if_neg (by omega)]; ac_rfl
        rw [e] at this
        exact this.drewN nr
      case measure => simp [intOf]; omega
    · obtain rfl : n = 64 := by omega
      have eM : arr32 64 (fun j => if j < 64 then shaW f j else f j) = arr32 64 (shaW f) := arr32_congr fun i hi => by simp [hi]
      rw [eM] at hM; clear eM
      obtain ⟨c0, c1, c2, c3, c4, c5, c6, c7⟩ := blk8 hA
      go_wp2_with fail
      have hBs := hZ.lt
      have hN : Blk (wr.alloc (.cells (cells8 s) 169)) wr.heap.size (cells8 s) 169 := Blk.new wr _ _
      clear c0 c1 c2 c3 c4 c5 c6 c7
      have hsz := hbel.size
      generalize hBe : wr.heap.size = B at hBs hN hsz ⊢
      go_loopw [11] (fun i w' => MixedRel2 w B s f k i w') (fun i _ => 64 - (intOf i).toNat)
      case atStart => exact ⟨0, by omega, rfl, hA.alloc _, hM.alloc _, ⟨z, hZ.alloc _⟩, hN, hbel.alloc (by omega) _⟩
      case round =>
        clear hA hM hZ hN hbel h16 hn hlt hsz hBe
        obtain ⟨n, hn, rfl, hA, hM, ⟨z, hZ⟩, hN, hbel⟩ := hrel
        by_cases hlt : n < 64
        · obtain ⟨c0, c1, c2, c3, c4, c5, c6, c7⟩ := blk8 hN
          obtain ⟨hl1, a1, cv, he1, hn1, hm1, hnc1, hcellx⟩ := hv.below hbel (by decide)
          subst he1
          obtain ⟨b, o, rfl, hcell⟩ := hcellx (by omega)
          have ck := hcell n (.int .u32 (N32 (k n))) (by simp [arr32, hlt])
          have cm : wr.cell? ⟨w.heap.size + 1, n, none⟩ = some (.int .u32 (N32 (shaW f n))) := by rw [hM.cell, arr32_get _ _ _ hlt]
          clear hcell hcellx hl1 hnc1
          generalize hT : shaRounds s k (shaW f) n = T at *
          have HT := Lib.hid hT; clear hT
          go_wp2_with fail
          go_quiet ((go_at_call 179; exact Calls.quiet_of_same (turn_any _ _ _ (by omega) (by omega))))
          revert nq; intro nq1
          go_wp2_with fail
          go_quiet ((go_at_call 179; exact quiet_add_same (turn_any _ _ _ (by omega) (by omega))))
          go_wp2_with fail
          have hN0 : Blk ((wr.drewN nq1).drewN nq) B (arr32 8 (fun i => if i ≤ 7 then T.get i else T.get (i - 1))) 169 := by
            have e : arr32 8 (fun i => if i ≤ 7 then T.get i else T.get (i - 1)) = cells8 T := by rw [cells8_arr]; exact arr32_congr fun i hi => by rw [if_pos (by omega)]
            rw [e]; exact hN
          obtain ⟨wo, hwo⟩ : ∃ wo, wo = (wr.drewN nq1).drewN nq := ⟨_, rfl⟩
          have hAo : Blk wo w.heap.size (cells8 s) 169 := by rw [hwo]; exact hA
          have hMo : Blk wo (w.heap.size + 1) (arr32 64 (shaW f)) 171 := by rw [hwo]; exact hM
          have hZo : Blk wo (w.heap.size + 1 + 1) (cells8 z) 169 := by rw [hwo]; exact hZ
          have hbo : Below w.heap.size w wo := by rw [hwo]; exact below_drewN (below_drewN hbel _) _
          rw [← hwo] at hN0 ⊢
          clear hwo hA hM hZ hbel hN c0 c1 c2 c3 c4 c5 c6 c7 ck cm
          go_loopw [16] (fun j w' => MixedRel3 wo B T j w') (fun j _ => (intOf j).toNat)
          case atStart => exact ⟨7, by omega, rfl, grownBy_refl _ _, hN0⟩
          case round =>
            clear hN0
            obtain ⟨m, hm, rfl, hg, hN⟩ := hrel
            by_cases hm0 : 0 < m
            · have d1 : wr.cell? ⟨B, m - 1, none⟩ = some (.int .u32 (N32 (T.get (m - 1)))) := by rw [hN.cell, arr32_get _ _ _ (by omega), if_pos (by omega)]
              have d2 : wr.cell? ⟨B, m, none⟩ = some (.int .u32 (N32 (T.get m))) := by rw [hN.cell, arr32_get _ _ _ (by omega), if_pos (by omega)]
              have d3 := hN.free m
              go_wp2_with fail
              go_roundw
              case rel =>
                refine ⟨m - 1, by omega, by go_num, grownBy_set hg _ _, ?_⟩
                have := hN.set m (.int .u32 (N32 (T.get (m - 1))))
                rw [arr32_set] at this
                rw [arr32_congr (g := fun j => if j = m then T.get (m - 1) else if j ≤ m then T.get j else T.get (j - 1))]
                · exact this
                · intro j _
                  by_cases e : j = m
                  · subst e; simp; omega
                  · by_cases e2 : j ≤ m
                    · simp [e, e2, show j ≤ m - 1 from by omega]
                    · simp [e, e2, show ¬ j ≤ m - 1 from by omega]
              case measure => simp [intOf]; omega
            · obtain rfl : m = 0 := by omega
              have eN : arr32 8 (fun i => if i ≤ 0 then T.get i else T.get (i - 1)) = cells8 ⟨T.a, T.a, T.b, T.c, T.d, T.e, T.f, T.g⟩ := rfl
              rw [eN] at hN; clear eN
              obtain ⟨c0, c1, c2, c3, c4, c5, c6, c7⟩ := blk8 hN
              have f0 := hN.free 0
              have f4 := hN.free 4
              clear c1 c2 c3 c5 c6 c7
              go_wp2_with fail
              refine ⟨⟨n + 1, by omega, by go_num, hAo.grownBy (row := some B) ?_ (some_ne (by omega)), hMo.grownBy (row := some B) ?_ (some_ne (by omega)), ⟨z, hZo.grownBy (row := some B) ?_ (some_ne (by omega))⟩, ?_, ?_⟩, by simp [intOf]; omega⟩
              · exact grownBy_set (grownBy_set hg _ _) _ _
              · exact grownBy_set (grownBy_set hg _ _) _ _
              · exact grownBy_set (grownBy_set hg _ _) _ _
              · have e : shaRounds s k (shaW f) (n + 1) = shaStep T (k n + shaW f n) := by rw [← HT.out]; rfl
                rw [e, mixed_step]
                exact (hN.set 4 _).set 0 _
              · exact hbo.grown (grownBy_set (grownBy_set hg _ _) _ _) hbo.size (fun k hk => by cases hk; omega)
        · obtain rfl : n = 64 := by omega
          generalize hT : shaRounds s k (shaW f) 64 = T at hN
          have HT := Lib.hid hT; clear hT
          go_wp2_with fail
          go_loopw [17] (fun i wr => MixedRel4 w B s T i wr) (fun i _ => 8 - (intOf i).toNat)
          case atStart =>
            refine ⟨0, by omega, rfl, hA, ⟨z, hZ⟩, ?_, hbel⟩
            have e : arr32 8 (fun j => if j < 0 then s.get j + T.get j else T.get j) = cells8 T := by rw [cells8_arr]; exact arr32_congr fun i hi => by simp
            rw [e]; exact hN
          case round =>
            clear hN hA hM hZ hbel
            obtain ⟨n, hn, rfl, hA, ⟨z, hZ⟩, hN, hbel⟩ := hrel
            by_cases hlt : n < 8
            · have cA : wr.cell? ⟨w.heap.size, n, none⟩ = some (.int .u32 (N32 (s.get n))) := by rw [hA.cell, cells8_arr, arr32_get _ _ _ hlt]
              have cN : wr.cell? ⟨B, n, none⟩ = some (.int .u32 (N32 (T.get n))) := by rw [hN.cell, arr32_get _ _ _ hlt, if_neg (by omega)]
              have fN := hN.free n
              go_wp2_with fail
              refine wp_region_quiet_tail 9 (by kernel_rfl) (by kernel_rfl) ?_
              simp only [List.take_succ_cons, List.take_zero, List.drop_succ_cons, List.drop_zero]
              iterate 9 (go_big_quiet_step (fail))
              refine wpQuiet_nil ?_
              intro nr
              go_wp2_with fail
              go_roundw
              case rel =>
                refine ⟨n + 1, by omega, by go_num, (hA.setCell _ _ (by simp only; omega)).drewN nr, ⟨z, (hZ.setCell _ _ (by simp only; omega)).drewN nr⟩, ?_, below_drewN (hbel.setCell (by simp only; omega) _) nr⟩
                have := hN.set n (.int .u32 (N32 (T.get n + s.get n)))
                rw [arr32_set] at this
                rw [arr32_congr (g := fun j => if j = n then T.get n + s.get n else if j < n then s.get j + T.get j else T.get j)]
                · exact this.drewN nr
                · intro j _
                  by_cases e : j = n
                  · subst e; simp; exact BitVec.add_comm _ _
                  · by_cases e2 : j < n
                    · simp [e, e2, show j < n + 1 from by omega]
                    · simp [e, e2, show ¬ j < n + 1 from by omega]
              case measure => simp [intOf]; omega
            · obtain rfl : n = 8 := by omega
              have eN : arr32 8 (fun j => if j < 8 then s.get j + T.get j else T.get j) = cells8 (s.add T) := by
                rw [← add8_arr]; exact arr32_congr fun i hi => by simp [hi]
              rw [eN] at hN; clear eN
              go_wp2_with (first
                | (refine wpList_load8 rfl _ rfl B _ rfl hN ?_)
                | (refine wpList_store8 rfl _ _ rfl (w.heap.size + 1 + 1) _ _ rfl rfl hZ ?_; intro w2 hg2 hs2 hR2))
              refine bodyPost_ret (result8 Tryz.results148 _ _ (w.heap.size + 1 + 1) _ rfl hR2) rfl ⟨?_, hbel.grown hg2 hbel.size (fun k hk => ?_)⟩
              · show Ending.returned (agg8 (s.add T)) = Ending.returned (agg8 (s.add (shaRounds s k (shaW f) 64)))
                rw [HT.out]
              · cases hk; omega
end Go.Proofs.YtbgnfioggmkdeaaGreatDoor
namespace Go.Proofs.YtbgnfioggmkdeaaGreatDoor
set_option linter.unusedVariables false
set_option linter.unusedSimpArgs false
open Go Go.RowKit

set_option maxRecDepth 100000 in
set_option maxHeartbeats 1000000 in
theorem Written_any (w : World) : Calls Tryz.prog 146 #[] w fun e w' => ∃ g, e = .returned (.tuple #[.slice (some ⟨g, 0, none⟩) 64 64, agg8 shaInit]) ∧ Blk w' g (arr32 64 shaK) 168 ∧ Below w.heap.size w w' := by
  go_enter Tryz.func146, Tryz.ntmps146
  go_wp2_with fail
  generalize hW : World.alloc _ _ = W
  have hN : Blk W (w.heap.size + 1) (cells8 shaInit) 169 := by rw [← hW, shaInit_arr]; exact Blk.new2 _ _ _ _
  have hZ : Blk W w.heap.size (cells8 ⟨0, 0, 0, 0, 0, 0, 0, 0⟩) 169 := by rw [← hW]; exact (Blk.new w _ _).alloc _
  have hbel : Below w.heap.size w W := by rw [← hW]; go_grown
  clear hW
  try change Code.wp _ _ _ (Act.mk _ _) _
  haveI hne_ : Nonempty (InC (fun u => Blk u (w.heap.size + 1) (cells8 shaInit) 169)) := ⟨⟨_, hN⟩⟩
  refine wp_region_ph (C := fun w_ => ∃ e_ : InC (fun u => Blk u (w.heap.size + 1) (cells8 shaInit) 169), w_ = e_.u) [([1], 0), ([2], 3)] [] (by kernel_rfl) (by kernel_rfl) (fun _ _ _ _ hd_ h_ => ⟨hd_.symm.trans h_.1, h_.2⟩) ⟨⟨World.drew _, hN⟩, rfl⟩ ?_
  first | refine wpPh_cons ?_ | refine wpPh_nil ?_
  simp only [pickOps, List.flatMap_cons, List.flatMap_nil, List.drop_succ_cons, List.drop_zero, List.take_succ_cons, List.take_zero, List.cons_append, List.nil_append, List.append_nil]
  iterate 1 (first | (refine wpQuiet_load_row rfl 169 _ rfl (w.heap.size + 1) rfl _ (cells8 shaInit) (0, 0) _ (fun w_ hw_ => by obtain ⟨e_, rfl⟩ := hw_; exact e_.has) Tryz.underlying169 rfl (by rw [size8]; exact info_arr8) ?_) | go_big_quiet_step (exact rfl))
  refine wpQuiet_nil ?_
  have hK : Blk (W.drew.alloc (.cells (arr32 64 shaK) 168)) W.drew.heap.size (arr32 64 shaK) 168 := Blk.new _ _ _
  rw [shaK_arr] at hK
  have HK := Lib.hid hK; clear hK
  go_wp2_with fail
  refine phPost_normal ⟨⟨⟨_, Blk.drew (hN.alloc _)⟩, rfl⟩, ?_⟩
  first | refine wpPh_cons ?_ | refine wpPh_nil ?_
  simp only [pickOps, List.flatMap_cons, List.flatMap_nil, List.drop_succ_cons, List.drop_zero, List.take_succ_cons, List.take_zero, List.cons_append, List.nil_append, List.append_nil]
  iterate 1 (go_big_quiet_step (exact rfl))
  refine wpQuiet_nil ?_
  generalize hW2 : World.drew (World.alloc W _) = W2
  have hZ2 : Blk W2 w.heap.size (cells8 ⟨0, 0, 0, 0, 0, 0, 0, 0⟩) 169 := by rw [← hW2]; exact (hZ.alloc _).drew
  have hN2 : Blk W2 (w.heap.size + 1) (cells8 shaInit) 169 := by rw [← hW2]; exact (hN.alloc _).drew
  have hK2 : Blk W2 W.heap.size (arr32 64 shaK) 168 := by rw [← hW2, shaK_arr]; exact HK.out
  have hbel2 : Below w.heap.size w W2 := by rw [← hW2]; exact (hbel.alloc hbel.size _).drew
  have hlt : w.heap.size + 1 < W.heap.size := hN.lt
  clear hW2 HK hZ hN hbel
  go_wp2_with (refine wpList_store8 rfl _ _ rfl w.heap.size _ _ rfl rfl hZ2 ?_; intro w3 hg3 hs3 hR3)
  refine phPost_normal ⟨⟨⟨_, hN2.grownBy hg3 (some_ne (by omega))⟩, rfl⟩, ?_⟩
  first | refine wpPh_cons ?_ | refine wpPh_nil ?_
  simp only [pickOps, List.flatMap_cons, List.flatMap_nil, List.drop_succ_cons, List.drop_zero, List.take_succ_cons, List.take_zero, List.cons_append, List.nil_append, List.append_nil]
  refine wpQuiet_nil ?_
  obtain ⟨c0, c1, c2, c3, c4, c5, c6, c7⟩ := blk8 hR3
  go_wp2_with fail
  refine bodyPost_ret (v := .tuple #[.slice (some ⟨W.heap.size, 0, none⟩) 64 64, agg8 shaInit]) (by simp [results, Tryz.results146, go_sem, c0, c1, c2, c3, c4, c5, c6, c7]) rfl ⟨_, rfl, hK2.grownBy hg3 (some_ne (by omega)), hbel2.grown hg3 hbel2.size (fun k hk => ?_)⟩
  cases hk; omega
end Go.Proofs.YtbgnfioggmkdeaaGreatDoor
namespace Go.Proofs.YtbgnfioggmkdeaaGreatDoor
set_option linter.unusedVariables false
set_option linter.unusedSimpArgs false
open Go Go.RowKit

def ShaRel1 (w : World) (B g : Nat) (p : List UInt8) (v : Value) (wr : World) : Prop :=
  ∃ n : Nat, 64 * n ≤ p.length ∧ SeesB wr v (p.drop (64 * n)) ∧ v.ownBlock ≠ some B ∧ Blk wr B (cells8 (shaBlocks p n)) 169 ∧ Blk wr g (arr32 64 shaK) 168 ∧
    Blk wr w.heap.size (keyA (List.replicate 32 0)) 24 ∧ Below w.heap.size w wr
def ShaRel2 (w0 : World) (C : Nat) (q : List UInt8) (i : Value) (wr : World) : Prop :=
  ∃ n : Nat, n ≤ 16 ∧ i = .int .i64 n ∧ Blk wr C (arr32 64 (fun j => if j < n then blkW (q.take 64) j else 0)) 171 ∧ w0.grownBy wr (some C)
def ShaRel3 (w : World) (B : Nat) (s : W8) (i v : Value) (wr : World) : Prop :=
  ∃ n : Nat, n ≤ 8 ∧ i = .int .i64 n ∧ SeesB wr v (bytes8 s n) ∧ Blk wr B (cells8 s) 169 ∧ Blk wr w.heap.size (keyA (List.replicate 32 0)) 24 ∧ Below w.heap.size w wr
def ShaRel4 (w0 : World) (C : Nat) (l : List UInt8) (i : Value) (wr : World) : Prop :=
  ∃ n : Nat, n ≤ 32 ∧ i = .int .i64 n ∧ Blk wr C (arrB 32 (fun j => if j < n then l.getD j 0 else 0)) 24 ∧ w0.grownBy wr (some C)

set_option maxRecDepth 100000 in
set_option maxHeartbeats 1000000 in
theorem Shar_any (w : World) (v : Value) (l : List UInt8) (hv : SeesB w v l) (hl : l.length ≤ 70368744177000) :
    Calls Tryz.prog 98 #[v] w fun e w' => e = .returned (.agg (keyA (sha l))) ∧ Below w.heap.size w w' := by
  obtain ⟨a0, c0, rfl, hac0, hc0⟩ := sees_form hv
  have hpm := shaPad_mod l
  have hpl : (shaPad l).length ≤ 70368744177200 := by rw [length_shaPad]; unfold padN; omega
  have hpd : shaPad l = l ++ [128] ++ List.replicate (padN l.length) 0 ++ put64 (l.length * 8) := rfl
  unfold sha
  generalize hp : shaPad l = p at hpm hpl hpd ⊢
  have HM := Lib.hid hpm; clear hpm
  have HD := Lib.hid hpd; clear hpd hp
  go_enter Tryz.func98, Tryz.ntmps98
  go_wp2_with fail
  refine (Written_any _).mono ?_; rintro e w1 ⟨g, rfl, hK, hb1⟩
  have hk : Blk w1 w.heap.size (keyA (List.replicate 32 0)) 24 := by rw [keyA_zero]; exact (Blk.new w _ _).below hb1
  have hbel1 : Below w.heap.size w w1 := Below.trans (by go_grown) (hb1.mono (by simp only [World.size_alloc]; omega))
  have hlt : w.heap.size < w1.heap.size := hk.lt
  have hgl : g < w1.heap.size := hK.lt
  clear hb1
  have hN : Blk (w1.alloc (.cells (cells8 shaInit) 169)) w1.heap.size (cells8 shaInit) 169 := Blk.new _ _ _
  have hK : Blk (w1.alloc (.cells (cells8 shaInit) 169)) g (arr32 64 shaK) 168 := hK.alloc _
  have hk : Blk (w1.alloc (.cells (cells8 shaInit) 169)) w.heap.size (keyA (List.replicate 32 0)) 24 := hk.alloc _
  have hbelA : Below w.heap.size w (w1.alloc (.cells (cells8 shaInit) 169)) := hbel1.alloc hbel1.size _
  have hBA := hN.lt
  clear hbel1
  go_wp2_with (at_builtin; first
    | (refine appB (W := w1.alloc (.cells (cells8 shaInit) 169)) rfl _ _ rfl v1 l rfl (hown1.alloc _) _ [128] rfl (seesB_one _ 128 _) (by simp only [List.length_cons, List.length_nil]; omega) (hb1.alloc hb1.size _) ?_; intro v2 w2 hown2 hgr2 hb2)
    | (refine appB (W := w1.alloc (.cells (cells8 shaInit) 169)) rfl _ _ rfl (.slice none 0 0) [] rfl (ownB_nil _ _) _ l rfl (hv.below hbelA (by decide)) (by simp only [List.length_nil]; omega) (Below.refl _ _) ?_; intro v1 w2' hown1 hgr1 hb1))
  clear hown1 hgr1 hgr2 hb1
  generalize hWA : World.alloc w1 (.cells (cells8 shaInit) 169) = wA at *
  generalize w1.heap.size = B at *
  clear hWA
  go_loopw [5] (fun v wr => PadRel wA l v wr) (fun v _ => 70368744177664 - lenV v)
  case atStart => exact ⟨0, by omega, by simpa using hown2, hb2⟩
  case round =>
    clear hown2 hb2
    obtain ⟨z, hz, hown, hbel⟩ := hrel
    obtain ⟨a, c, rfl, hac, hc⟩ := owns_form hown
    have HO := Lib.hid hown; clear hown
    have hN2 : (l ++ [128] ++ List.replicate z 0).length = l.length + 1 + z := by simp; omega
    have hp : padN l.length = (119 - l.length % 64) % 64 := rfl
    generalize hN' : (l ++ [128] ++ List.replicate z 0).length = N at hN2 hac ⊢
    have HN := Lib.hid hN'; clear hN'
    have hb : N < 70368744177200 := by omega
    by_cases hlt2 : z < padN l.length
    · have ht : 0 < (N + 8) % 64 := by omega
      have HN2 := Lib.hid hN2; have HP := Lib.hid hp; clear hN2 hp
      go_wp2_with (at_builtin; refine appB (W := wA) rfl _ _ rfl (.slice a N c) (l ++ [128] ++ List.replicate z 0) rfl (by rw [← HN.out]; exact HO.out.alloc _) _ [0] rfl (seesB_one _ 0 _) (by rw [HN.out]; simp only [List.length_cons, List.length_nil]; omega) (hbel.alloc hbel.size _) ?_; intro v3 w3 hown3 hgr3 hb3)
      have hfin : PadRel wA l v3 w3 := ⟨z + 1, by omega, by
        rw [show l ++ [128] ++ List.replicate (z + 1) 0 = l ++ [128] ++ List.replicate z 0 ++ [0] from by rw [List.replicate_succ', List.append_assoc]; simp [List.append_assoc]]
        exact hown3, hb3⟩
      obtain ⟨a3, c3, rfl, hac3, hc3⟩ := owns_form hown3
      refine ⟨hfin, ?_⟩
      show 70368744177664 - (l ++ [128] ++ List.replicate z 0 ++ [0]).length < 70368744177664 - N
      rw [List.length_append, HN.out]; simp only [List.length_cons, List.length_nil]; omega
    · obtain rfl : z = padN l.length := by omega
      have ht : ¬ 0 < (N + 8) % 64 := by omega
      have HN2 := Lib.hid hN2; have HP := Lib.hid hp; clear hN2 hp
      go_wp2_with fail
      refine (Put64r_any _ _ (l ++ [128] ++ List.replicate (padN l.length) 0) _ (by rw [← HN.out]; exact sees_of_owns HO.out) (by omega) (by omega) (by rw [HN.out]; omega)).mono ?_
      rintro e w2 ⟨v2, rfl, hown2, hb2⟩
      have hb2A : Below wA.heap.size wA w2 := hbel.trans (hb2.mono hbel.size)
      have hp2 : SeesB w2 v2 p := by
        have := sees_of_owns hown2
        rw [show ((l.length : Int) * 8).toNat = l.length * 8 from by omega, ← HD.out] at this; exact this
      have hne2 : v2.ownBlock ≠ some B := fun e => by have := (hown2.lt _ e).1; have := hbel.size; omega
      have hN2 := hN.below hb2A
      have hK2 := hK.below hb2A
      have hk2 := hk.below hb2A
      have hbel2 : Below w.heap.size w w2 := hbelA.trans (hb2A.mono hbelA.size)
      have hBw : w.heap.size < B := by omega
      clear hown2 hb2 hb2A HO hbel hN hK hk hbelA HN2 HP HN ht hac hc hb
      go_wp2_with fail
      go_loopw [5] (fun v wr => ShaRel1 w B g p v wr) (fun v _ => lenV v)
      case atStart => exact ⟨0, by omega, by simpa using hp2, hne2, hN2, hK2, hk2, hbel2⟩
      case round =>
        clear hp2 hne2 hN2 hK2 hk2 hbel2
        obtain ⟨n, hn, hv5, hne, hN, hK, hk, hbel⟩ := hrel
        obtain ⟨a5, c5, rfl, hac5, hc5⟩ := sees_form hv5
        have hlen : (p.drop (64 * n)).length = p.length - 64 * n := by simp
        have hq : shaBlocks p (n + 1) = shaMix (shaBlocks p n) shaK ((p.drop (64 * n)).take 64) := rfl
        have hdd : p.drop (64 * (n + 1)) = (p.drop (64 * n)).drop 64 := by rw [List.drop_drop]; congr 1
        have HQ := Lib.hid hq; have HDD := Lib.hid hdd; clear hq hdd
        generalize hqe : p.drop (64 * n) = q at hv5 hne hac5 hlen HQ HDD ⊢
        have HV := Lib.hid hv5; have HE := Lib.hid hne; clear hv5 hne
        generalize hL : q.length = L at hac5 hlen ⊢
        have HL := Lib.hid hL; clear hL hqe
        by_cases hmore : 64 * n < p.length
        · have h64 : 64 ≤ L := by have := HM.out; omega
          have HLEN := Lib.hid hlen; clear hlen
          have hL0 : 0 < L := by omega
          go_wp2_with fail
          have hqlt : ∀ k, (Value.slice a5 L c5).ownBlock = some k → k < wr.heap.size := by
            rw [← HL.out]; exact HV.out.lt (by rw [HL.out]; omega)
          generalize hW0 : World.alloc wr _ = w0
          have hC : Blk w0 wr.heap.size (arr32 64 (fun _ => 0)) 171 := by rw [← hW0, arr32_zero64]; exact Blk.new _ _ _
          have hNa : Blk w0 B (cells8 (shaBlocks p n)) 169 := by rw [← hW0]; exact hN.alloc _
          have hKa : Blk w0 g (arr32 64 shaK) 168 := by rw [← hW0]; exact hK.alloc _
          have hka : Blk w0 w.heap.size (keyA (List.replicate 32 0)) 24 := by rw [← hW0]; exact hk.alloc _
          have hbela : Below w.heap.size w w0 := by rw [← hW0]; exact hbel.alloc hbel.size _
          have HVa := Lib.hid (show SeesB w0 (Value.slice a5 q.length c5) q by rw [← hW0]; exact HV.out.alloc (by decide) _)
          have hBC := hN.lt; have hgC := hK.lt; have hkC := hk.lt
          clear hW0 hN hK hk hbel HV
          generalize wr.heap.size = C at *
          go_loopw [7] (fun i wr => ShaRel2 w0 C q i wr) (fun i _ => 16 - (intOf i).toNat)
          case atStart =>
            refine ⟨0, by omega, rfl, ?_, grownBy_refl _ _⟩
            have e : arr32 64 (fun j => if j < 0 then blkW (q.take 64) j else 0) = arr32 64 (fun _ => 0) := arr32_congr fun i _ => by simp
            rw [e]; exact hC
          case round =>
            clear hC
            obtain ⟨m, hm, rfl, hC, hg⟩ := hrel
            have HVr := Lib.hid (HVa.out.grownBy hg (by decide) (Or.inr (fun e => by rw [HL.out] at e; have := hqlt _ e; omega)))
            by_cases hmlt : m < 16
            · have hcc : wr.cell? ⟨C, m, none⟩ = some (.int .u32 (N32 0)) := by rw [hC.cell, arr32_get _ _ _ (by omega), if_neg (by omega)]
              have hcf := hC.free m
              go_wp2_with (go_at_call 147; refine (Get32r_ok _ _ q _ (by rw [← HL.out]; exact HVr.out) (by omega) (by rw [HL.out]; omega)).mono ?_; rintro e w' ⟨rfl, rfl⟩)
              go_roundw
              case rel =>
                refine ⟨m + 1, by omega, by go_num, ?_, grownBy_set hg _ _⟩
                have := hC.set m (.int .u32 (N32 (blkW (q.take 64) m)))
                rw [arr32_set] at this
                have e : blkW (q.take 64) m = BitVec.ofNat 32 (beN ((q.drop (4 * m)).take 4)) := blkW_take q m hmlt
                rw [arr32_congr (g := fun j => if j = m then blkW (q.take 64) m else if j < m then blkW (q.take 64) j else 0)]
                · rw [N32_ofNat _ (beN4_lt _), ← e]; exact this
                · intro j _
                  by_cases e : j = m
                  · subst e; simp
                  · by_cases e2 : j < m
                    · simp [e, e2, show j < m + 1 from by omega]
                    · simp [e, e2, show ¬ j < m + 1 from by omega]
              case measure => simp [intOf]; omega
            · obtain rfl : m = 16 := by omega
              have hNr := hNa.grownBy hg (some_ne (by omega))
              have hKr := hKa.grownBy hg (some_ne (by omega))
              have hkr := hka.grownBy hg (some_ne (by omega))
              have hbr := hbela.grown hg hbela.size (fun k hk => by cases hk; omega)
              generalize hf : (fun j => if j < 16 then blkW (q.take 64) j else 0) = f at hC
              have hff : ∀ i, shaW f i = shaW (blkW (q.take 64)) i := shaW_congr (fun i hi => by rw [← hf]; simp [hi])
              have hsK : Sees wr 1 (.slice (some ⟨g, 0, none⟩) 64 64) 64 (arr32 64 shaK).toList := sees_block hKr 1 64 (by rw [arr32_size]) (by decide)
              clear hNa hKa hka hbela hg hf
              have HFF := Lib.hid hff; clear hff
              go_wp2_with (first
                | (refine wpList_load8 rfl _ rfl B _ rfl hNr ?_)
                | (refine wpList_load_row rfl 171 _ rfl C rfl _ _ (0, 0) _ hC Tryz.underlying171 rfl (by rw [arr32_size]; exact info_arr64) ?_)
                | (go_at_call 148; refine (mixed_any _ _ (shaBlocks p n) f shaK hsK).mono ?_; rintro e w5 ⟨rfl, hb5⟩; have hN5 := hNr.below hb5)
                | (refine wpList_store8 rfl _ _ rfl B _ _ rfl rfl hN5 ?_; intro w6 hg6 hs6 hN6))
              have hbel5 := hbr.trans (hb5.mono hbr.size)
              have hbel6 := hbel5.grown hg6 hbel5.size (fun k hk => by cases hk; omega)
              have hV6 : SeesB w6 (Value.slice a5 L c5) q := by rw [← HL.out]; exact (HVr.out.below hb5 (by decide)).grownBy hg6 (by decide) (Or.inr HE.out)
              have hK6 := (hKr.below hb5).grownBy hg6 (some_ne (by omega))
              have hk6 := (hkr.below hb5).grownBy hg6 (some_ne (by omega))
              have hN6' : Blk w6 B (cells8 (shaBlocks p (n + 1))) 169 := by
                rw [HQ.out]; unfold shaMix
                rw [← shaRounds_congr HFF.out 64]; exact hN6
              have hD6 := seesB_drop hV6 64 (by rw [HL.out]; omega)
              rw [HL.out] at hD6
              have hne6 : (Value.slice (if c5 = 64 then a5 else Option.map (fun x => x.add 64) a5) (L - 64) (c5 - 64)).ownBlock ≠ some B := by
                have h0 : (Value.slice a5 L c5).ownBlock ≠ some B := by rw [← HL.out]; exact HE.out
                cases a5 with
                | none => split <;> simp [Value.ownBlock]
                | some a => split <;> (simp only [Option.map_some, Value.ownBlock, addr_add] at h0 ⊢; first | exact h0 | (unfold Addr.add; split <;> exact h0))
              have HD6 := Lib.hid hD6; have HNE6 := Lib.hid hne6; have HN6 := Lib.hid hN6'
              clear hD6 hne6 hN6 hN6' hV6 hN5 hNr hC hsK hg6 hs6 hKr hkr hbr hb5 hbel5
              go_wp2_with fail
              refine ⟨⟨n + 1, by have := HM.out; omega, ?_, HNE6.out, HN6.out, hK6, hk6, hbel6⟩, by simp [lenV]; omega⟩
              rw [HDD.out]; exact HD6.out
        · have hn2 : 64 * n = p.length := by omega
          have hn64 : n = p.length / 64 := by omega
          rw [hn64] at hN
          have hL0 : L = 0 := by omega
          clear hn64 HQ HDD HV HE hlen
          generalize hs : shaBlocks p (p.length / 64) = s at hN
          have HS := Lib.hid hs; clear hs
          subst hL0
          clear hn2 hmore HL hn
          go_wp2_with fail
          go_loopw [11, 10] (fun i v wr => ShaRel3 w B s i v wr) (fun i _ _ => 8 - (intOf i).toNat)
          case atStart => exact ⟨0, by omega, rfl, Sees.nil _ _, hN, hk, hbel⟩
          case round =>
            clear hN hK hk hbel
            obtain ⟨n, hn, rfl, hv, hN, hk, hbel⟩ := hrel
            by_cases hlt2 : n < 8
            · have hcN : wr.cell? ⟨B, n, none⟩ = some (.int .u32 (N32 (s.get n))) := by rw [hN.cell, cells8_arr, arr32_get _ _ _ hlt2]
              have hlen := length_bytes8 s n
              have HL := Lib.hid hlen; clear hlen
              go_wp2_with (go_at_call 141; refine (Put32r_any _ _ (bytes8 s n) _ hv (N32_nonneg _) (N32_lt _) (by rw [HL.out]; omega)).mono ?_; rintro e w5 ⟨v6, rfl, hown6, hb6⟩)
              go_roundw
              case rel =>
                refine ⟨n + 1, by omega, by go_num, ?_, hN.below hb6, hk.below hb6, hbel.trans (hb6.mono hbel.size)⟩
                rw [bytes8_succ]
                have := sees_of_owns hown6
                rwa [show (N32 (s.get n)).toNat = (s.get n).toNat from by unfold N32; simp] at this
              case measure => simp [intOf]; omega
            · obtain rfl : n = 8 := by omega
              have hl32 : (bytes8 s 8).length = 32 := length_bytes8 s 8
              obtain ⟨b, o, c, rfl, hc1, hc2, hr⟩ := seesB_open hv (by rw [hl32]; omega)
              rw [hl32] at hc1 ⊢
              have HL := Lib.hid hl32; clear hl32
              have HR := Lib.hid hr; clear hr
              have HV := Lib.hid hv; clear hv
              go_wp2_with fail
              generalize hW0 : World.alloc wr _ = w0
              have hC : Blk w0 wr.heap.size (keyA (List.replicate 32 0)) 24 := by rw [← hW0, keyA_zero]; exact Blk.new _ _ _
              have hka : Blk w0 w.heap.size (keyA (List.replicate 32 0)) 24 := by rw [← hW0]; exact hk.alloc _
              have hbela : Below w.heap.size w w0 := by rw [← hW0]; exact hbel.alloc hbel.size _
              have hra : w0.rangeAt b o ((bytes8 s 8).map BV) := by rw [← hW0]; exact World.rangeAt_alloc HR.out _
              have hbl : b < wr.heap.size := by
                have h1 := HR.out 0 (BV ((bytes8 s 8)[0]'(by rw [HL.out]; omega))) (by rw [List.getElem?_map, List.getElem?_eq_getElem (by rw [HL.out]; omega)]; rfl)
                exact World.block_lt_of_cell? wr _ h1
              have hkC := hk.lt
              clear hW0 hN hk hbel HR HV
              generalize wr.heap.size = C at *
              go_loopw [13] (fun i wr => ShaRel4 w0 C (bytes8 s 8) i wr) (fun i _ => 32 - (intOf i).toNat)
              case atStart =>
                refine ⟨0, by omega, rfl, ?_, grownBy_refl _ _⟩
                have e : arrB 32 (fun j => if j < 0 then (bytes8 s 8).getD j 0 else 0) = keyA (List.replicate 32 0) := by
                  rw [keyA_arrB]
                  show _ = arrB 32 _
                  exact arrB_congr fun i hi => by rw [if_neg (by omega), List.getD_eq_getElem?_getD, List.getElem?_replicate, if_pos hi]; rfl
                rw [e]; exact hC
              case round =>
                clear hC
                obtain ⟨m, hm, rfl, hC, hg⟩ := hrel
                by_cases hmlt : m < 32
                · have hc1' : wr.cell? ⟨C, m, none⟩ = some (BV 0) := by rw [hC.cell, arrB_get _ _ _ hmlt, if_neg (by omega)]
                  have hcf := hC.free m
                  have hcr : wr.cell? ⟨b, o + m, none⟩ = some (BV ((bytes8 s 8).getD m 0)) := by
                    rw [World.cell?_of_block (w := w0) (hg.block b (World.block_lt_of_cell? w0 _ (hra m (BV ((bytes8 s 8)[m]'(by rw [HL.out]; omega))) (by rw [List.getElem?_map, List.getElem?_eq_getElem (by rw [HL.out]; omega)]; rfl))) (some_ne (by omega)))]
                    apply hra
                    rw [List.getElem?_map, List.getD_eq_getElem?_getD, List.getElem?_eq_getElem (by rw [HL.out]; omega)]; rfl
                  generalize hbx : (bytes8 s 8).getD m 0 = bx at hcr
                  have HBX := Lib.hid hbx; clear hbx
                  go_wp2_with fail
                  go_roundw
                  case rel =>
                    refine ⟨m + 1, by omega, by go_num, ?_, grownBy_set hg _ _⟩
                    have := hC.set m (BV ((bytes8 s 8).getD m 0))
                    rw [arrB_step, HBX.out] at this; exact this
                  case measure => simp [intOf]; omega
                · obtain rfl : m = 32 := by omega
                  have e : arrB 32 (fun j => if j < 32 then (bytes8 s 8).getD j 0 else 0) = keyA (bytes8 s 8) := by
                    rw [keyA_arrB, HL.out]; exact arrB_congr fun i hi => by simp [hi]
                  rw [e] at hC; clear e
                  have hkr := hka.grownBy hg (some_ne (by omega))
                  have hbr := hbela.grown hg hbela.size (fun k hk => by cases hk; omega)
                  go_wp2_with (first
                    | (refine wpList_load_row rfl 24 _ rfl C rfl _ _ (0, 0) _ hC under_key rfl (by rw [keyA_size, HL.out]; exact info_key) ?_)
                    | (refine wpList_store_row rfl 24 _ _ rfl w.heap.size (keyA (bytes8 s 8)) _ _ rfl rfl hkr (by rw [keyA_size, keyA_size, HL.out]; rfl) (by rw [keyA_size, HL.out]; exact info_key) (keyA_one _) ?_; intro w7 hg7 hs7 hR7))
                  refine bodyPost_ret (results_cell_row Tryz.results98 _ _ w.heap.size _ _ (0, 0) _ rfl hR7 under_key rfl (by rw [keyA_size, HL.out]; exact info_key)) rfl ⟨?_, hbr.grown hg7 hbr.size (fun k hk => ?_)⟩
                  · rw [HS.out]
                  · cases hk; exact Nat.le_refl _
end Go.Proofs.YtbgnfioggmkdeaaGreatDoor
namespace Go.Proofs.YtbgnfioggmkdeaaGreatDoor
set_option linter.unusedVariables false
set_option linter.unusedSimpArgs false
open Go Go.RowKit

set_option maxRecDepth 100000 in
set_option maxHeartbeats 1000000 in
theorem Partsr_any (w : World) (v : Value) (ll : List (List UInt8)) (hv : SeesBB w v ll) (hl : (flatP ll).length ≤ 70368744177000) :
    Calls Tryz.prog 102 #[v] w fun e w' => e = .returned (.agg (keyA (parts ll))) ∧ Below w.heap.size w w' := by
  obtain ⟨vs, hvs, hel⟩ := hv
  obtain ⟨a0, c0, rfl, hac0, hc0⟩ := sees_form hvs
  have HE := Lib.hid hel; clear hel
  go_enter Tryz.func102, Tryz.ntmps102
  go_wp2_with fail
  go_loopw [4, 3] (fun i v wr => PartsRel w ll i v wr) (fun i _ _ => ll.length - (intOf i).toNat)
  case atStart => exact ⟨0, by omega, rfl, Sees.nil _ _, ⟨_, Blk.new w _ _, rfl⟩, by go_grown⟩
  case round =>
    obtain ⟨k, hk, rfl, hb, ⟨z, hz, hzs⟩, hbel⟩ := hrel
    by_cases hlt : k < ll.length
    · obtain ⟨hl1, a1, c1, he1, hn1, hm1, hnc1, hcellx⟩ := hvs.below hbel (by decide)
      cases he1
      obtain ⟨b, o, rfl, hcell⟩ := hcellx (by omega)
      clear hcellx
      have hx : vs[k]? = some (vs[k]'(by omega)) := List.getElem?_eq_getElem _
      have hcx := hcell k _ hx
      have hsx := (HE.out k (ll[k]) _ (List.getElem?_eq_getElem hlt) hx).below hbel (by decide)
      clear hcell
      have HX := Lib.hid hx; clear hx
      generalize vs[k]'(by omega) = vx at hcx hsx
      obtain ⟨ax, cx, rfl, hacx, hcx2⟩ := sees_form hsx
      have hsn : flatP (ll.take (k + 1)) = flatP (ll.take k) ++ put64 (ll[k]).length ++ ll[k] := by
        rw [List.take_succ_eq_append_getElem hlt, flatP_snoc]
      have hle := flatP_take_le ll (k + 1)
      rw [hsn] at hle; simp only [List.length_append, length_put64] at hle
      have HSN := Lib.hid hsn; clear hsn
      have hS : ∀ e : InC (fun u => u.cell? ⟨b, o + k, none⟩ = some (.slice ax ll[k].length cx)), e.u.cell? ⟨b, o + k, none⟩ = some (.slice ax ll[k].length cx) := fun e => e.has
      go_wp2_with fail
      try change Code.wp _ _ _ (Act.mk _ _) _
      haveI hne_ : Nonempty (InC (fun u => u.cell? ⟨b, o + k, none⟩ = some (.slice ax ll[k].length cx))) := ⟨⟨_, hcx⟩⟩
      refine wp_region_ph (C := fun w_ => ∃ e_ : InC (fun u => u.cell? ⟨b, o + k, none⟩ = some (.slice ax ll[k].length cx)), w_ = e_.u) [([0, 1, 2, 3, 4, 5, 6, 8, 9, 10, 11], 7), ([], 12)] [13] (by kernel_rfl) (by kernel_rfl) (fun _ _ _ _ hd_ h_ => ⟨hd_.symm.trans h_.1, h_.2⟩) ⟨⟨World.drew _, hcx⟩, rfl⟩ ?_
      first | refine wpPh_cons ?_ | refine wpPh_nil ?_
      simp only [pickOps, List.flatMap_cons, List.flatMap_nil, List.drop_succ_cons, List.drop_zero, List.take_succ_cons, List.take_zero, List.cons_append, List.nil_append, List.append_nil]
      iterate 11 (go_big_quiet_step (exact rfl))
      refine wpQuiet_nil ?_
      go_wp2_with (go_at_call 91; refine (Put64r_any _ _ (flatP (ll.take k)) _ hb.drew (by omega) (by omega) (by omega)).mono ?_; rintro e w5 ⟨v6, rfl, hown6, hb6⟩)
      refine phPost_normal ⟨⟨⟨_, (hb6.cell (World.block_lt_of_cell? wr _ hcx)).trans hcx⟩, rfl⟩, ?_⟩
      first | refine wpPh_cons ?_ | refine wpPh_nil ?_
      simp only [pickOps, List.flatMap_cons, List.flatMap_nil, List.drop_succ_cons, List.drop_zero, List.take_succ_cons, List.take_zero, List.cons_append, List.nil_append, List.append_nil]
      refine wpQuiet_nil ?_
      go_wp2_with (at_builtin; refine appB (W := wr.drew) rfl _ _ rfl v6 _ rfl hown6 _ (ll[k]) rfl (hsx.drew.below hb6 (by decide)) (by simp only [List.length_append, length_put64]; omega) hb6 ?_; intro v7 w7 hown7 hgr7 hb7)
      refine phPost_normal ⟨⟨⟨_, (hb7.cell (World.block_lt_of_cell? wr _ hcx)).trans hcx⟩, rfl⟩, ?_⟩
      first | refine wpPh_cons ?_ | refine wpPh_nil ?_
      simp only [pickOps, List.flatMap_cons, List.flatMap_nil, List.drop_succ_cons, List.drop_zero, List.take_succ_cons, List.take_zero, List.cons_append, List.nil_append, List.append_nil]
      iterate 1 (go_big_quiet_step (exact rfl))
      refine wpQuiet_nil ?_
      go_wp2_with fail
      have hbel7 := hbel.drew.trans (hb7.mono hbel.size)
      go_roundw
      case rel =>
        refine ⟨k + 1, by omega, by go_num, ?_, ⟨z, hz.drew.below hb7, hzs⟩, hbel7⟩
        rw [HSN.out]
        have := sees_of_owns hown7
        rwa [show ((ll[k].length : Int)).toNat = ll[k].length from by omega] at this
      case measure => simp [intOf]; omega
    · obtain rfl : k = ll.length := by omega
      rw [List.take_length] at hb
      go_wp2_with (first
        | (go_at_call 98; refine (Shar_any _ _ (flatP ll) hb hl).mono ?_; rintro e w5 ⟨rfl, hb5⟩; have hz5 := hz.below hb5)
        | (refine wpList_store_row rfl 24 _ _ rfl w.heap.size (keyA (sha (flatP ll))) _ _ rfl rfl hz5 (by rw [hzs, keyA_size, length_sha]) (by rw [keyA_size, length_sha]; exact info_key) (keyA_one _) ?_; intro w7 hg7 hs7 hR7))
      have hbel5 := hbel.trans (hb5.mono hbel.size)
      refine bodyPost_ret (results_cell_row Tryz.results102 _ _ w.heap.size _ _ (0, 0) _ rfl hR7 under_key rfl (by rw [keyA_size, length_sha]; exact info_key)) rfl ⟨rfl, hbel5.grown hg7 hbel5.size (fun k hk => ?_)⟩
      cases hk; exact Nat.le_refl _
end Go.Proofs.YtbgnfioggmkdeaaGreatDoor
