/-
  A block mixed in: the first program.
-/
import Derived.Test.YteialfdhbfbkgaaSha2
namespace Go.Proofs.Yteialfdhbfbkgaa
set_option linter.unusedVariables false
set_option linter.unusedSimpArgs false
open Go Go.RowKit
attribute [local go_sem] bits32_and bits32_or bits32_xor bits32_not add32 add32' shr32_3 shr32_10 u32_unsigned

theorem blk8 {w : World} {g : Nat} {s : W8} {t : TypeId} (h : Blk w g (cells8 s) t) :
    w.cell? ⟨g, 0, none⟩ = some (.int .u32 (N32 s.a)) ∧ w.cell? ⟨g, 1, none⟩ = some (.int .u32 (N32 s.b)) ∧ w.cell? ⟨g, 2, none⟩ = some (.int .u32 (N32 s.c)) ∧ w.cell? ⟨g, 3, none⟩ = some (.int .u32 (N32 s.d)) ∧
    w.cell? ⟨g, 4, none⟩ = some (.int .u32 (N32 s.e)) ∧ w.cell? ⟨g, 5, none⟩ = some (.int .u32 (N32 s.f)) ∧ w.cell? ⟨g, 6, none⟩ = some (.int .u32 (N32 s.g)) ∧ w.cell? ⟨g, 7, none⟩ = some (.int .u32 (N32 s.h)) :=
  ⟨h.cell 0, h.cell 1, h.cell 2, h.cell 3, h.cell 4, h.cell 5, h.cell 6, h.cell 7⟩
theorem one8 (s : W8) : ∀ v ∈ (cells8 s).toList, v.oneCell' = true := by rw [cells8_arr]; exact arr32_one _ _
/-- Eight words loaded out of a block, and stored over one. -/
theorem wpList_load8 {w : World} {ops : Array Oper} {rest : List Oper} {o : Oper} {a : Act} {Q : Exit → Act → World → Prop} (hgd : o.guard = none) (x : Operand) (ho : o.op = .load 95 x)
    (g : Nat) (s : W8) (hx : a.eval x = .pointer (some ⟨g, 0, none⟩)) (hb : Blk w g (cells8 s) 95) (h : wpList Try.prog ops Q rest (a.put o.dst (agg8 s)) w) : wpList Try.prog ops Q (o :: rest) a w :=
  wpList_load_row hgd _ x ho g hx _ _ (0, 0) _ hb Try.underlying95 rfl (by rw [size8]; exact info_arr8) h
theorem wpList_store8 {w : World} {ops : Array Oper} {rest : List Oper} {o : Oper} {a : Act} {Q : Exit → Act → World → Prop} (hgd : o.guard = none) (x y : Operand) (ho : o.op = .store 95 x y)
    (g : Nat) (s z : W8) (hx : a.eval x = .pointer (some ⟨g, 0, none⟩)) (hy : a.eval y = agg8 s) (hb : Blk w g (cells8 z) 95)
    (h : ∀ w', w.grownBy w' (some g) → w'.heap.size = w.heap.size → Blk w' g (cells8 s) 95 → wpList Try.prog ops Q rest (a.put o.dst undef) w') : wpList Try.prog ops Q (o :: rest) a w :=
  wpList_store_row hgd _ x y ho g (cells8 s) (cells8 z) _ hx hy hb (by rw [size8, size8]) (by rw [size8]; exact info_arr8) (one8 s) h
theorem result8 {fn : Func} {p : Tmp} (h : fn.results = #[.cell p 95]) (tmps : Array Value) (w : World) (g : Nat) (s : W8)
    (hp : tmps.getD p undef = .pointer (some ⟨g, 0, none⟩)) (hb : Blk w g (cells8 s) 95) : (results fn tmps).run Try.prog w = .ok (agg8 s) w :=
  results_cell_row h tmps w g _ _ (0, 0) _ hp hb Try.underlying95 rfl (by rw [size8]; exact info_arr8)
theorem run_index64 (f : Nat → BitVec 32) (i : Nat) (h : i < 64) (w : World) : (Instr.index 97 (.agg (arr32 64 f)) (.int .i64 i)).run Try.prog w = .ok (.int .u32 (N32 (f i))) w := by
  have hc := arr32_get 64 f i h
  have hs := arr32_size 64 f
  generalize arr32 64 f = cs at hc hs
  have h1 : (Try.prog.info? 94).map (·.size) = some 1 := by kernel_rfl
  obtain ⟨ti, hti, hsz⟩ := Option.map_eq_some_iff.1 h1
  simp [Instr.index, run_underlying Try.underlying97, sizeOf, typeInfo, hti, hsz, h, go_sem]
  rw [hc]; rfl

def MixRel (w : World) (s : W8) (k m : Nat → BitVec 32) (i : Value) (wr : World) : Prop :=
  ∃ n : Nat, n ≤ 64 ∧ i = .int .i64 n ∧ Blk wr w.heap.size (cells8 s) 95 ∧ Blk wr (w.heap.size + 1) (arr32 64 k) 97 ∧ (∃ z, Blk wr (w.heap.size + 1 + 1) (cells8 z) 95) ∧
    Blk wr (w.heap.size + 1 + 1 + 1) (cells8 (shaRounds s k m n)) 95 ∧ Below w.heap.size w wr
def MixRel2 (w : World) (s t : W8) (i : Value) (wr : World) : Prop :=
  ∃ n : Nat, n ≤ 8 ∧ i = .int .i64 n ∧ Blk wr w.heap.size (arr32 8 (fun j => if j < n then s.get j + t.get j else s.get j)) 95 ∧ (∃ z, Blk wr (w.heap.size + 1 + 1) (cells8 z) 95) ∧
    Blk wr (w.heap.size + 1 + 1 + 1) (cells8 t) 95 ∧ Below w.heap.size w wr

set_option maxRecDepth 100000 in
set_option maxHeartbeats 1000000 in
theorem mix_any (w : World) (v : Value) (l : List UInt8) (s : W8) (k : Nat → BitVec 32) (hv : SeesB w v l) (hl : l.length = 64) :
    Calls Try.prog 96 #[agg8 s, v, .agg (arr32 64 k)] w fun e w' => e = .returned (agg8 (shaMix s k l)) ∧ Below w.heap.size w w' := by
  have HL := Lib.hid hl; clear hl
  go_enter Try.func96, Try.ntmps96
  go_wp2_with (go_at_call 115; refine (schedule_any _ _ l ((((hv.alloc (by decide) _).alloc (by decide) _).alloc (by decide) _).alloc (by decide) _) HL.out).mono ?_; rintro e w1 ⟨rfl, hb1⟩)
  have hA : Blk w1 w.heap.size (cells8 s) 95 := ((((Blk.new w _ _).alloc _).alloc _).alloc _).below hb1
  have hK : Blk w1 (w.heap.size + 1) (arr32 64 k) 97 := (((Blk.new2 w _ _ _).alloc _).alloc _).below hb1
  have hZ : Blk w1 (w.heap.size + 1 + 1) (cells8 ⟨0, 0, 0, 0, 0, 0, 0, 0⟩) 95 := ((Blk.new3 w _ _ _ _).alloc _).below hb1
  have hN : Blk w1 (w.heap.size + 1 + 1 + 1) (cells8 s) 95 := (Blk.new4 w _ _ _ _ _).below hb1
  have hbel : Below w.heap.size w w1 := Below.trans (by go_grown) (hb1.mono (by simp only [World.size_alloc]; omega))
  clear hb1
  go_loopw [14] (fun i wr => MixRel w s k (shaW (blkW l)) i wr) (fun i _ => 64 - (intOf i).toNat)
  case atStart => exact ⟨0, by omega, rfl, hA, hK, ⟨_, hZ⟩, hN, hbel⟩
  case round =>
    clear hA hK hZ hN hbel
    obtain ⟨n, hn, rfl, hA, hK, ⟨z, hZ⟩, hN, hbel⟩ := hrel
    by_cases hlt : n < 64
    · obtain ⟨c0, c1, c2, c3, c4, c5, c6, c7⟩ := blk8 hN
      have ck : wr.cell? ⟨w.heap.size + 1, n, none⟩ = some (.int .u32 (N32 (k n))) := by rw [hK.cell, arr32_get _ _ _ hlt]
      have hix := run_index64 (shaW (blkW l)) n hlt
      go_wp2_with fail
      refine wp_region_quiet_tail 6 (by kernel_rfl) (by kernel_rfl) ?_
      simp only [List.take_succ_cons, List.take_zero, List.drop_succ_cons, List.drop_zero]
      iterate 6 (go_big_quiet_step (fail))
      refine wpQuiet_nil ?_
      intro nr
      go_wp2_with (first
        | (go_at_call 116; refine (step_any _ _ _).mono ?_; rintro e w2 ⟨rfl, hb2⟩; have hN2 := Blk.below (hN.drewN nr) hb2)
        | (refine wpList_store8 rfl _ _ rfl (w.heap.size + 1 + 1 + 1) _ _ rfl rfl hN2 ?_; intro w3 hg3 hs3 hN3))
      go_roundw
      case rel =>
        have hbel2 := (below_drewN hbel nr).trans (hb2.mono (below_drewN hbel nr).size)
        exact ⟨n + 1, by omega, by go_num, ((hA.drewN nr).below hb2).grownBy hg3 (some_ne (by omega)), ((hK.drewN nr).below hb2).grownBy hg3 (some_ne (by omega)), ⟨z, ((hZ.drewN nr).below hb2).grownBy hg3 (some_ne (by omega))⟩, hN3,
          hbel2.grown hg3 hbel2.size (fun k hk => by cases hk; omega)⟩
      case measure => simp [intOf]; omega
    · obtain rfl : n = 64 := by omega
      generalize hT : shaRounds s k (shaW (blkW l)) 64 = T at hN
      have HT := Lib.hid hT; clear hT
      go_wp2_with fail
      go_loopw [26] (fun i wr => MixRel2 w s T i wr) (fun i _ => 8 - (intOf i).toNat)
      case atStart => exact ⟨0, by omega, rfl, hA, ⟨z, hZ⟩, hN, hbel⟩
      case round =>
        clear hA hZ hN hbel hK
        obtain ⟨n, hn, rfl, hA, ⟨z, hZ⟩, hN, hbel⟩ := hrel
        by_cases hlt : n < 8
        · have cA : wr.cell? ⟨w.heap.size, n, none⟩ = some (.int .u32 (N32 (s.get n))) := by rw [hA.cell, arr32_get _ _ _ hlt, if_neg (by omega)]
          have cN : wr.cell? ⟨w.heap.size + 1 + 1 + 1, n, none⟩ = some (.int .u32 (N32 (T.get n))) := by rw [hN.cell, cells8_arr, arr32_get _ _ _ hlt]
          have fA := hA.free n
          go_wp2_with fail
          refine wp_region_quiet_tail 8 (by kernel_rfl) (by kernel_rfl) ?_
          simp only [List.take_succ_cons, List.take_zero, List.drop_succ_cons, List.drop_zero]
          iterate 8 (go_big_quiet_step (fail))
          refine wpQuiet_nil ?_
          intro nr
          go_wp2_with fail
          go_roundw
          case rel =>
            refine ⟨n + 1, by omega, by go_num, ?_, ⟨z, (hZ.setCell _ _ (by simp only; omega)).drewN nr⟩, (hN.setCell _ _ (by simp only; omega)).drewN nr, below_drewN (hbel.setCell (by simp only; omega) _) nr⟩
            have := hA.set n (.int .u32 (N32 (s.get n + T.get n)))
            rw [arr32_set] at this
            rw [arr32_congr (g := fun j => if j = n then s.get n + T.get n else if j < n then s.get j + T.get j else s.get j)]
            · exact this.drewN nr
            · intro j _
              by_cases e : j = n
              · subst e; simp
              · by_cases e2 : j < n
                · simp [e, e2, show j < n + 1 from by omega]
                · simp [e, e2, show ¬ j < n + 1 from by omega]
          case measure => simp [intOf]; omega
        · obtain rfl : n = 8 := by omega
          have eA : arr32 8 (fun j => if j < 8 then s.get j + T.get j else s.get j) = cells8 (s.add T) := by
            rw [← add8_arr]; exact arr32_congr fun i hi => by simp [hi]
          rw [eA] at hA; clear eA
          go_wp2_with (first
            | (refine wpList_load8 rfl _ rfl w.heap.size _ rfl hA ?_)
            | (refine wpList_store8 rfl _ _ rfl (w.heap.size + 1 + 1) _ _ rfl rfl hZ ?_; intro w2 hg2 hs2 hR2))
          refine bodyPost_ret (result8 Try.results96 _ _ (w.heap.size + 1 + 1) _ rfl hR2) rfl ⟨?_, hbel.grown hg2 hbel.size (fun k hk => ?_)⟩
          · show Ending.returned (agg8 (s.add T)) = Ending.returned (agg8 (shaMix s k l))
            unfold shaMix; rw [HT.out]
          · cases hk; omega
end Go.Proofs.Yteialfdhbfbkgaa
