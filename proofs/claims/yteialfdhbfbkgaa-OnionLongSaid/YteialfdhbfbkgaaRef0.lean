/-
  A block mixed in: the reference.
-/
import Derived.Test.YteialfdhbfbkgaaSha7
import Derived.Test.YteialfdhbfbkgaaSched
namespace Go.Proofs.Yteialfdhbfbkgaa
set_option linter.unusedVariables false
set_option linter.unusedSimpArgs false
open Go Go.RowKit
attribute [local go_sem] bits32_and bits32_or bits32_xor bits32_not add32 add32' shr32_3 shr32_10 u32_unsigned

def MixedRel1 (w : World) (s : W8) (f : Nat → BitVec 32) (i : Value) (wr : World) : Prop :=
  ∃ n : Nat, 16 ≤ n ∧ n ≤ 64 ∧ i = .int .i64 n ∧ Blk wr w.heap.size (cells8 s) 95 ∧ Blk wr (w.heap.size + 1) (arr32 64 (fun j => if j < n then shaW f j else f j)) 97 ∧
    (∃ z, Blk wr (w.heap.size + 1 + 1) (cells8 z) 95) ∧ Below w.heap.size w wr

def MixedRel2 (w : World) (B : Nat) (s : W8) (f k : Nat → BitVec 32) (i : Value) (wr : World) : Prop :=
  ∃ n : Nat, n ≤ 64 ∧ i = .int .i64 n ∧ Blk wr w.heap.size (cells8 s) 95 ∧ Blk wr (w.heap.size + 1) (arr32 64 (shaW f)) 97 ∧
    (∃ z, Blk wr (w.heap.size + 1 + 1) (cells8 z) 95) ∧ Blk wr B (cells8 (shaRounds s k (shaW f) n)) 95 ∧ Below w.heap.size w wr
def MixedRel3 (w0 : World) (B : Nat) (T : W8) (j : Value) (wr : World) : Prop :=
  ∃ m : Nat, m ≤ 7 ∧ j = .int .i64 m ∧ w0.grownBy wr (some B) ∧ Blk wr B (arr32 8 (fun i => if i ≤ m then T.get i else T.get (i - 1))) 95
def MixedRel4 (w : World) (B : Nat) (s T : W8) (i : Value) (wr : World) : Prop :=
  ∃ n : Nat, n ≤ 8 ∧ i = .int .i64 n ∧ Blk wr w.heap.size (cells8 s) 95 ∧ (∃ z, Blk wr (w.heap.size + 1 + 1) (cells8 z) 95) ∧
    Blk wr B (arr32 8 (fun j => if j < n then s.get j + T.get j else T.get j)) 95 ∧ Below w.heap.size w wr
theorem mixed_put {wr : World} {g n : Nat} {t : TypeId} {f : Nat → BitVec 32} (h : Blk wr g (arr32 64 (fun j => if j < n then shaW f j else f j)) t) :
    Blk (wr.setCell ⟨g, n, none⟩ (.int .u32 (N32 (shaW f n)))) g (arr32 64 (fun j => if j < n + 1 then shaW f j else f j)) t := by
  have := h.set n (.int .u32 (N32 (shaW f n)))
  rw [arr32_set] at this
  rw [arr32_congr (g := fun j => if j = n then shaW f n else if j < n then shaW f j else f j)]
  · exact this
  · intro j _
    by_cases e : j = n
    · subst e; simp
    · by_cases e2 : j < n
      · simp [e, e2, show j < n + 1 from by omega]
      · simp [e, e2, show ¬ j < n + 1 from by omega]

theorem mixed_step (T : W8) (k m : BitVec 32) : cells8 (shaStep T (k + m)) = ((cells8 ⟨T.a, T.a, T.b, T.c, T.d, T.e, T.f, T.g⟩).setIfInBounds 4 (.int .u32 (N32 (T.d + (T.h + (T.e.rotateRight 6 ^^^ T.e.rotateRight 11 ^^^ T.e.rotateRight 25) + (T.e &&& T.f ^^^ ~~~T.e &&& T.g) + k + m))))).setIfInBounds 0
    (.int .u32 (N32 (T.h + (T.e.rotateRight 6 ^^^ T.e.rotateRight 11 ^^^ T.e.rotateRight 25) + (T.e &&& T.f ^^^ ~~~T.e &&& T.g) + k + m + ((T.a.rotateRight 2 ^^^ T.a.rotateRight 13 ^^^ T.a.rotateRight 22) + (T.a &&& T.b ^^^ T.a &&& T.c ^^^ T.b &&& T.c))))) := by
  have e : ∀ X : BitVec 32, X + (k + m) = X + k + m := fun X => (BitVec.add_assoc X k m).symm
  simp only [shaStep, e, cells8, List.setIfInBounds_toArray, List.set_cons_zero, List.set_cons_succ]
set_option maxRecDepth 100000 in
set_option maxHeartbeats 1000000 in
theorem mixed_any (w : World) (v : Value) (s : W8) (f k : Nat → BitVec 32) (hv : Sees w 1 v 64 (arr32 64 k).toList) :
    Calls Try.prog 99 #[agg8 s, .agg (arr32 64 f), v] w fun e w' => e = .returned (agg8 (s.add (shaRounds s k (shaW f) 64))) ∧ Below w.heap.size w w' := by
  go_enter Try.func99, Try.ntmps99
  go_wp2_with fail
  go_loopw [7] (fun i wr => MixedRel1 w s f i wr) (fun i _ => 64 - (intOf i).toNat)
  case atStart =>
    refine ⟨16, by omega, by omega, rfl, (((Blk.new w _ _).alloc _).alloc _), ?_, ⟨⟨0, 0, 0, 0, 0, 0, 0, 0⟩, Blk.new3 w _ _ _ _⟩, by go_grown⟩
    have e : arr32 64 (fun j => if j < 16 then shaW f j else f j) = arr32 64 f := arr32_congr fun i hi => by
      by_cases h : i < 16
      · rw [if_pos h, shaW, if_pos h]
      · rw [if_neg h]
    rw [e]; exact (Blk.new2 w _ _ _).alloc _
  case round =>
    obtain ⟨n, h16, hn, rfl, hA, hM, ⟨z, hZ⟩, hbel⟩ := hrel
    by_cases hlt : n < 64
    · have hc : ∀ j, j < n → wr.cell? ⟨w.heap.size + 1, j, none⟩ = some (.int .u32 (N32 (shaW f j))) := fun j hj => by rw [hM.cell, arr32_get _ _ _ (by omega), if_pos hj]
      have h1 := hc (n - 15) (by omega)
      have h2 := hc (n - 2) (by omega)
      have h3 := hc (n - 16) (by omega)
      have h4 := hc (n - 7) (by omega)
      have h5 : wr.cell? ⟨w.heap.size + 1, n, none⟩ = some (.int .u32 (N32 (f n))) := by rw [hM.cell, arr32_get _ _ _ hlt, if_neg (by omega)]
      have h6 := hM.free n
      clear hc
      go_wp2_with fail
      refine wp_region_quiet_tail 29 (by kernel_rfl) (by kernel_rfl) ?_
      simp only [List.take_succ_cons, List.take_zero, List.drop_succ_cons, List.drop_zero]
      iterate 29 (go_big_quiet_step ((go_at_call 118; exact Calls.quiet_of_same (turn_any _ _ _ (by omega) (by omega)))))
      refine wpQuiet_nil ?_
      intro nr
      go_wp2_with fail
      go_roundw
      case rel =>
        refine ⟨n + 1, by omega, by omega, by go_num, (hA.setCell _ _ (by simp only; omega)).drewN nr, ?_, ⟨z, (hZ.setCell _ _ (by simp only; omega)).drewN nr⟩, below_drewN (hbel.setCell (by simp only; omega) _) nr⟩
        have := mixed_put hM
        have e : shaW f n = shaW f (n - 16) + shaW f (n - 7) + sig0 (shaW f (n - 15)) + sig1 (shaW f (n - 2)) := by
          rw [shaW, if_neg (by omega)]; ac_rfl
        rw [e] at this
        exact this.drewN nr
      case measure => simp [intOf]; omega
    · obtain rfl : n = 64 := by omega
      have eM : arr32 64 (fun j => if j < 64 then shaW f j else f j) = arr32 64 (shaW f) := arr32_congr fun i hi => by simp [hi]
      rw [eM] at hM; clear eM
      obtain ⟨c0, c1, c2, c3, c4, c5, c6, c7⟩ := blk8 hA
      go_wp2_with fail
      have hBs := hZ.lt
      have hN : Blk (wr.alloc (.cells (cells8 s) 95)) wr.heap.size (cells8 s) 95 := Blk.new wr _ _
      clear c0 c1 c2 c3 c4 c5 c6 c7
      have hsz := hbel.size
      generalize hBe : wr.heap.size = B at hBs hN hsz ⊢
      go_loopw [11] (fun i w' => MixedRel2 w B s f k i w') (fun i _ => 64 - (intOf i).toNat)
      case atStart => exact ⟨0, by omega, rfl, hA.alloc _, hM.alloc _, ⟨z, hZ.alloc _⟩, hN, hbel.alloc (by omega) _⟩
      case round =>
        clear hA hM hZ hN hbel h16 hn hlt hsz hBe
        obtain ⟨n, hn, rfl, hA, hM, ⟨z, hZ⟩, hN, hbel⟩ := hrel
        by_cases hlt : n < 64
        · obtain ⟨c0, c1, c2, c3, c4, c5, c6, c7⟩ := blk8 hN
          obtain ⟨hl1, a1, cv, he1, hn1, hm1, hnc1, hcellx⟩ := hv.below hbel (by decide)
          subst he1
          obtain ⟨b, o, rfl, hcell⟩ := hcellx (by omega)
          have ck := hcell n (.int .u32 (N32 (k n))) (by simp [arr32, hlt])
          have cm : wr.cell? ⟨w.heap.size + 1, n, none⟩ = some (.int .u32 (N32 (shaW f n))) := by rw [hM.cell, arr32_get _ _ _ hlt]
          clear hcell hcellx hl1 hnc1
          generalize hT : shaRounds s k (shaW f) n = T at *
          have HT := Lib.hid hT; clear hT
          go_wp2_with fail
          go_quiet ((go_at_call 118; exact Calls.quiet_of_same (turn_any _ _ _ (by omega) (by omega))))
          revert nq; intro nq1
          go_wp2_with fail
          go_quiet ((go_at_call 118; exact quiet_add_same (turn_any _ _ _ (by omega) (by omega))))
          go_wp2_with fail
          have hN0 : Blk ((wr.drewN nq1).drewN nq) B (arr32 8 (fun i => if i ≤ 7 then T.get i else T.get (i - 1))) 95 := by
            have e : arr32 8 (fun i => if i ≤ 7 then T.get i else T.get (i - 1)) = cells8 T := by rw [cells8_arr]; exact arr32_congr fun i hi => by rw [if_pos (by omega)]
            rw [e]; exact hN
          obtain ⟨wo, hwo⟩ : ∃ wo, wo = (wr.drewN nq1).drewN nq := ⟨_, rfl⟩
          have hAo : Blk wo w.heap.size (cells8 s) 95 := by rw [hwo]; exact hA
          have hMo : Blk wo (w.heap.size + 1) (arr32 64 (shaW f)) 97 := by rw [hwo]; exact hM
          have hZo : Blk wo (w.heap.size + 1 + 1) (cells8 z) 95 := by rw [hwo]; exact hZ
          have hbo : Below w.heap.size w wo := by rw [hwo]; exact below_drewN (below_drewN hbel _) _
          rw [← hwo] at hN0 ⊢
          clear hwo hA hM hZ hbel hN c0 c1 c2 c3 c4 c5 c6 c7 ck cm
          go_loopw [16] (fun j w' => MixedRel3 wo B T j w') (fun j _ => (intOf j).toNat)
          case atStart => exact ⟨7, by omega, rfl, grownBy_refl _ _, hN0⟩
          case round =>
            clear hN0
            obtain ⟨m, hm, rfl, hg, hN⟩ := hrel
            by_cases hm0 : 0 < m
            · have d1 : wr.cell? ⟨B, m - 1, none⟩ = some (.int .u32 (N32 (T.get (m - 1)))) := by rw [hN.cell, arr32_get _ _ _ (by omega), if_pos (by omega)]
              have d2 : wr.cell? ⟨B, m, none⟩ = some (.int .u32 (N32 (T.get m))) := by rw [hN.cell, arr32_get _ _ _ (by omega), if_pos (by omega)]
              have d3 := hN.free m
              go_wp2_with fail
              go_roundw
              case rel =>
                refine ⟨m - 1, by omega, by go_num, grownBy_set hg _ _, ?_⟩
                have := hN.set m (.int .u32 (N32 (T.get (m - 1))))
                rw [arr32_set] at this
                rw [arr32_congr (g := fun j => if j = m then T.get (m - 1) else if j ≤ m then T.get j else T.get (j - 1))]
                · exact this
                · intro j _
                  by_cases e : j = m
                  · subst e; simp; omega
                  · by_cases e2 : j ≤ m
                    · simp [e, e2, show j ≤ m - 1 from by omega]
                    · simp [e, e2, show ¬ j ≤ m - 1 from by omega]
              case measure => simp [intOf]; omega
            · obtain rfl : m = 0 := by omega
              have eN : arr32 8 (fun i => if i ≤ 0 then T.get i else T.get (i - 1)) = cells8 ⟨T.a, T.a, T.b, T.c, T.d, T.e, T.f, T.g⟩ := rfl
              rw [eN] at hN; clear eN
              obtain ⟨c0, c1, c2, c3, c4, c5, c6, c7⟩ := blk8 hN
              have f0 := hN.free 0
              have f4 := hN.free 4
              clear c1 c2 c3 c5 c6 c7
              go_wp2_with fail
              refine ⟨⟨n + 1, by omega, by go_num, hAo.grownBy (row := some B) ?_ (some_ne (by omega)), hMo.grownBy (row := some B) ?_ (some_ne (by omega)), ⟨z, hZo.grownBy (row := some B) ?_ (some_ne (by omega))⟩, ?_, ?_⟩, by simp [intOf]; omega⟩
              · exact grownBy_set (grownBy_set hg _ _) _ _
              · exact grownBy_set (grownBy_set hg _ _) _ _
              · exact grownBy_set (grownBy_set hg _ _) _ _
              · have e : shaRounds s k (shaW f) (n + 1) = shaStep T (k n + shaW f n) := by rw [← HT.out]; rfl
                rw [e, mixed_step]
                exact (hN.set 4 _).set 0 _
              · exact hbo.grown (grownBy_set (grownBy_set hg _ _) _ _) hbo.size (fun k hk => by cases hk; omega)
        · obtain rfl : n = 64 := by omega
          generalize hT : shaRounds s k (shaW f) 64 = T at hN
          have HT := Lib.hid hT; clear hT
          go_wp2_with fail
          go_loopw [17] (fun i wr => MixedRel4 w B s T i wr) (fun i _ => 8 - (intOf i).toNat)
          case atStart =>
            refine ⟨0, by omega, rfl, hA, ⟨z, hZ⟩, ?_, hbel⟩
            have e : arr32 8 (fun j => if j < 0 then s.get j + T.get j else T.get j) = cells8 T := by rw [cells8_arr]; exact arr32_congr fun i hi => by simp
            rw [e]; exact hN
          case round =>
            clear hN hA hM hZ hbel
            obtain ⟨n, hn, rfl, hA, ⟨z, hZ⟩, hN, hbel⟩ := hrel
            by_cases hlt : n < 8
            · have cA : wr.cell? ⟨w.heap.size, n, none⟩ = some (.int .u32 (N32 (s.get n))) := by rw [hA.cell, cells8_arr, arr32_get _ _ _ hlt]
              have cN : wr.cell? ⟨B, n, none⟩ = some (.int .u32 (N32 (T.get n))) := by rw [hN.cell, arr32_get _ _ _ hlt, if_neg (by omega)]
              have fN := hN.free n
              go_wp2_with fail
              refine wp_region_quiet_tail 9 (by kernel_rfl) (by kernel_rfl) ?_
              simp only [List.take_succ_cons, List.take_zero, List.drop_succ_cons, List.drop_zero]
              iterate 9 (go_big_quiet_step (fail))
              refine wpQuiet_nil ?_
              intro nr
              go_wp2_with fail
              go_roundw
              case rel =>
                refine ⟨n + 1, by omega, by go_num, (hA.setCell _ _ (by simp only; omega)).drewN nr, ⟨z, (hZ.setCell _ _ (by simp only; omega)).drewN nr⟩, ?_, below_drewN (hbel.setCell (by simp only; omega) _) nr⟩
                have := hN.set n (.int .u32 (N32 (T.get n + s.get n)))
                rw [arr32_set] at this
                rw [arr32_congr (g := fun j => if j = n then T.get n + s.get n else if j < n then s.get j + T.get j else T.get j)]
                · exact this.drewN nr
                · intro j _
                  by_cases e : j = n
                  · subst e; simp; exact BitVec.add_comm _ _
                  · by_cases e2 : j < n
                    · simp [e, e2, show j < n + 1 from by omega]
                    · simp [e, e2, show ¬ j < n + 1 from by omega]
              case measure => simp [intOf]; omega
            · obtain rfl : n = 8 := by omega
              have eN : arr32 8 (fun j => if j < 8 then s.get j + T.get j else T.get j) = cells8 (s.add T) := by
                rw [← add8_arr]; exact arr32_congr fun i hi => by simp [hi]
              rw [eN] at hN; clear eN
              go_wp2_with (first
                | (refine wpList_load8 rfl _ rfl B _ rfl hN ?_)
                | (refine wpList_store8 rfl _ _ rfl (w.heap.size + 1 + 1) _ _ rfl rfl hZ ?_; intro w2 hg2 hs2 hR2))
              refine bodyPost_ret (result8 Try.results99 _ _ (w.heap.size + 1 + 1) _ rfl hR2) rfl ⟨?_, hbel.grown hg2 hbel.size (fun k hk => ?_)⟩
              · show Ending.returned (agg8 (s.add T)) = Ending.returned (agg8 (s.add (shaRounds s k (shaW f) 64)))
                rw [HT.out]
              · cases hk; omega
end Go.Proofs.Yteialfdhbfbkgaa
