/-
  Keys of secrets: both programs.
-/
import Derived.Test.YteialfdhbfbkgaaDer2
namespace Go.Proofs.Yteialfdhbfbkgaa
set_option linter.unusedVariables false
set_option linter.unusedSimpArgs false
open Go Go.RowKit

def keyD (secret : List UInt8) (name : List UInt8) : List UInt8 := exp32 (mac (zeroB 32) secret) name
theorem length_keyD (secret name : List UInt8) : (keyD secret name).length = 32 := length_mac _ _
set_option maxRecDepth 100000 in
set_option maxHeartbeats 2000000 in
theorem Key_any (v : Value) (secret : List UInt8) (name : ByteArray) (w : World) (hv : SeesB w v secret) (hl : secret.length ≤ 70368744170000) (hi : name.size ≤ 1000) :
    Calls Try.prog 104 #[v, .string name] w fun e w' => e = .returned (.agg (keyA (keyD secret name.data.toList))) ∧ Below w.heap.size w w' := by
  obtain ⟨a0, c0, rfl, hac0, hc0⟩ := sees_form hv
  have HM := Lib.hid (length_mac (zeroB 32) secret)
  have HE := Lib.hid (show keyD secret name.data.toList = exp32 (mac (zeroB 32) secret) name.data.toList from rfl)
  have HEL := Lib.hid (length_keyD secret name.data.toList)
  have hmk : ∀ W : World, (Instr.makeSlice 25 (.int .i64 32) (.int .i64 32)).run Try.prog W = .ok (.slice (some ⟨W.heap.size, 0, none⟩) 32 32) (W.alloc (.cells (keyA (zeroB 32)) 5)) := fun W => run_make_bytes 32 W (by decide)
  generalize keyD secret name.data.toList = D at *
  have hR0 : Blk (w.alloc (.cells (keyA (List.replicate 32 0)) 23)) w.heap.size (keyA (List.replicate 32 0)) 23 := Blk.new _ _ _
  have hbel0 : Below w.heap.size w (w.alloc (.cells (keyA (List.replicate 32 0)) 23)) := by go_grown
  have hZ0 := Blk.new2 w (.cells (keyA (List.replicate 32 0)) 23) (keyA (zeroB 32)) 5
  have hR1 := hR0.alloc (.cells (keyA (zeroB 32)) 5)
  have hbel1 := hbel0.alloc hbel0.size (.cells (keyA (zeroB 32)) 5)
  clear hR0 hbel0
  rw [keyA_zero] at hR1 hbel1 hZ0
  rw [← keyA_zero] at hR1
  have hZs := seesB_key hZ0 (length_zeroB 32)
  have HR1 := Lib.hid hR1; have HB1 := Lib.hid hbel1; have HZ := Lib.hid hZs
  clear hR1 hbel1 hZs hZ0
  go_enter Try.func104, Try.ntmps104
  go_wp2_with (first
    | (go_at_call 65; refine (MacOf_any _ _ _ (zeroB 32) secret HZ.out (hv.below HB1.out (by decide)) (by rw [length_zeroB]; decide) hl).mono ?_; rintro e w1 ⟨rfl, hb1⟩
       have hR2 := HR1.out.below hb1
       have hbel2 := HB1.out.trans (hb1.mono HB1.out.size))
    | (refine wpList_store_row rfl 23 _ _ rfl w1.heap.size (keyA (mac (zeroB 32) secret)) _ _ rfl rfl (Blk.new _ _ _) (by rw [keyA_size, HM.out]; rfl) (by rw [keyA_size, HM.out]; exact info_key) (keyA_one _) ?_; intro w3 hg3 hs3 hK3
       have hR3 := (hR2.alloc (.cells _ _)).grownBy hg3 (some_ne (by have := hR2.lt; omega))
       have hbel3 : Below w.heap.size w w3 := (hbel2.alloc hbel2.size _).grown hg3 (by simp only [World.size_alloc]; exact Nat.le_succ_of_le hbel2.size) (fun k hk => by cases hk; exact hbel2.size)
       clear hg3 hs3)
    | (refine wpList_load_row rfl 23 _ rfl w1.heap.size rfl _ _ (0, 0) _ hK3 under_key rfl (by rw [keyA_size, HM.out]; exact info_key) ?_)
    | (go_at_call 122; refine (Expand_any (mac (zeroB 32) secret) name _ HM.out hi).mono ?_; rintro e w4 ⟨v4, rfl, hs4, ho4, hb4⟩; rw [← HE.out] at hs4
       obtain ⟨b, o, c, rfl, hc, hc', hr⟩ := seesB_open hs4 (by rw [HEL.out]; decide)
       have hat := run_arrayAt ⟨b, o, none⟩ c
       rw [HEL.out]
       have hR4 := hR3.below hb4
       have hbel4 := hbel3.trans (hb4.mono hbel3.size)
       have HR := Lib.hid hr
       clear hr hs4)
    | (refine wpList_load_mid rfl 23 _ rfl b o rfl (D.map BV) _ HR.out under_key rfl (by rw [List.length_map, HEL.out]; exact info_key) ?_)
    | (refine wpList_store_row rfl 23 _ _ rfl w.heap.size (keyA D) _ _ rfl rfl hR4 (by rw [keyA_size, keyA_size, HEL.out]; rfl) (by rw [keyA_size, HEL.out]; exact info_key) (keyA_one _) ?_; intro w7 hg7 hs7 hR7))
  refine bodyPost_ret (results_cell_row Try.results104 _ _ w.heap.size _ _ (0, 0) _ rfl hR7 under_key rfl (by rw [keyA_size, HEL.out]; exact info_key)) rfl ⟨rfl, hbel4.grown hg7 hbel4.size (fun k hk => by cases hk; exact Nat.le_refl _)⟩

set_option maxRecDepth 100000 in
set_option maxHeartbeats 2000000 in
theorem Keyr_any (v : Value) (secret : List UInt8) (name : ByteArray) (w : World) (hv : SeesB w v secret) (hl : secret.length ≤ 70368744170000) (hi : name.size ≤ 1000) :
    Calls Try.prog 107 #[v, .string name] w fun e w' => e = .returned (.agg (keyA (keyD secret name.data.toList))) ∧ Below w.heap.size w w' := by
  obtain ⟨a0, c0, rfl, hac0, hc0⟩ := sees_form hv
  have HM := Lib.hid (length_mac (zeroB 32) secret)
  have HE := Lib.hid (show keyD secret name.data.toList = exp32 (mac (zeroB 32) secret) name.data.toList from rfl)
  have HEL := Lib.hid (length_keyD secret name.data.toList)
  generalize keyD secret name.data.toList = D at *
  have hz : keyA (List.replicate 32 0) = keyA (zeroB 32) := rfl
  have hR0 := ((Blk.new w (keyA (List.replicate 32 0)) 23).alloc (.cells (keyA (List.replicate 32 0)) 23)).alloc (.cells (keyA (List.replicate 32 0)) 23)
  have hZ0 := (Blk.new2 w (.cells (keyA (List.replicate 32 0)) 23) (keyA (List.replicate 32 0)) 23).alloc (.cells (keyA (List.replicate 32 0)) 23)
  have hK0 := Blk.new3 w (.cells (keyA (List.replicate 32 0)) 23) (.cells (keyA (List.replicate 32 0)) 23) (keyA (List.replicate 32 0)) 23
  have hbel0 : Below w.heap.size w (((w.alloc (.cells (keyA (List.replicate 32 0)) 23)).alloc (.cells (keyA (List.replicate 32 0)) 23)).alloc (.cells (keyA (List.replicate 32 0)) 23)) := by go_grown
  have hZs := seesB_key hZ0 (List.length_replicate ..)
  clear hZ0
  generalize hU : ((w.alloc (.cells (keyA (List.replicate 32 0)) 23)).alloc (.cells (keyA (List.replicate 32 0)) 23)).alloc (.cells (keyA (List.replicate 32 0)) 23) = u0 at *
  rw [keyA_zero] at hU
  have HU := Lib.hid hU; clear hU
  go_enter Try.func107, Try.ntmps107
  go_wp2_with (first
    | (go_at_call 70; rw [HU.out]; refine (Macr_any _ _ _ (zeroB 32) secret hZs (hv.below hbel0 (by decide)) (by rw [length_zeroB]; decide) hl).mono ?_; rintro e w1 ⟨rfl, hb1⟩
       have hR2 := hR0.below hb1
       have hK2 := hK0.below hb1
       have hbel2 := hbel0.trans (hb1.mono hbel0.size))
    | (go_at_call 123; refine (Expandr_any (mac (zeroB 32) secret) name _ HM.out hi).mono ?_; rintro e w4 ⟨v4, rfl, hs4, ho4, hb4⟩; rw [← HE.out] at hs4
       obtain ⟨b, o, c, rfl, hc, hc', hr⟩ := seesB_open hs4 (by rw [HEL.out]; decide)
       rw [HEL.out] at hc ⊢
       have hR4 := hR2.below hb4
       have hK4 := hK2.below hb4
       have hne : b ≠ w.heap.size + 1 + 1 := by have := ho4 b rfl; have := hK2.lt; omega
       have hbel4 := hbel2.trans (hb4.mono hbel2.size)
       have HR := Lib.hid hr
       clear hr hs4))
  have hblt : b < w4.heap.size := World.block_lt_of_cell? w4 _ (HR.out 0 (BV (D[0]'(by rw [HEL.out]; decide))) (by rw [List.getElem?_map, List.getElem?_eq_getElem (by rw [HEL.out]; decide)]; rfl))
  have hst := Lib.hid (show ShaRel4 w4 (w.heap.size + 1 + 1) D (.int .i64 0) w4 from ⟨0, by omega, rfl, by
    have e : arrB 32 (fun j => if j < 0 then D.getD j 0 else 0) = keyA (List.replicate 32 0) := by
      rw [keyA_arrB]
      show _ = arrB 32 _
      exact arrB_congr fun i hi => by rw [if_neg (by omega), List.getD_eq_getElem?_getD, List.getElem?_replicate, if_pos hi]; rfl
    rw [e]; exact hK4, grownBy_refl _ _⟩)
  go_loopw [8] (fun i wr => ShaRel4 w4 (w.heap.size + 1 + 1) D i wr) (fun i _ => 32 - (intOf i).toNat)
  case atStart => exact hst.out
  case round =>
    clear hst
    obtain ⟨m, hm, rfl, hC, hg⟩ := hrel
    by_cases hmlt : m < 32
    · have hc1' : wr.cell? ⟨w.heap.size + 1 + 1, m, none⟩ = some (BV 0) := by rw [hC.cell, arrB_get _ _ _ hmlt, if_neg (by omega)]
      have hcf := hC.free m
      have hcr : wr.cell? ⟨b, o + m, none⟩ = some (BV (D.getD m 0)) := by
        rw [World.cell?_of_block (w := w4) (hg.block b hblt (some_ne hne))]
        apply HR.out
        rw [List.getElem?_map, List.getD_eq_getElem?_getD, List.getElem?_eq_getElem (by rw [HEL.out]; omega)]; rfl
      generalize hbx : D.getD m 0 = bx at hcr
      have HBX := Lib.hid hbx; clear hbx
      go_wp2_with fail
      go_roundw
      case rel =>
        refine ⟨m + 1, by omega, by go_num, ?_, grownBy_set hg _ _⟩
        have := hC.set m (BV (D.getD m 0))
        rw [arrB_step, HBX.out] at this; exact this
      case measure => simp [intOf]; omega
    · obtain rfl : m = 32 := by omega
      have e : arrB 32 (fun j => if j < 32 then D.getD j 0 else 0) = keyA D := by
        rw [keyA_arrB, HEL.out]; exact arrB_congr fun i hi => by simp [hi]
      rw [e] at hC; clear e
      have hkr := hR4.grownBy hg (some_ne (by omega))
      have hbr := hbel4.grown hg hbel4.size (fun k hk => by cases hk; omega)
      go_wp2_with (first
        | (refine wpList_load_row rfl 23 _ rfl (w.heap.size + 1 + 1) rfl _ _ (0, 0) _ hC under_key rfl (by rw [keyA_size, HEL.out]; exact info_key) ?_)
        | (refine wpList_store_row rfl 23 _ _ rfl w.heap.size (keyA D) _ _ rfl rfl hkr (by rw [keyA_size, keyA_size, HEL.out]; rfl) (by rw [keyA_size, HEL.out]; exact info_key) (keyA_one _) ?_; intro w7 hg7 hs7 hR7))
      exact bodyPost_ret (results_cell_row Try.results107 _ _ w.heap.size _ _ (0, 0) _ rfl hR7 under_key rfl (by rw [keyA_size, HEL.out]; exact info_key)) rfl ⟨rfl, hbr.grown hg7 hbr.size (fun k hk => by cases hk; exact Nat.le_refl _)⟩
end Go.Proofs.Yteialfdhbfbkgaa
