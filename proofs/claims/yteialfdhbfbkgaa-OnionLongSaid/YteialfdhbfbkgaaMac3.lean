/-
  Sums with a key: the reference.
-/
import Derived.Test.YteialfdhbfbkgaaMac2
import Derived.Test.YteialfdhbfbkgaaRef2
namespace Go.Proofs.Yteialfdhbfbkgaa
set_option linter.unusedVariables false
set_option linter.unusedSimpArgs false
open Go Go.RowKit

theorem ownB_blk {w : World} {B g : Nat} {l : List UInt8} (h : Blk w g (keyA l) 5) (hB : B ≤ g) (hm : l.length ≤ maxLen) : OwnB w B (.slice (some ⟨g, 0, none⟩) l.length l.length) l :=
  ⟨by simp, .inr ⟨g, l.length, keyA l, rfl, hB, h, Nat.le_refl _, hm, by simp [keyA], by rw [Nat.mul_one, keyA, List.take_of_length_le (by simp)]⟩⟩
def zeroB (n : Nat) : List UInt8 := List.replicate n 0
theorem length_zeroB (n : Nat) : (zeroB n).length = n := List.length_replicate ..
theorem run_make_bytes (n : Nat) (w : World) (hn : n ≤ 16777216) : (Instr.makeSlice 25 (.int .i64 n) (.int .i64 n)).run Try.prog w = .ok (.slice (some ⟨w.heap.size, 0, none⟩) n n) (w.alloc (.cells (keyA (zeroB n)) 5)) := by
  obtain ⟨i, hi, hz, hsize, hby⟩ := info_parts info_u8
  have h := run_makeSlice (P := Try.prog) w 25 5 i (.int .u8 0) Try.underlying25 hi hz .i64 .i64 n n (by omega) (Int.le_refl _) (by rw [hsize]; omega) (by rw [hby]; omega) (by omega)
  have e : madeCells (Value.int .u8 0).cells n = keyA (zeroB n) := by
    unfold madeCells keyA zeroB
    rw [List.map_replicate]
    apply Array.ext_getElem?
    intro j
    by_cases hj : j < n
    · simp [Value.cells, hj, Nat.mod_one]
    · simp [hj]
  rw [hsize, Nat.mul_one, Int.toNat_natCast, e] at h
  exact h
theorem arrB_zero64 : arrB 64 (fun _ => 0) = #[.int .u8 0, .int .u8 0, .int .u8 0, .int .u8 0, .int .u8 0, .int .u8 0, .int .u8 0, .int .u8 0, .int .u8 0, .int .u8 0, .int .u8 0, .int .u8 0, .int .u8 0, .int .u8 0, .int .u8 0, .int .u8 0, .int .u8 0, .int .u8 0, .int .u8 0, .int .u8 0, .int .u8 0, .int .u8 0, .int .u8 0, .int .u8 0, .int .u8 0, .int .u8 0, .int .u8 0, .int .u8 0, .int .u8 0, .int .u8 0, .int .u8 0, .int .u8 0, .int .u8 0, .int .u8 0, .int .u8 0, .int .u8 0, .int .u8 0, .int .u8 0, .int .u8 0, .int .u8 0, .int .u8 0, .int .u8 0, .int .u8 0, .int .u8 0, .int .u8 0, .int .u8 0, .int .u8 0, .int .u8 0, .int .u8 0, .int .u8 0, .int .u8 0, .int .u8 0, .int .u8 0, .int .u8 0, .int .u8 0, .int .u8 0, .int .u8 0, .int .u8 0, .int .u8 0, .int .u8 0, .int .u8 0, .int .u8 0, .int .u8 0, .int .u8 0] := by rfl
theorem arrB_key {n : Nat} {l : List UInt8} (h : l.length = n) : arrB n (fun j => l.getD j 0) = keyA l := by subst h; exact (keyA_arrB l).symm
theorem seesB_at {w : World} {a : Option Addr} {n c : Nat} {l : List UInt8} (h : SeesB w (.slice a n c) l) (hn : 0 < l.length) : ∃ b o, a = some ⟨b, o, none⟩ ∧ w.rangeAt b o (l.map BV) := by
  obtain ⟨hl, a', c', he, hc, hm, hnc, hb⟩ := h
  injection he with e1 _ _
  obtain ⟨b, o, rfl, hcell⟩ := hb hn
  exact ⟨b, o, e1, hcell⟩
def MacRel (u : World) (B : Nat) (K : List UInt8) (i : Value) (wr : World) : Prop :=
  ∃ n : Nat, n ≤ 64 ∧ i = .int .i64 n ∧ Blk wr B (arrB 64 (fun j => if j < n then K.getD j 0 ^^^ 54 else 0)) 5 ∧ Blk wr (B + 1) (arrB 64 (fun j => if j < n then K.getD j 0 ^^^ 92 else 0)) 5 ∧ Below u.heap.size u wr
theorem arrB_none (f : Nat → UInt8) : arrB 64 (fun j => if j < 0 then f j else 0) = keyA (zeroB 64) := by
  rw [← arrB_key (n := 64) (length_zeroB 64)]
  apply arrB_congr
  intro i hi
  rw [if_neg (by omega), List.getD_eq_getElem?_getD, zeroB, List.getElem?_replicate, if_pos hi]; rfl
theorem macK_getD {K l : List UInt8} (h : K = l ++ List.replicate (64 - l.length) 0) (j : Nat) (hj : j < 64) : K.getD j 0 = l.getD j 0 := by
  rw [h, List.getD_eq_getElem?_getD, List.getD_eq_getElem?_getD]
  by_cases hl : j < l.length
  · rw [List.getElem?_append_left hl]
  · rw [List.getElem?_append_right (by omega), List.getElem?_replicate, if_pos (by omega), List.getElem?_eq_none (by omega)]; rfl
theorem mac_start {u : World} {B : Nat} (K : List UInt8) (hus : u.heap.size = B) : MacRel u B K (.int .i64 0) ((u.alloc (.cells (keyA (zeroB 64)) 5)).alloc (.cells (keyA (zeroB 64)) 5)) := by
  subst hus
  refine ⟨0, by omega, rfl, ?_, ?_, by go_grown⟩
  · rw [arrB_none]; exact (Blk.new u _ _).alloc _
  · rw [arrB_none]; exact Blk.new2 u _ _ _
theorem mac_put {wr : World} {g n : Nat} {t : TypeId} {K : List UInt8} {m c : UInt8} (h : Blk wr g (arrB 64 (fun j => if j < n then K.getD j 0 ^^^ m else 0)) t) (hc : K.getD n 0 = c) :
    Blk (wr.setCell ⟨g, n, none⟩ (BV (c ^^^ m))) g (arrB 64 (fun j => if j < n + 1 then K.getD j 0 ^^^ m else 0)) t := by
  have := h.set n (BV (c ^^^ m))
  rw [← hc, arrB_step (f := fun j => K.getD j 0 ^^^ m)] at this
  rw [← hc]; exact this
theorem mac_step {u wr : World} {B n : Nat} {K : List UInt8} {c : UInt8} (hlt : n < 64) (hus : u.heap.size = B) (hc : K.getD n 0 = c) (hI : Blk wr B (arrB 64 (fun j => if j < n then K.getD j 0 ^^^ 54 else 0)) 5)
    (hO : Blk wr (B + 1) (arrB 64 (fun j => if j < n then K.getD j 0 ^^^ 92 else 0)) 5) (hb : Below u.heap.size u wr) {i : Value} (hi : i = .int .i64 (n + 1 : Nat)) :
    MacRel u B K i ((wr.setCell ⟨B, n, none⟩ (BV (c ^^^ 54))).setCell ⟨B + 1, n, none⟩ (BV (c ^^^ 92))) := by
  subst hus
  exact ⟨n + 1, by omega, hi, (mac_put hI hc).setCell _ _ (by simp), mac_put (hO.setCell _ _ (by simp)) hc, (hb.setCell (by simp) _).setCell (by simp) _⟩
theorem maskL_getD (m : UInt8) (K : List UInt8) (hK : K.length = 64) : arrB 64 (fun j => if j < 64 then K.getD j 0 ^^^ m else 0) = keyA (maskL m K) := by
  rw [← arrB_key (n := 64) (by rw [length_maskL, hK])]
  apply arrB_congr
  intro i hi
  rw [if_pos hi]
  simp [maskL, List.getD_eq_getElem?_getD, List.getElem?_eq_getElem (show i < K.length by omega)]



set_option maxRecDepth 100000 in
set_option maxHeartbeats 2000000 in
theorem Macr_any (w : World) (vk vb : Value) (key b : List UInt8) (hkv : SeesB w vk key) (hbv : SeesB w vb b) (hk1 : key.length ≤ 70368744170000) (hb1 : b.length ≤ 70368744170000) :
    Calls Try.prog 70 #[vk, vb] w fun e w' => e = .returned (.agg (keyA (mac key b))) ∧ Below w.heap.size w w' := by
  obtain ⟨a0, c0, rfl, hac0, hc0⟩ := sees_form hkv
  obtain ⟨a1, c1, rfl, hac1, hc1⟩ := sees_form hbv
  have HK := Lib.hid (length_macK key)
  by_cases h64 : 64 < key.length
  · have HM := Lib.hid (show macK key = sha key ++ List.replicate (64 - (sha key).length) 0 by unfold macK; rw [if_pos h64])
    generalize hKe : macK key = K at HK HM
    have HE := Lib.hid hKe; clear hKe
    have HS := Lib.hid (length_sha key)
    have hmk : ∀ W : World, (Instr.makeSlice 25 (.int .i64 64) (.int .i64 64)).run Try.prog W = .ok (.slice (some ⟨W.heap.size, 0, none⟩) 64 64) (W.alloc (.cells (keyA (zeroB 64)) 5)) := fun W => run_make_bytes 64 W (by decide)
    have hR0 : Blk (w.alloc (.cells (keyA (List.replicate 32 0)) 23)) w.heap.size (keyA (List.replicate 32 0)) 23 := Blk.new _ _ _
    have hbel0 : Below w.heap.size w (w.alloc (.cells (keyA (List.replicate 32 0)) 23)) := by go_grown
    have hsz0 := World.size_alloc w (.cells (keyA (List.replicate 32 0)) 23)
    rw [keyA_zero] at hR0 hbel0 hsz0
    rw [← keyA_zero] at hR0
    have HR0 := Lib.hid hR0; have HB0 := Lib.hid hbel0; have HZ0 := Lib.hid hsz0
    clear hR0 hbel0 hsz0
    go_enter Try.func70, Try.ntmps70
    go_wp2_with (first
      | (go_at_call 73; refine (Shar_any _ _ key (hkv.below HB0.out (by decide)) (by omega)).mono ?_; rintro e w1 ⟨rfl, hb1⟩)
      | (refine wpList_store_row rfl 23 _ _ rfl w1.heap.size (keyA (sha key)) _ _ rfl rfl (Blk.new _ _ _) (by rw [keyA_size, HS.out]; rfl) (by rw [keyA_size, HS.out]; exact info_key) (keyA_one _) ?_
         intro u hg2 hs2 hR2
         have hb2 := HB0.out.trans (hb1.mono (by rw [HZ0.out]; omega))
         have hR := ((HR0.out.below hb1).alloc (.cells #[.int .u8 0, .int .u8 0, .int .u8 0, .int .u8 0, .int .u8 0, .int .u8 0, .int .u8 0, .int .u8 0, .int .u8 0, .int .u8 0, .int .u8 0, .int .u8 0, .int .u8 0, .int .u8 0, .int .u8 0, .int .u8 0, .int .u8 0, .int .u8 0, .int .u8 0, .int .u8 0, .int .u8 0, .int .u8 0, .int .u8 0, .int .u8 0, .int .u8 0, .int .u8 0, .int .u8 0, .int .u8 0, .int .u8 0, .int .u8 0, .int .u8 0, .int .u8 0] 23)).grownBy hg2 (some_ne (by have := (HR0.out.below hb1).lt; omega))
         have hbel := (hb2.alloc hb2.size (.cells #[.int .u8 0, .int .u8 0, .int .u8 0, .int .u8 0, .int .u8 0, .int .u8 0, .int .u8 0, .int .u8 0, .int .u8 0, .int .u8 0, .int .u8 0, .int .u8 0, .int .u8 0, .int .u8 0, .int .u8 0, .int .u8 0, .int .u8 0, .int .u8 0, .int .u8 0, .int .u8 0, .int .u8 0, .int .u8 0, .int .u8 0, .int .u8 0, .int .u8 0, .int .u8 0, .int .u8 0, .int .u8 0, .int .u8 0, .int .u8 0, .int .u8 0, .int .u8 0] 23)).grown hg2 (by simp only [World.size_alloc]; exact Nat.le_succ_of_le hb2.size) (fun k hk => by cases hk; exact hb2.size)
         have hkl : SeesB u (.slice (some ⟨w1.heap.size, 0, none⟩) 32 32) (sha key) := by
           have h := sees_block hR2 1 (sha key).length (by rw [keyA_size, Nat.mul_one]) (by rw [length_sha]; decide)
           rw [length_sha] at h
           unfold SeesB; rw [length_sha]
           rwa [keyA, List.toList_toArray] at h
         have hus : u.heap.size = w1.heap.size + 1 := by rw [hs2, World.size_alloc]
         have hu1 : w.heap.size ≤ w1.heap.size := hb2.size
         clear hg2 hs2 hR2 hb1 hb2))
    have HG := Lib.hid (macK_getD HM.out)
    clear HM HR0 HB0 HZ0
    generalize sha key = S at *
    generalize w1.heap.size = B1 at *
    have hst := Lib.hid (mac_start K hus)
    go_loopw [8, 9] (fun i k wr => MacRel u (B1 + 1) K i wr) (fun i _ _ => 64 - (intOf i).toNat)
    case atStart => exact hst.out
    case round =>
      clear hst
      obtain ⟨n, hn, rfl, hI, hO, hb⟩ := hrel
      by_cases hlt : n < 64
      · have cI : wr.cell? ⟨B1 + 1, n, none⟩ = some (BV 0) := by rw [hI.cell, arrB_get _ _ _ hlt, if_neg (by omega)]
        have cO : wr.cell? ⟨B1 + 1 + 1, n, none⟩ = some (BV 0) := by rw [hO.cell, arrB_get _ _ _ hlt, if_neg (by omega)]
        have fI := hI.free n
        have fO := hO.free n
        by_cases hnk : n < 32
        · obtain ⟨kb, ko, hae, hkr⟩ := seesB_at (hkl.below hb (by decide)) (by first | omega | (rw [HS.out]; omega))
          have hck : wr.cell? ⟨kb, ko + n, none⟩ = some (BV (S[n]'(by first | omega | (rw [HS.out]; omega)))) := hkr n _ (by rw [List.getElem?_map, List.getElem?_eq_getElem (by first | omega | (rw [HS.out]; omega))]; rfl)
          cases hae
          try rw [Nat.zero_add] at hck
          have HC := Lib.hid (show K.getD n 0 = (S[n]'(by first | omega | (rw [HS.out]; omega))) by rw [HG.out n hlt, List.getD_eq_getElem?_getD, List.getElem?_eq_getElem (by first | omega | (rw [HS.out]; omega))]; rfl)
          clear hkr
          generalize (S[n]'(by first | omega | (rw [HS.out]; omega))) = c at *
          have hx1 : bits .xor .u8 (c.toNat : Int) 54 = ((c ^^^ 54).toNat : Int) := xor_u8 c 54
          have hx2 : bits .xor .u8 (c.toNat : Int) 92 = ((c ^^^ 92).toNat : Int) := xor_u8 c 92
          go_wp2_with fail
          go_roundw
          case rel => exact mac_step hlt hus HC.out hI hO hb (by go_num)
          case measure => simp [intOf]; omega
        · have HC := Lib.hid (show K.getD n 0 = 0 by rw [HG.out n hlt, List.getD_eq_getElem?_getD, List.getElem?_eq_none (by first | omega | (rw [HS.out]; omega))]; rfl)
          have hx1 : bits .xor .u8 0 54 = (((0 : UInt8) ^^^ 54).toNat : Int) := xor_u8 0 54
          have hx2 : bits .xor .u8 0 92 = (((0 : UInt8) ^^^ 92).toNat : Int) := xor_u8 0 92
          go_wp2_with fail
          go_roundw
          case rel => exact mac_step (c := 0) hlt hus HC.out hI hO hb (by go_num)
          case measure => simp [intOf]; omega
      · obtain rfl : n = 64 := by omega
        rw [maskL_getD 54 K HK.out] at hI
        rw [maskL_getD 92 K HK.out] at hO
        have hown : OwnB wr u.heap.size (.slice (some ⟨B1 + 1, 0, none⟩) 64 64) (maskL 54 K) := by
          have := ownB_blk (B := u.heap.size) hI (by omega) (by rw [length_maskL, HK.out]; decide)
          rwa [length_maskL, HK.out] at this
        have hbw := hbel.trans (hb.mono hbel.size)
        go_wp2_with (first
          | (at_builtin; refine appB (W := u) rfl _ _ rfl _ (maskL 54 K) rfl hown _ b rfl (hbv.below hbw (by decide)) (by rw [length_maskL, HK.out]; omega) hb ?_; intro v6 w6 hown6 hgr6 hb6; have hgo : wr.grownBy w6 (some (B1 + 1)) := hgr6; clear hgr6)
          | (go_at_call 73; refine (Shar_any _ _ (maskL 54 K ++ b) (sees_of_owns hown6) (by rw [List.length_append, length_maskL, HK.out]; omega)).mono ?_; rintro e w7 ⟨rfl, hb7⟩; have hbu7 := hb6.trans (hb7.mono hb6.size); have hO7 := (hO.grownBy hgo (some_ne (by omega))).below hb7)
          | (refine wpList_store_row rfl 23 _ _ rfl w7.heap.size (keyA (sha (maskL 54 K ++ b))) _ _ rfl rfl (Blk.new _ _ _) (by rw [keyA_size, length_sha]; rfl) (by rw [keyA_size, length_sha]; exact info_key) (keyA_one _) ?_
             intro w8 hg8 hs8 hR8
             have hbu8 : Below u.heap.size u w8 := (hbu7.alloc hbu7.size _).grown hg8 (by simp only [World.size_alloc]; exact Nat.le_succ_of_le hbu7.size) (fun k hk => by cases hk; exact hbu7.size)
             have hO8 := (hO7.alloc (.cells #[.int .u8 0, .int .u8 0, .int .u8 0, .int .u8 0, .int .u8 0, .int .u8 0, .int .u8 0, .int .u8 0, .int .u8 0, .int .u8 0, .int .u8 0, .int .u8 0, .int .u8 0, .int .u8 0, .int .u8 0, .int .u8 0, .int .u8 0, .int .u8 0, .int .u8 0, .int .u8 0, .int .u8 0, .int .u8 0, .int .u8 0, .int .u8 0, .int .u8 0, .int .u8 0, .int .u8 0, .int .u8 0, .int .u8 0, .int .u8 0, .int .u8 0, .int .u8 0] 23)).grownBy hg8 (some_ne (by have := hO7.lt; omega))
             have hin : SeesB w8 (.slice (some ⟨w7.heap.size, 0, none⟩) 32 32) (sha (maskL 54 K ++ b)) := by
               have h := sees_block hR8 1 (sha (maskL 54 K ++ b)).length (by rw [keyA_size, Nat.mul_one]) (by rw [length_sha]; decide)
               rw [length_sha] at h
               unfold SeesB; rw [length_sha]
               rwa [keyA, List.toList_toArray] at h
             have h32 := Lib.hid (length_sha (maskL 54 K ++ b))
             have hF := Lib.hid (show mac key b = sha (maskL 92 K ++ sha (maskL 54 K ++ b)) by rw [← HE.out]; rfl)
             clear hg8 hs8 hR8 hown6 hb6 hb7 hbu7 hO7 hgo hown hI hO
             generalize w7.heap.size = B7 at *
             generalize sha (maskL 54 K ++ b) = S2 at *
             have hown2 : OwnB w8 u.heap.size (.slice (some ⟨B1 + 1 + 1, 0, none⟩) 64 64) (maskL 92 K) := by
               have := ownB_blk (B := u.heap.size) hO8 (by omega) (by rw [length_maskL, HK.out]; decide)
               rwa [length_maskL, HK.out] at this)
          | (at_builtin; refine appB (W := u) rfl _ _ rfl _ (maskL 92 K) rfl hown2 _ S2 rfl hin (by rw [length_maskL, HK.out, h32.out]; omega) hbu8 ?_; intro v10 w10 hown10 hgr10 hb10; clear hgr10)
          | (go_at_call 73; refine (Shar_any _ _ (maskL 92 K ++ S2) (sees_of_owns hown10) (by rw [List.length_append, length_maskL, HK.out, h32.out]; omega)).mono ?_; rintro e w11 ⟨rfl, hb11⟩; have hb12 := hb10.trans (hb11.mono hb10.size); have hR12 := hR.below hb12)
          | (refine wpList_store_row rfl 23 _ _ rfl w.heap.size (keyA (sha (maskL 92 K ++ S2))) _ _ rfl rfl hR12 (by rw [keyA_size, keyA_size, length_sha, List.length_replicate]) (by rw [keyA_size, length_sha]; exact info_key) (keyA_one _) ?_; intro w13 hg13 hs13 hR13))
        have hbel9 := hbel.trans (hb12.mono hbel.size)
        refine bodyPost_ret (results_cell_row Try.results70 _ _ w.heap.size _ _ (0, 0) _ rfl hR13 under_key rfl (by rw [keyA_size, length_sha]; exact info_key)) rfl ⟨by rw [hF.out], ?_⟩
        exact hbel9.grown hg13 hbel9.size (fun k hk => by cases hk; exact Nat.le_refl _)
  · have HM := Lib.hid (show macK key = key ++ List.replicate (64 - key.length) 0 by unfold macK; rw [if_neg h64])
    generalize hKe : macK key = K at HK HM
    have HE := Lib.hid hKe; clear hKe
    have hmk : ∀ W : World, (Instr.makeSlice 25 (.int .i64 64) (.int .i64 64)).run Try.prog W = .ok (.slice (some ⟨W.heap.size, 0, none⟩) 64 64) (W.alloc (.cells (keyA (zeroB 64)) 5)) := fun W => run_make_bytes 64 W (by decide)
    go_enter Try.func70, Try.ntmps70
    go_wp2_with fail
    generalize hW0 : World.alloc w _ = u
    have hus : u.heap.size = w.heap.size + 1 := by rw [← hW0]; exact World.size_alloc _ _
    have hR : Blk u w.heap.size (keyA (List.replicate 32 0)) 23 := by rw [← hW0, keyA_zero]; exact Blk.new _ _ _
    have hbel : Below w.heap.size w u := by rw [← hW0]; go_grown
    have hkl : SeesB u (.slice a0 key.length c0) key := hkv.below hbel (by decide)
    have HG := Lib.hid (macK_getD HM.out)
    clear hW0 HM hkv
    have hst := Lib.hid (mac_start K hus)
    go_loopw [8, 9] (fun i k wr => MacRel u (w.heap.size + 1) K i wr) (fun i _ _ => 64 - (intOf i).toNat)
    case atStart => exact hst.out
    case round =>
      clear hst
      obtain ⟨n, hn, rfl, hI, hO, hb⟩ := hrel
      by_cases hlt : n < 64
      · have cI : wr.cell? ⟨w.heap.size + 1, n, none⟩ = some (BV 0) := by rw [hI.cell, arrB_get _ _ _ hlt, if_neg (by omega)]
        have cO : wr.cell? ⟨w.heap.size + 1 + 1, n, none⟩ = some (BV 0) := by rw [hO.cell, arrB_get _ _ _ hlt, if_neg (by omega)]
        have fI := hI.free n
        have fO := hO.free n
        by_cases hnk : n < key.length
        · obtain ⟨kb, ko, hae, hkr⟩ := seesB_at (hkl.below hb (by decide)) (by first | omega | (rw [HS.out]; omega))
          have hck : wr.cell? ⟨kb, ko + n, none⟩ = some (BV (key[n]'(by first | omega | (rw [HS.out]; omega)))) := hkr n _ (by rw [List.getElem?_map, List.getElem?_eq_getElem (by first | omega | (rw [HS.out]; omega))]; rfl)
          cases hae
          try rw [Nat.zero_add] at hck
          have HC := Lib.hid (show K.getD n 0 = (key[n]'(by first | omega | (rw [HS.out]; omega))) by rw [HG.out n hlt, List.getD_eq_getElem?_getD, List.getElem?_eq_getElem (by first | omega | (rw [HS.out]; omega))]; rfl)
          clear hkr
          generalize (key[n]'(by first | omega | (rw [HS.out]; omega))) = c at *
          have hx1 : bits .xor .u8 (c.toNat : Int) 54 = ((c ^^^ 54).toNat : Int) := xor_u8 c 54
          have hx2 : bits .xor .u8 (c.toNat : Int) 92 = ((c ^^^ 92).toNat : Int) := xor_u8 c 92
          go_wp2_with fail
          go_roundw
          case rel => exact mac_step hlt hus HC.out hI hO hb (by go_num)
          case measure => simp [intOf]; omega
        · have HC := Lib.hid (show K.getD n 0 = 0 by rw [HG.out n hlt, List.getD_eq_getElem?_getD, List.getElem?_eq_none (by first | omega | (rw [HS.out]; omega))]; rfl)
          have hx1 : bits .xor .u8 0 54 = (((0 : UInt8) ^^^ 54).toNat : Int) := xor_u8 0 54
          have hx2 : bits .xor .u8 0 92 = (((0 : UInt8) ^^^ 92).toNat : Int) := xor_u8 0 92
          go_wp2_with fail
          go_roundw
          case rel => exact mac_step (c := 0) hlt hus HC.out hI hO hb (by go_num)
          case measure => simp [intOf]; omega
      · obtain rfl : n = 64 := by omega
        rw [maskL_getD 54 K HK.out] at hI
        rw [maskL_getD 92 K HK.out] at hO
        have hown : OwnB wr u.heap.size (.slice (some ⟨w.heap.size + 1, 0, none⟩) 64 64) (maskL 54 K) := by
          have := ownB_blk (B := u.heap.size) hI (by omega) (by rw [length_maskL, HK.out]; decide)
          rwa [length_maskL, HK.out] at this
        have hbw := hbel.trans (hb.mono hbel.size)
        go_wp2_with (first
          | (at_builtin; refine appB (W := u) rfl _ _ rfl _ (maskL 54 K) rfl hown _ b rfl (hbv.below hbw (by decide)) (by rw [length_maskL, HK.out]; omega) hb ?_; intro v6 w6 hown6 hgr6 hb6; have hgo : wr.grownBy w6 (some (w.heap.size + 1)) := hgr6; clear hgr6)
          | (go_at_call 73; refine (Shar_any _ _ (maskL 54 K ++ b) (sees_of_owns hown6) (by rw [List.length_append, length_maskL, HK.out]; omega)).mono ?_; rintro e w7 ⟨rfl, hb7⟩; have hbu7 := hb6.trans (hb7.mono hb6.size); have hO7 := (hO.grownBy hgo (some_ne (by omega))).below hb7)
          | (refine wpList_store_row rfl 23 _ _ rfl w7.heap.size (keyA (sha (maskL 54 K ++ b))) _ _ rfl rfl (Blk.new _ _ _) (by rw [keyA_size, length_sha]; rfl) (by rw [keyA_size, length_sha]; exact info_key) (keyA_one _) ?_
             intro w8 hg8 hs8 hR8
             have hbu8 : Below u.heap.size u w8 := (hbu7.alloc hbu7.size _).grown hg8 (by simp only [World.size_alloc]; exact Nat.le_succ_of_le hbu7.size) (fun k hk => by cases hk; exact hbu7.size)
             have hO8 := (hO7.alloc (.cells #[.int .u8 0, .int .u8 0, .int .u8 0, .int .u8 0, .int .u8 0, .int .u8 0, .int .u8 0, .int .u8 0, .int .u8 0, .int .u8 0, .int .u8 0, .int .u8 0, .int .u8 0, .int .u8 0, .int .u8 0, .int .u8 0, .int .u8 0, .int .u8 0, .int .u8 0, .int .u8 0, .int .u8 0, .int .u8 0, .int .u8 0, .int .u8 0, .int .u8 0, .int .u8 0, .int .u8 0, .int .u8 0, .int .u8 0, .int .u8 0, .int .u8 0, .int .u8 0] 23)).grownBy hg8 (some_ne (by have := hO7.lt; omega))
             have hin : SeesB w8 (.slice (some ⟨w7.heap.size, 0, none⟩) 32 32) (sha (maskL 54 K ++ b)) := by
               have h := sees_block hR8 1 (sha (maskL 54 K ++ b)).length (by rw [keyA_size, Nat.mul_one]) (by rw [length_sha]; decide)
               rw [length_sha] at h
               unfold SeesB; rw [length_sha]
               rwa [keyA, List.toList_toArray] at h
             have h32 := Lib.hid (length_sha (maskL 54 K ++ b))
             have hF := Lib.hid (show mac key b = sha (maskL 92 K ++ sha (maskL 54 K ++ b)) by rw [← HE.out]; rfl)
             clear hg8 hs8 hR8 hown6 hb6 hb7 hbu7 hO7 hgo hown hI hO
             generalize w7.heap.size = B7 at *
             generalize sha (maskL 54 K ++ b) = S2 at *
             have hown2 : OwnB w8 u.heap.size (.slice (some ⟨w.heap.size + 1 + 1, 0, none⟩) 64 64) (maskL 92 K) := by
               have := ownB_blk (B := u.heap.size) hO8 (by omega) (by rw [length_maskL, HK.out]; decide)
               rwa [length_maskL, HK.out] at this)
          | (at_builtin; refine appB (W := u) rfl _ _ rfl _ (maskL 92 K) rfl hown2 _ S2 rfl hin (by rw [length_maskL, HK.out, h32.out]; omega) hbu8 ?_; intro v10 w10 hown10 hgr10 hb10; clear hgr10)
          | (go_at_call 73; refine (Shar_any _ _ (maskL 92 K ++ S2) (sees_of_owns hown10) (by rw [List.length_append, length_maskL, HK.out, h32.out]; omega)).mono ?_; rintro e w11 ⟨rfl, hb11⟩; have hb12 := hb10.trans (hb11.mono hb10.size); have hR12 := hR.below hb12)
          | (refine wpList_store_row rfl 23 _ _ rfl w.heap.size (keyA (sha (maskL 92 K ++ S2))) _ _ rfl rfl hR12 (by rw [keyA_size, keyA_size, length_sha, List.length_replicate]) (by rw [keyA_size, length_sha]; exact info_key) (keyA_one _) ?_; intro w13 hg13 hs13 hR13))
        have hbel9 := hbel.trans (hb12.mono hbel.size)
        refine bodyPost_ret (results_cell_row Try.results70 _ _ w.heap.size _ _ (0, 0) _ rfl hR13 under_key rfl (by rw [keyA_size, length_sha]; exact info_key)) rfl ⟨by rw [hF.out], ?_⟩
        exact hbel9.grown hg13 hbel9.size (fun k hk => by cases hk; exact Nat.le_refl _)
end Go.Proofs.Yteialfdhbfbkgaa
