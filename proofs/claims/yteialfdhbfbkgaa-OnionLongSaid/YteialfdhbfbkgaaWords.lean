/-
  Numbers out of bytes and into bytes: both programs.
-/
import Derived.Test.YteialfdhbfbkgaaProg
import Derived.Test.YteialfdhbfbkgaaMem
import Derived.BigQuiet
import Derived.Deep.QuietTactic
namespace Go.Proofs.Yteialfdhbfbkgaa
set_option linter.unusedVariables false
set_option linter.unusedSimpArgs false
open Go Go.RowKit

set_option maxHeartbeats 400000 in
theorem get_ok (w : World) (v : Value) (l : List UInt8) (at_ n : Nat) (hv : SeesB w v l) (hn : 0 < n) (hn8 : n ≤ 8) (h : at_ + n ≤ l.length) :
    Calls Try.prog 129 #[v, .int .i64 at_, .int .i64 n] w fun e w' => e = .returned (.tuple #[.int .u64 (beN ((l.drop at_).take n)), .int .i64 0]) ∧ w' = w := by
  obtain ⟨hl, a, c, rfl, hc, hm, _, hb⟩ := hv
  obtain ⟨b, o, rfl, hcell⟩ := hb (by omega)
  clear hl hb
  have hm : c ≤ 9223372036854775807 := by unfold maxLen at hm; omega
  have HC := Lib.hid hcell; clear hcell
  have hac : at_ < c := by omega
  go_enter Try.func129, Try.ntmps129
  go_wp2
  go_loop [8, 32] (fun x i => ∃ k : Nat, k ≤ n ∧ i = .int .i64 k ∧ x = .int .u64 (beN ((l.drop at_).take k))) (fun _ i => n - (intOf i).toNat)
  case atStart => exact ⟨0, by omega, rfl, by simp [beN]⟩
  case round =>
    obtain ⟨k, hk, rfl, rfl⟩ := hrel
    by_cases hlt : k < n
    · have hcell : w.cell? ⟨b, o + at_ + k, none⟩ = some (BV (l[at_ + k]'(by omega))) := by
        have := HC.out (at_ + k) (BV (l[at_ + k]'(by omega))) (by simp; exact ⟨_, List.getElem?_eq_getElem (by omega), rfl⟩)
        rw [← this, Nat.add_assoc]
      have hsn := take_succ_drop l at_ k (by omega)
      have hX := beN_lt ((l.drop at_).take k)
      have hX2 : beN ((l.drop at_).take k) < 72057594037927936 := Nat.lt_of_lt_of_le hX (by
        have : ((l.drop at_).take k).length ≤ 7 := by simp; omega
        exact Nat.le_trans (Nat.pow_le_pow_right (by omega) this) (by decide))
      clear hX
      have hfin : beN ((l.drop at_).take (k + 1)) = beN ((l.drop at_).take k) * 256 + (l[at_ + k]'(by omega)).toNat := by rw [hsn, beN_snoc]
      clear hsn
      have HF := Lib.hid hfin; clear hfin
      have hb8 : ((l[at_ + k]'(by omega)).toNat : Int) < 256 := by have := (l[at_ + k]'(by omega)).toNat_lt; omega
      generalize beN ((l.drop at_).take k) = X at *
      generalize (l[at_ + k]'(by omega)) = cc at *
      have hor := or_byte X cc.toNat hX2 (by omega)
      go_wp2
      go_round
      case rel => exact ⟨k + 1, by omega, by go_num, by rw [HF.out]; go_num⟩
      case measure => simp [intOf]; omega
    · obtain rfl : k = n := by omega
      go_wp2
      go_ret2
      exact ⟨rfl, rfl⟩

set_option maxHeartbeats 400000 in
theorem getr_ok (w : World) (v : Value) (l : List UInt8) (at_ n : Nat) (hv : SeesB w v l) (hn : 0 < n) (hn8 : n ≤ 8) (h : at_ + n ≤ l.length) :
    Calls Try.prog 117 #[v, .int .i64 at_, .int .i64 n] w fun e w' => e = .returned (.tuple #[.int .u64 (beN ((l.drop at_).take n)), .int .i64 0]) ∧ w' = w := by
  obtain ⟨hl, a, c, rfl, hc, hm, _, hb⟩ := hv
  obtain ⟨b, o, rfl, hcell⟩ := hb (by omega)
  clear hl hb
  have hm : c ≤ 9223372036854775807 := by unfold maxLen at hm; omega
  have HC := Lib.hid hcell; clear hcell
  have hac : at_ < c := by omega
  go_enter Try.func117, Try.ntmps117
  go_wp2
  go_loop [8, 9] (fun x i => ∃ k : Nat, k ≤ n ∧ i = .int .i64 k ∧ x = .int .u64 (beN ((l.drop at_).take k))) (fun _ i => n - (intOf i).toNat)
  case atStart => exact ⟨0, by omega, rfl, by simp [beN]⟩
  case round =>
    obtain ⟨k, hk, rfl, rfl⟩ := hrel
    by_cases hlt : k < n
    · have hcell : w.cell? ⟨b, o + (at_ + k), none⟩ = some (BV (l[at_ + k]'(by omega))) := by
        have := HC.out (at_ + k) (BV (l[at_ + k]'(by omega))) (by simp; exact ⟨_, List.getElem?_eq_getElem (by omega), rfl⟩)
        exact this
      have hsn := take_succ_drop l at_ k (by omega)
      have hX := beN_lt ((l.drop at_).take k)
      have hX2 : beN ((l.drop at_).take k) < 72057594037927936 := Nat.lt_of_lt_of_le hX (by
        have : ((l.drop at_).take k).length ≤ 7 := by simp; omega
        exact Nat.le_trans (Nat.pow_le_pow_right (by omega) this) (by decide))
      clear hX
      have hfin : beN ((l.drop at_).take (k + 1)) = beN ((l.drop at_).take k) * 256 + (l[at_ + k]'(by omega)).toNat := by rw [hsn, beN_snoc]
      clear hsn
      have HF := Lib.hid hfin; clear hfin
      have hb8 : ((l[at_ + k]'(by omega)).toNat : Int) < 256 := by have := (l[at_ + k]'(by omega)).toNat_lt; omega
      generalize beN ((l.drop at_).take k) = X at *
      generalize (l[at_ + k]'(by omega)) = cc at *
      have hor := or_byte X cc.toNat hX2 (by omega)
      go_wp2
      go_round
      case rel => exact ⟨k + 1, by omega, by go_num, by rw [HF.out]; go_num⟩
      case measure => simp [intOf]; omega
    · obtain rfl : k = n := by omega
      go_wp2
      go_ret2
      exact ⟨rfl, rfl⟩

theorem Get32_ok (w : World) (v : Value) (l : List UInt8) (a : Int) (hv : SeesB w v l) (h0 : 0 ≤ a) (h : a + 4 ≤ l.length) :
    Calls Try.prog 125 #[v, .int .i64 a] w fun e w' => e = .returned (.tuple #[.int .u32 (beN ((l.drop a.toNat).take 4)), .int .i64 0]) ∧ w' = w := by
  obtain ⟨at_, rfl⟩ := Int.eq_ofNat_of_zero_le h0; rw [Int.toNat_natCast]
  have hX := beN_lt ((l.drop at_).take 4)
  have hX2 : beN ((l.drop at_).take 4) < 4294967296 := Nat.lt_of_lt_of_le hX (by
    have : ((l.drop at_).take 4).length ≤ 4 := by simp; omega
    exact Nat.le_trans (Nat.pow_le_pow_right (by omega) this) (by decide))
  clear hX
  generalize hXe : beN ((l.drop at_).take 4) = X at hX2 ⊢
  go_enter Try.func125, Try.ntmps125
  go_wp2_with fail
  refine (get_ok _ _ l at_ 4 hv (by omega) (by omega) (by omega)).mono ?_
  rintro e w' ⟨rfl, rfl⟩
  go_wp2_with fail
  go_ret2
  exact ⟨rfl, rfl⟩


theorem Get32r_ok (w : World) (v : Value) (l : List UInt8) (a : Int) (hv : SeesB w v l) (h0 : 0 ≤ a) (h : a + 4 ≤ l.length) :
    Calls Try.prog 98 #[v, .int .i64 a] w fun e w' => e = .returned (.tuple #[.int .u32 (beN ((l.drop a.toNat).take 4)), .int .i64 0]) ∧ w' = w := by
  obtain ⟨at_, rfl⟩ := Int.eq_ofNat_of_zero_le h0; rw [Int.toNat_natCast]
  have hX := beN_lt ((l.drop at_).take 4)
  have hX2 : beN ((l.drop at_).take 4) < 4294967296 := Nat.lt_of_lt_of_le hX (by
    have : ((l.drop at_).take 4).length ≤ 4 := by simp; omega
    exact Nat.le_trans (Nat.pow_le_pow_right (by omega) this) (by decide))
  clear hX
  generalize hXe : beN ((l.drop at_).take 4) = X at hX2 ⊢
  go_enter Try.func98, Try.ntmps98
  go_wp2_with fail
  refine (getr_ok _ _ l at_ 4 hv (by omega) (by omega) (by omega)).mono ?_
  rintro e w' ⟨rfl, rfl⟩
  go_wp2_with fail
  go_ret2
  exact ⟨rfl, rfl⟩

theorem Get64r_ok (w : World) (v : Value) (l : List UInt8) (a : Int) (hv : SeesB w v l) (h0 : 0 ≤ a) (h : a + 8 ≤ l.length) :
    Calls Try.prog 120 #[v, .int .i64 a] w fun e w' => e = .returned (.tuple #[.int .u64 (beN ((l.drop a.toNat).take 8)), .int .i64 0]) ∧ w' = w := by
  obtain ⟨at_, rfl⟩ := Int.eq_ofNat_of_zero_le h0; rw [Int.toNat_natCast]
  go_enter Try.func120, Try.ntmps120
  go_wp2_with fail
  refine (getr_ok _ _ l at_ 8 hv (by omega) (by omega) (by omega)).mono ?_
  rintro e w' ⟨rfl, rfl⟩
  go_wp2_with fail
  go_ret2
  exact ⟨rfl, rfl⟩

set_option maxHeartbeats 400000 in
theorem Put32_any (w : World) (v : Value) (l : List UInt8) (x : Int) (hv : SeesB w v l) (h0 : 0 ≤ x) (hn : x < 4294967296) (hl : l.length ≤ 70368744177600) :
    Calls Try.prog 91 #[v, .int .u32 x] w (RetB (l ++ put32 x.toNat) w) := by
  obtain ⟨n, rfl⟩ := Int.eq_ofNat_of_zero_le h0; rw [Int.toNat_natCast]
  go_enter Try.func91, Try.ntmps91
  go_wp2_with (at_builtin; first
    | (refine appB (W := w) rfl _ _ rfl v1 l rfl (hown1.alloc _) _ (put32 n) rfl (seesB_lit _ _ _ _ _ (put32_cells n (by omega)) rfl (by decide)) (by simp only [length_put32]; omega) (hb1.alloc hb1.size _) ?_; intro v2 w2 hown2 hgr2 hb2)
    | (refine appB (W := w) rfl _ _ rfl (.slice none 0 0) [] rfl (ownB_nil _ _) _ l rfl hv (by simp only [List.length_nil]; omega) (Below.refl _ _) ?_; intro v1 w1 hown1 hgr1 hb1))
  go_ret
  exact RetB.mk hown2 hb2

set_option maxHeartbeats 400000 in
theorem Put32r_any (w : World) (v : Value) (l : List UInt8) (x : Int) (hv : SeesB w v l) (h0 : 0 ≤ x) (hn : x < 4294967296) (hl : l.length ≤ 70368744177600) :
    Calls Try.prog 92 #[v, .int .u32 x] w (RetB (l ++ put32 x.toNat) w) := by
  obtain ⟨n, rfl⟩ := Int.eq_ofNat_of_zero_le h0; rw [Int.toNat_natCast]
  have m1 := mask_u32_255 ((n : Int) / 65536) (by omega) (by omega)
  have m2 := mask_u32_255 ((n : Int) / 256) (by omega) (by omega)
  have m3 := mask_u32_255 (n : Int) (by omega) hn
  go_enter Try.func92, Try.ntmps92
  go_wp2_with (at_builtin; first
    | (refine appB (W := w) rfl _ _ rfl v1 l rfl (hown1.alloc _) _ (put32 n) rfl (seesB_lit _ _ _ _ _ (put32_cells n (by omega)) rfl (by decide)) (by simp only [length_put32]; omega) (hb1.alloc hb1.size _) ?_; intro v2 w2 hown2 hgr2 hb2)
    | (refine appB (W := w) rfl _ _ rfl (.slice none 0 0) [] rfl (ownB_nil _ _) _ l rfl hv (by simp only [List.length_nil]; omega) (Below.refl _ _) ?_; intro v1 w1 hown1 hgr1 hb1))
  go_ret
  exact RetB.mk hown2 hb2

set_option maxHeartbeats 400000 in
theorem Put64_any (w : World) (v : Value) (l : List UInt8) (x : Int) (hv : SeesB w v l) (h0 : 0 ≤ x) (hn : x < 18446744073709551616) (hl : l.length ≤ 70368744177500) :
    Calls Try.prog 66 #[v, .int .u64 x] w (RetB (l ++ put64 x.toNat) w) := by
  have e1 : put64 x.toNat = put32 (x / 4294967296).toNat ++ put32 (x % 4294967296).toNat := by
    unfold put64; rw [show (x / 4294967296).toNat = x.toNat / 4294967296 from by omega, show (x % 4294967296).toNat = x.toNat % 4294967296 from by omega]
  rw [e1, ← List.append_assoc]; clear e1
  go_enter Try.func66, Try.ntmps66
  go_wp2_with fail
  refine (Put32_any _ _ l _ hv (by omega) (by omega) (by omega)).mono ?_
  rintro e w1 ⟨v1, rfl, hown1, hb1⟩
  go_wp2_with fail
  refine (Put32_any _ _ _ _ (sees_of_owns hown1) (by omega) (by omega) (by simp only [List.length_append, length_put32]; omega)).mono ?_
  rintro e w2 ⟨v2, rfl, hown2, hb2⟩
  go_wp2_with fail
  go_ret
  exact RetB.mk (owns_mono hown2 hb1.size) (hb1.trans (hb2.mono hb1.size))

set_option maxHeartbeats 400000 in
theorem Put64r_any (w : World) (v : Value) (l : List UInt8) (x : Int) (hv : SeesB w v l) (h0 : 0 ≤ x) (hn : x < 18446744073709551616) (hl : l.length ≤ 70368744177500) :
    Calls Try.prog 71 #[v, .int .u64 x] w (RetB (l ++ put64 x.toNat) w) := by
  have m1 := mask_u64_32 x h0 hn
  have e1 : put64 x.toNat = put32 (x / 4294967296).toNat ++ put32 (x % 4294967296).toNat := by
    unfold put64; rw [show (x / 4294967296).toNat = x.toNat / 4294967296 from by omega, show (x % 4294967296).toNat = x.toNat % 4294967296 from by omega]
  rw [e1, ← List.append_assoc]; clear e1
  go_enter Try.func71, Try.ntmps71
  go_wp2_with fail
  refine (Put32r_any _ _ l _ hv (by omega) (by omega) (by omega)).mono ?_
  rintro e w1 ⟨v1, rfl, hown1, hb1⟩
  go_wp2_with fail
  refine (Put32r_any _ _ _ _ (sees_of_owns hown1) (by omega) (by omega) (by simp only [List.length_append, length_put32]; omega)).mono ?_
  rintro e w2 ⟨v2, rfl, hown2, hb2⟩
  go_wp2_with fail
  go_ret
  exact RetB.mk (owns_mono hown2 hb1.size) (hb1.trans (hb2.mono hb1.size))

end Go.Proofs.Yteialfdhbfbkgaa
