/-
  Reckoning modulo N: both programs.
-/
import Derived.Test.YteialfdhbfbkgaaDiv
import Derived.Test.YteialfdhbfbkgaaNum2
import Derived.Test.YteialfdhbfbkgaaWords
namespace Go.Proofs.Yteialfdhbfbkgaa
set_option linter.unusedVariables false
set_option linter.unusedSimpArgs false
open Go Go.RowKit

/-- A call that gives one value and at most draws. -/
def RetQ (v : Value) (w : World) (e : Ending) (w' : World) : Prop := e = .returned v ∧ ∃ n, w' = w.drewN n
theorem retQ_same {f : FuncId} {args : Array Value} {w : World} {v : Value} (h : Calls Try.prog f args w fun e w' => e = .returned v ∧ w = w') : Calls Try.prog f args w (RetQ v w) :=
  h.mono fun _ _ ⟨he, hm⟩ => ⟨he, 0, hm.symm⟩
theorem quiet_same {f : FuncId} {args : Array Value} {w : World} {n : Nat} {v : Value} (h : Calls Try.prog f args (w.drewN n) fun e w' => e = .returned v ∧ w.drewN n = w') :
    Calls Try.prog f args (w.drewN n) fun e w'' => e = .returned v ∧ ∃ m, w'' = w.drewN m := h.mono fun _ _ ⟨he, hm⟩ => ⟨he, n, hm.symm⟩

theorem quiet_add' {f : FuncId} {args : Array Value} {w : World} {a n : Nat} {v : Value} (h : Calls Try.prog f args (w.drewN (a + n)) fun e w' => e = .returned v ∧ w.drewN (a + n) = w') :
    Calls Try.prog f args (w.drewN (a + n)) fun e w'' => e = .returned v ∧ ∃ m, w'' = w.drewN (a + m) := h.mono fun _ _ ⟨he, hm⟩ => ⟨he, n, hm.symm⟩

def mulN (x y : Int) : Int := x * y % 2305843009213693950
def addN (x y : Int) : Int := (x + y) % 2305843009213693950
def subN (x y : Int) : Int := (x - y) % 2305843009213693950
theorem mulN_pos (x y : Int) : 0 ≤ mulN x y ∧ mulN x y < 2305843009213693950 := by unfold mulN; omega
theorem addN_pos (x y : Int) : 0 ≤ addN x y ∧ addN x y < 2305843009213693950 := by unfold addN; omega
theorem subN_pos (x y : Int) : 0 ≤ subN x y ∧ subN x y < 2305843009213693950 := by unfold subN; omega
def ofN (l : List UInt8) : Int := ((beN l % 2305843009213693950 : Nat) : Int)
theorem ofN_pos (l : List UInt8) : 0 ≤ ofN l ∧ ofN l < 2305843009213693950 := by unfold ofN; omega
theorem ofN_snoc (l : List UInt8) (c : UInt8) : addN (mulN (ofN l) 256) c.toNat = ofN (l ++ [c]) := by
  unfold addN mulN ofN; rw [beN_snoc]; omega
theorem ret_same {a b : Int} (h : a = b) : Value.int .u64 a = Value.int .u64 b := by rw [h]

set_option maxHeartbeats 400000 in
theorem Div64_zero (lo : Int) (w : World) (l0 : 0 ≤ lo) (l1 : lo < 18446744073709551616) :
    Calls Try.prog 124 #[.int .u64 0, .int .u64 lo, .int .u64 2305843009213693950] w fun e w' => (∃ q : Int, e = .returned (.tuple #[.int .u64 q, .int .u64 (lo % 2305843009213693950)])) ∧ ∃ n, w' = w.drewN n := by
  go_enter Try.func124, Try.ntmps124
  go_wp2_with fail
  go_quiet (fail)
  go_wp2
  go_ret2
  exact ⟨⟨_, rfl⟩, _, rfl⟩
set_option maxHeartbeats 400000 in
theorem Rem64_N (hi lo : Int) (w : World) (h0 : 0 ≤ hi) (h1 : hi < 18446744073709551616) (l0 : 0 ≤ lo) (l1 : lo < 18446744073709551616) :
    Calls Try.prog 114 #[.int .u64 hi, .int .u64 lo, .int .u64 2305843009213693950] w (RetQ (.int .u64 ((hi * 18446744073709551616 + lo) % 2305843009213693950)) w) := by
  by_cases hc : hi % 2305843009213693950 = 0
  · have hf : (hi * 18446744073709551616 + lo) % 2305843009213693950 = lo % 2305843009213693950 := by omega
    rw [hf]; clear hf
    go_enter Try.func114, Try.ntmps114
    go_wp2_with (go_at_call 124; refine (Div64_zero _ _ (by omega) (by omega)).mono ?_; rintro e w' ⟨⟨q, rfl⟩, n, rfl⟩)
    go_ret
    exact ⟨rfl, _, rfl⟩
  · have hf : (hi * 18446744073709551616 + lo) % 2305843009213693950 = (hi % 2305843009213693950 * 18446744073709551616 + lo) % 2305843009213693950 := by omega
    rw [hf]; clear hf
    go_enter Try.func114, Try.ntmps114
    go_wp2_with (go_at_call 124; refine (Div64_N _ _ _ (by omega) (by omega) (by omega) (by omega)).mono ?_; rintro e w' ⟨⟨q, rfl⟩, rfl⟩)
    go_ret
    exact ⟨rfl, 0, rfl⟩

theorem ReduceN_any (x : Int) (w : World) (h0 : 0 ≤ x) (h : x < 18446744073709551616) :
    Calls Try.prog 112 #[.int .u64 x] w fun e w' => e = .returned (.int .u64 (x % 2305843009213693950)) ∧ w = w' := by
  go_enter Try.func112, Try.ntmps112
  go_wp2
  go_ret
  exact ⟨rfl, rfl⟩
set_option maxHeartbeats 400000 in
theorem Add_any (x y : Int) (w : World) (hx0 : 0 ≤ x) (hx : x < 18446744073709551616) (hy0 : 0 ≤ y) (hy : y < 18446744073709551616) :
    Calls Try.prog 87 #[.int .u64 x, .int .u64 y] w fun e w' => e = .returned (.int .u64 (addN x y)) ∧ w = w' := by
  have HF := Lib.hid (show addN x y = (x % 2305843009213693950 + y % 2305843009213693950) % 2305843009213693950 by unfold addN; omega)
  generalize addN x y = z at *
  go_enter Try.func87, Try.ntmps87
  go_wp2_with (go_at_call 112; refine (ReduceN_any _ _ (by omega) (by omega)).mono ?_; rintro e w' ⟨rfl, rfl⟩)
  go_ret
  exact ⟨ret_u64 (by rw [HF.out]; omega), rfl⟩
set_option maxHeartbeats 400000 in
theorem Sub_any (x y : Int) (w : World) (hx0 : 0 ≤ x) (hx : x < 18446744073709551616) (hy0 : 0 ≤ y) (hy : y < 18446744073709551616) :
    Calls Try.prog 84 #[.int .u64 x, .int .u64 y] w fun e w' => e = .returned (.int .u64 (subN x y)) ∧ w = w' := by
  have HF := Lib.hid (show subN x y = (x % 2305843009213693950 + 2305843009213693950 - y % 2305843009213693950) % 2305843009213693950 by unfold subN; omega)
  generalize subN x y = z at *
  go_enter Try.func84, Try.ntmps84
  go_wp2_with (go_at_call 112; refine (ReduceN_any _ _ (by omega) (by omega)).mono ?_; rintro e w' ⟨rfl, rfl⟩)
  go_ret
  exact ⟨ret_u64 (by rw [HF.out]; omega), rfl⟩
set_option maxHeartbeats 400000 in
theorem MulS_any (x y : Int) (w : World) (hx0 : 0 ≤ x) (hx : x < 18446744073709551616) (hy0 : 0 ≤ y) (hy : y < 18446744073709551616) :
    Calls Try.prog 85 #[.int .u64 x, .int .u64 y] w (RetQ (.int .u64 (mulN x y)) w) := by
  obtain ⟨b0, b1⟩ := mul_ltP (x % 2305843009213693950) (y % 2305843009213693950) (by omega) (by omega) (by omega) (by omega)
  have HF := Lib.hid (show mulN x y = (x % 2305843009213693950 * (y % 2305843009213693950) / 18446744073709551616 * 18446744073709551616 + x % 2305843009213693950 * (y % 2305843009213693950) % 18446744073709551616) % 2305843009213693950 by
    have h := Int.mul_emod x y 2305843009213693950
    unfold mulN; rw [h]; omega)
  generalize mulN x y = z at *
  go_enter Try.func85, Try.ntmps85
  go_wp2_with (first
    | (go_at_call 113; refine (Mul64_any _ _ _ (by omega) (by omega) (by omega) (by omega)).mono ?_; rintro e w' ⟨rfl, rfl⟩)
    | (go_at_call 112; refine (ReduceN_any _ _ (by omega) (by omega)).mono ?_; rintro e w' ⟨rfl, rfl⟩)
    | (go_at_call 114; refine (Rem64_N _ _ _ (by omega) (by omega) (by omega) (by omega)).mono ?_; rintro e w' ⟨rfl, n, rfl⟩))
  go_ret
  exact ⟨ret_u64 HF.out.symm, _, rfl⟩

set_option maxHeartbeats 400000 in
theorem AddN_any (x y : Int) (w : World) (hx0 : 0 ≤ x) (hx : x < 18446744073709551616) (hy0 : 0 ≤ y) (hy : y < 18446744073709551616) :
    Calls Try.prog 26 #[.int .u64 x, .int .u64 y] w fun e w' => e = .returned (.int .u64 (addN x y)) ∧ w = w' := by
  have HF := Lib.hid (show addN x y = (x % 2305843009213693950 + y % 2305843009213693950) % 2305843009213693950 by unfold addN; omega)
  generalize addN x y = z at *
  go_enter Try.func26, Try.ntmps26
  go_wp2
  go_ret
  exact ⟨ret_u64 HF.out.symm, rfl⟩
set_option maxHeartbeats 400000 in
theorem SubN_any (x y : Int) (w : World) (hx0 : 0 ≤ x) (hx : x < 18446744073709551616) (hy0 : 0 ≤ y) (hy : y < 18446744073709551616) :
    Calls Try.prog 89 #[.int .u64 x, .int .u64 y] w fun e w' => e = .returned (.int .u64 (subN x y)) ∧ w = w' := by
  have HF := Lib.hid (show subN x y = (x % 2305843009213693950 + 2305843009213693950 - y % 2305843009213693950) % 2305843009213693950 by unfold subN; omega)
  generalize subN x y = z at *
  go_enter Try.func89, Try.ntmps89
  go_wp2
  go_ret
  exact ⟨ret_u64 HF.out.symm, rfl⟩
set_option maxHeartbeats 400000 in
theorem MulN_any (x y : Int) (w : World) (hx0 : 0 ≤ x) (hx : x < 18446744073709551616) (hy0 : 0 ≤ y) (hy : y < 18446744073709551616) :
    Calls Try.prog 88 #[.int .u64 x, .int .u64 y] w fun e w' => e = .returned (.int .u64 (mulN x y)) ∧ w = w' := by
  obtain ⟨b0, b1⟩ := mul_ltP (x % 2305843009213693950) (y % 2305843009213693950) (by omega) (by omega) (by omega) (by omega)
  have hm := mask_P (x % 2305843009213693950 * (y % 2305843009213693950) % 18446744073709551616) (by omega) (by omega)
  have hj := join64 (x % 2305843009213693950 * (y % 2305843009213693950) / 18446744073709551616 * 8) (x % 2305843009213693950 * (y % 2305843009213693950) % 18446744073709551616 / 2305843009213693952) 3 (by omega) (by omega) (by omega) (by omega) (by omega) (by omega)
  have HF := Lib.hid (show mulN x y = (2 * (x % 2305843009213693950 * (y % 2305843009213693950) / 18446744073709551616 * 8 + x % 2305843009213693950 * (y % 2305843009213693950) % 18446744073709551616 / 2305843009213693952) + x % 2305843009213693950 * (y % 2305843009213693950) % 2305843009213693952) % 2305843009213693950 by
    have h := Int.mul_emod x y 2305843009213693950
    unfold mulN; rw [h]; omega)
  generalize mulN x y = z at *
  go_enter Try.func88, Try.ntmps88
  go_wp2_with (go_at_call 52; refine (wide_any _ _ _ (by omega) (by omega) (by omega) (by omega)).mono ?_; rintro e w' ⟨rfl, rfl⟩)
  go_ret
  exact ⟨ret_u64 (by rw [HF.out]), rfl⟩

def OfRel (w : World) (l : List UInt8) (i x : Value) (wr : World) : Prop := ∃ k n : Nat, k ≤ l.length ∧ i = .int .i64 k ∧ x = .int .u64 (ofN (l.take k)) ∧ wr = w.drewN n
theorem take_snoc (l : List UInt8) (k : Nat) (h : k < l.length) : l.take (k + 1) = l.take k ++ [l[k]] := List.take_succ_eq_append_getElem h

set_option maxHeartbeats 400000 in
theorem Of_any (w : World) (v : Value) (l : List UInt8) (hv : SeesB w v l) (hl : l.length ≤ 70368744177000) :
    Calls Try.prog 58 #[v] w (RetQ (.int .u64 (ofN l)) w) := by
  have HV := Lib.hid hv
  obtain ⟨a, c, rfl, hc, hm⟩ := sees_form hv
  clear hv
  go_enter Try.func58, Try.ntmps58
  go_wp2_with fail
  go_loopw [8, 3] (fun i x wr => OfRel w l i x wr) (fun i _ _ => l.length - (intOf i).toNat)
  case atStart => exact ⟨0, 0, by omega, rfl, rfl, rfl⟩
  case round =>
    obtain ⟨k, n, hk, rfl, rfl, rfl⟩ := hrel
    by_cases hlt : k < l.length
    · obtain ⟨b, o, c', he, _, _, hcell⟩ := seesB_open HV.out (by omega)
      cases he
      have hck : (w.drewN n).cell? ⟨b, o + k, none⟩ = some (BV l[k]) := by
        show w.cell? _ = _
        exact hcell k _ (by simp; exact ⟨_, List.getElem?_eq_getElem hlt, rfl⟩)
      clear hcell
      have HS := Lib.hid (show addN (mulN (ofN (l.take k)) 256) (l[k].toNat) = ofN (l.take (k + 1)) by rw [take_snoc l k hlt, ofN_snoc])
      obtain ⟨x0, x1⟩ := ofN_pos (l.take k)
      have hb8 : ((l[k]).toNat : Int) < 256 := by have := (l[k]).toNat_lt; omega
      generalize ofN (l.take k) = X at *
      generalize l[k] = cc at *
      obtain ⟨m0, m1⟩ := mulN_pos X 256
      generalize hm : mulN X 256 = M at *
      have HM := Lib.hid hm; clear hm
      go_wp2_with (first
        | (go_at_call 85; refine (MulS_any _ _ _ (by omega) (by omega) (by omega) (by omega)).mono ?_; rintro e w' ⟨rfl, n1, rfl⟩; rw [HM.out])
        | (go_at_call 87; refine (Add_any _ _ _ (by omega) (by omega) (by omega) (by omega)).mono ?_; rintro e w' ⟨rfl, rfl⟩; rw [HS.out]))
      go_roundw
      case rel => exact ⟨k + 1, n + n1, by omega, by go_num, rfl, rfl⟩
      case measure => simp [intOf]; omega
    · obtain rfl : k = l.length := by omega
      rw [List.take_length]
      go_wp2
      go_ret
      exact ⟨rfl, _, rfl⟩

set_option maxHeartbeats 400000 in
theorem OfN_any (w : World) (v : Value) (l : List UInt8) (hv : SeesB w v l) (hl : l.length ≤ 70368744177000) :
    Calls Try.prog 61 #[v] w (RetQ (.int .u64 (ofN l)) w) := by
  have HV := Lib.hid hv
  obtain ⟨a, c, rfl, hc, hm⟩ := sees_form hv
  clear hv
  go_enter Try.func61, Try.ntmps61
  go_wp2_with fail
  go_loopw [4, 3] (fun i x wr => OfRel w l i x wr) (fun i _ _ => l.length - (intOf i).toNat)
  case atStart => exact ⟨0, 0, by omega, rfl, rfl, rfl⟩
  case round =>
    obtain ⟨k, n, hk, rfl, rfl, rfl⟩ := hrel
    by_cases hlt : k < l.length
    · obtain ⟨b, o, c', he, _, _, hcell⟩ := seesB_open HV.out (by omega)
      cases he
      have hck : ∀ m, (w.drewN m).cell? ⟨b, o + k, none⟩ = some (BV l[k]) := by
        intro m; show w.cell? _ = _
        exact hcell k _ (by simp; exact ⟨_, List.getElem?_eq_getElem hlt, rfl⟩)
      clear hcell
      have HS := Lib.hid (show addN (mulN (ofN (l.take k)) 256) (l[k].toNat) = ofN (l.take (k + 1)) by rw [take_snoc l k hlt, ofN_snoc])
      obtain ⟨x0, x1⟩ := ofN_pos (l.take k)
      have hb8 : ((l[k]).toNat : Int) < 256 := by have := (l[k]).toNat_lt; omega
      generalize ofN (l.take k) = X at *
      generalize l[k] = cc at *
      obtain ⟨m0, m1⟩ := mulN_pos X 256
      go_wp2_with fail
      go_quiet ((first
        | (go_at_call 88; exact quiet_add' (MulN_any _ _ _ (by omega) (by omega) (by omega) (by omega)))
        | (go_at_call 26; exact quiet_add' (AddN_any _ _ _ (by omega) (by omega) (by omega) (by omega)))))
      rw [HS.out]
      go_wp2_with fail
      go_roundw
      case rel => exact ⟨k + 1, _, by omega, by go_num, rfl, rfl⟩
      case measure => simp [intOf]; omega
    · obtain rfl : k = l.length := by omega
      rw [List.take_length]
      go_wp2
      go_ret
      exact ⟨rfl, _, rfl⟩
end Go.Proofs.Yteialfdhbfbkgaa
