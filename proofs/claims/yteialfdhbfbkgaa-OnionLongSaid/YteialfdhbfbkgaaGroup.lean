/-
  The group: elements, powers, products: both programs.
-/
import Derived.Test.YteialfdhbfbkgaaScal
namespace Go.Proofs.Yteialfdhbfbkgaa
set_option linter.unusedVariables false
set_option linter.unusedSimpArgs false
open Go Go.RowKit

def okP (x : Int) : Prop := 0 < x ∧ x < 2305843009213693951
instance (x : Int) : Decidable (okP x) := by unfold okP; infer_instance
def timesP (x e : Int) : Int := if okP x then powP x e else 0
theorem timesP_pos (x e : Int) : 0 ≤ timesP x e ∧ timesP x e < 2305843009213693951 := by
  unfold timesP; split
  · exact ⟨powP_nonneg _ _, powP_lt _ _⟩
  · decide
theorem ret_bool {a b : Bool} (h : a = b) : Ending.returned (.bool a) = Ending.returned (.bool b) := by rw [h]

set_option maxHeartbeats 400000 in
theorem Right_any (x : Int) (w : World) (hx0 : 0 ≤ x) (hx : x < 18446744073709551616) :
    Calls Try.prog 53 #[.int .u64 x] w fun e w' => e = .returned (.bool (decide (okP x))) ∧ w = w' := by
  unfold okP
  by_cases h0 : 0 < x
  · by_cases h1 : x < 2305843009213693951
    · have hb := Lib.hid (show decide (0 < x ∧ x < 2305843009213693951) = true by simp [h0, h1])
      generalize decide (0 < x ∧ x < 2305843009213693951) = b at *
      go_enter Try.func53, Try.ntmps53
      go_wp2
      go_ret
      exact ⟨ret_bool hb.out.symm, rfl⟩
    · have hb := Lib.hid (show decide (0 < x ∧ x < 2305843009213693951) = false by simp [h1])
      generalize decide (0 < x ∧ x < 2305843009213693951) = b at *
      go_enter Try.func53, Try.ntmps53
      go_wp2
      go_ret
      exact ⟨ret_bool hb.out.symm, rfl⟩
  · have hb := Lib.hid (show decide (0 < x ∧ x < 2305843009213693951) = false by simp [h0])
    generalize decide (0 < x ∧ x < 2305843009213693951) = b at *
    go_enter Try.func53, Try.ntmps53
    go_wp2
    go_ret
    exact ⟨ret_bool hb.out.symm, rfl⟩
set_option maxHeartbeats 400000 in
theorem Rightr_any (x : Int) (w : World) (hx0 : 0 ≤ x) (hx : x < 18446744073709551616) :
    Calls Try.prog 23 #[.int .u64 x] w fun e w' => e = .returned (.bool (decide (okP x))) ∧ w = w' := by
  unfold okP
  by_cases h0 : 0 < x
  · by_cases h1 : x < 2305843009213693951
    · have hb := Lib.hid (show decide (0 < x ∧ x < 2305843009213693951) = true by simp [h0, h1])
      generalize decide (0 < x ∧ x < 2305843009213693951) = b at *
      go_enter Try.func23, Try.ntmps23
      go_wp2
      go_ret
      exact ⟨ret_bool hb.out.symm, rfl⟩
    · have hb := Lib.hid (show decide (0 < x ∧ x < 2305843009213693951) = false by simp [h1])
      generalize decide (0 < x ∧ x < 2305843009213693951) = b at *
      go_enter Try.func23, Try.ntmps23
      go_wp2
      go_ret
      exact ⟨ret_bool hb.out.symm, rfl⟩
  · have hb := Lib.hid (show decide (0 < x ∧ x < 2305843009213693951) = false by simp [h0])
    generalize decide (0 < x ∧ x < 2305843009213693951) = b at *
    go_enter Try.func23, Try.ntmps23
    go_wp2
    go_ret
    exact ⟨ret_bool hb.out.symm, rfl⟩

set_option maxHeartbeats 400000 in
theorem Times_any (x e : Int) (w : World) (hx0 : 0 ≤ x) (hx : x < 18446744073709551616) (he0 : 0 ≤ e) (he : e < 18446744073709551616) :
    Calls Try.prog 50 #[.int .u64 x, .int .u64 e] w fun e_ w' => e_ = .returned (.int .u64 (timesP x e)) ∧ w = w' := by
  by_cases h : okP x
  · have hf : timesP x e = powP x e := by unfold timesP; rw [if_pos h]
    rw [hf]; clear hf
    have hd := decide_eq_true h
    go_enter Try.func50, Try.ntmps50
    go_wp2_with (first
      | (go_at_call 53; refine (Right_any _ _ (by omega) (by omega)).mono ?_; rintro e_ w' ⟨rfl, rfl⟩)
      | (go_at_call 83; refine (Pow_any _ _ _ (by omega) (by omega) (by omega) (by omega)).mono ?_; rintro e_ w' ⟨rfl, rfl⟩))
    go_ret
    exact ⟨rfl, rfl⟩
  · have hf : timesP x e = 0 := by unfold timesP; rw [if_neg h]
    rw [hf]; clear hf
    have hd := decide_eq_false h
    go_enter Try.func50, Try.ntmps50
    go_wp2_with (go_at_call 53; refine (Right_any _ _ (by omega) (by omega)).mono ?_; rintro e_ w' ⟨rfl, rfl⟩)
    go_ret
    exact ⟨rfl, rfl⟩
set_option maxHeartbeats 400000 in
theorem Timesr_any (x e : Int) (w : World) (hx0 : 0 ≤ x) (hx : x < 18446744073709551616) (he0 : 0 ≤ e) (he : e < 18446744073709551616) :
    Calls Try.prog 21 #[.int .u64 x, .int .u64 e] w fun e_ w' => e_ = .returned (.int .u64 (timesP x e)) ∧ w = w' := by
  by_cases h : okP x
  · have hf : timesP x e = powP x e := by unfold timesP; rw [if_pos h]
    rw [hf]; clear hf
    have hd := decide_eq_true h
    go_enter Try.func21, Try.ntmps21
    go_wp2_with (first
      | (go_at_call 23; refine (Rightr_any _ _ (by omega) (by omega)).mono ?_; rintro e_ w' ⟨rfl, rfl⟩)
      | (go_at_call 49; refine (PowP_any _ _ _ (by omega) (by omega) (by omega) (by omega)).mono ?_; rintro e_ w' ⟨rfl, rfl⟩))
    go_ret
    exact ⟨rfl, rfl⟩
  · have hf : timesP x e = 0 := by unfold timesP; rw [if_neg h]
    rw [hf]; clear hf
    have hd := decide_eq_false h
    go_enter Try.func21, Try.ntmps21
    go_wp2_with (go_at_call 23; refine (Rightr_any _ _ (by omega) (by omega)).mono ?_; rintro e_ w' ⟨rfl, rfl⟩)
    go_ret
    exact ⟨rfl, rfl⟩
set_option maxHeartbeats 400000 in
theorem Base_any (e : Int) (w : World) (he0 : 0 ≤ e) (he : e < 18446744073709551616) :
    Calls Try.prog 68 #[.int .u64 e] w fun e_ w' => e_ = .returned (.int .u64 (timesP 37 e)) ∧ w = w' := by
  go_enter Try.func68, Try.ntmps68
  go_wp2_with (go_at_call 50; refine (Times_any _ _ _ (by omega) (by omega) (by omega) (by omega)).mono ?_; rintro e_ w' ⟨rfl, rfl⟩)
  go_ret
  exact ⟨rfl, rfl⟩
set_option maxHeartbeats 400000 in
theorem Baser_any (e : Int) (w : World) (he0 : 0 ≤ e) (he : e < 18446744073709551616) :
    Calls Try.prog 41 #[.int .u64 e] w fun e_ w' => e_ = .returned (.int .u64 (timesP 37 e)) ∧ w = w' := by
  go_enter Try.func41, Try.ntmps41
  go_wp2_with (go_at_call 21; refine (Timesr_any _ _ _ (by omega) (by omega) (by omega) (by omega)).mono ?_; rintro e_ w' ⟨rfl, rfl⟩)
  go_ret
  exact ⟨rfl, rfl⟩
set_option maxHeartbeats 400000 in
theorem Bytes_any (x : Int) (w : World) (hx0 : 0 ≤ x) (hx : x < 18446744073709551616) : Calls Try.prog 56 #[.int .u64 x] w (RetB (put64 x.toNat) w) := by
  go_enter Try.func56, Try.ntmps56
  go_wp2_with (go_at_call 66; refine (Put64_any _ _ [] _ (Sees.nil _ _) (by omega) (by omega) (by simp)).mono ?_; rintro e_ w' ⟨v', rfl, h1, h2⟩)
  go_ret
  exact RetB.mk h1 h2
set_option maxHeartbeats 400000 in
theorem Bytesr_any (x : Int) (w : World) (hx0 : 0 ≤ x) (hx : x < 18446744073709551616) : Calls Try.prog 59 #[.int .u64 x] w (RetB (put64 x.toNat) w) := by
  go_enter Try.func59, Try.ntmps59
  go_wp2_with (go_at_call 71; refine (Put64r_any _ _ [] _ (Sees.nil _ _) (by omega) (by omega) (by simp)).mono ?_; rintro e_ w' ⟨v', rfl, h1, h2⟩)
  go_ret
  exact RetB.mk h1 h2

/-- Numbers of 64 bits in a slice. -/
abbrev UV (x : Int) : Value := .int .u64 x
abbrev SeesU (w : World) (v : Value) (l : List Int) : Prop := Sees w 1 v l.length (l.map UV)
def in64 (x : Int) : Prop := 0 ≤ x ∧ x < 18446744073709551616

def prodP : List Int → Int → Int
  | [], o => o
  | x :: l, o => if okP x then prodP l (o * x % 2305843009213693951) else 0
def ProdRel (l : List Int) (i x : Value) : Prop := ∃ (k : Nat) (o : Int), k ≤ l.length ∧ i = .int .i64 k ∧ x = .int .u64 o ∧ 0 ≤ o ∧ o < 2305843009213693951 ∧ Hid (prodP l 1 = prodP (l.drop k) o)
set_option maxHeartbeats 400000 in
theorem Product_any (w : World) (v : Value) (l : List Int) (hv : SeesU w v l) (hl : ∀ x ∈ l, in64 x) :
    Calls Try.prog 86 #[v] w fun e w' => e = .returned (.int .u64 (prodP l 1)) ∧ w = w' := by
  have HV := Lib.hid hv
  obtain ⟨a, c, rfl, hc, hm⟩ := sees_form hv
  clear hv
  generalize hp : prodP l 1 = p
  have HPP := Lib.hid hp; clear hp
  go_enter Try.func86, Try.ntmps86
  go_wp2_with fail
  go_loop [8, 3] (fun i x => ProdRel l i x) (fun i _ => l.length - (intOf i).toNat)
  case atStart => exact ⟨0, 1, by omega, rfl, rfl, by omega, by omega, Lib.hid rfl⟩
  case round =>
    obtain ⟨k, o, hk, rfl, rfl, ho0, ho, hP⟩ := hrel
    by_cases hlt : k < l.length
    · obtain ⟨hl1, a1, c1, he1, hn1, hm1, hnc1, hcellx⟩ := HV.out
      cases he1
      obtain ⟨b, o1, rfl, hcell⟩ := hcellx (by omega)
      have hck := hcell k (UV l[k]) (by simp only [List.getElem?_map, List.getElem?_eq_getElem hlt]; rfl)
      clear hcellx hl1 hm1 hn1 hnc1 hcell
      have hin := hl l[k] (List.getElem_mem hlt)
      obtain ⟨z0, z1⟩ := hin
      have hdr : l.drop k = l[k] :: l.drop (k + 1) := List.drop_eq_getElem_cons hlt
      have hP2 := hP.out
      rw [hdr, prodP] at hP2
      clear hdr hP
      generalize l[k] = z at *
      by_cases hz : okP z
      · have hd := decide_eq_true hz
        rw [if_pos hz] at hP2
        have HP := Lib.hid hP2; clear hP2
        clear hz
        go_wp2_with (first
          | (go_at_call 53; refine (Right_any _ _ (by omega) (by omega)).mono ?_; rintro e_ w' ⟨rfl, rfl⟩)
          | (go_at_call 111; refine (Mul_any _ _ _ (by omega) (by omega) (by omega) (by omega)).mono ?_; rintro e_ w' ⟨rfl, rfl⟩))
        go_round
        case rel => exact ⟨k + 1, _, by omega, by go_num, rfl, by omega, by omega, HP⟩
        case measure => simp [intOf]; omega
      · have hd := decide_eq_false hz
        rw [if_neg hz] at hP2
        have HP := Lib.hid hP2; clear hP2
        clear hz
        go_wp2_with (go_at_call 53; refine (Right_any _ _ (by omega) (by omega)).mono ?_; rintro e_ w' ⟨rfl, rfl⟩)
        go_ret
        exact ⟨ret_u64 (HP.out.symm.trans HPP.out), rfl⟩
    · obtain rfl : k = l.length := by omega
      have hP2 := hP.out
      rw [List.drop_length, prodP] at hP2
      have HP := Lib.hid hP2; clear hP2 hP
      go_wp2
      go_ret
      exact ⟨ret_u64 (HP.out.symm.trans HPP.out), rfl⟩
end Go.Proofs.Yteialfdhbfbkgaa
