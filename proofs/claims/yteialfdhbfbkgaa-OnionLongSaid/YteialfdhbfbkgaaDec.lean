/-
  Numbers in decimal, and names: the reference.
-/
import Derived.Test.YteialfdhbfbkgaaProg
import Derived.Test.YteialfdhbfbkgaaGroup
import Derived.Laws.Concat
namespace Go.Proofs.Yteialfdhbfbkgaa
set_option linter.unusedVariables false
set_option linter.unusedSimpArgs false
open Go Go.RowKit

def digB (n : Nat) : UInt8 := UInt8.ofNat (48 + n)
/-- A natural number's digits. -/
def decN (n : Nat) : List UInt8 := if n < 10 then [digB n] else decN (n / 10) ++ [digB (n % 10)]
termination_by n
def decI (n : Int) : List UInt8 := if n < 0 then 45 :: decN n.natAbs else decN n.natAbs
theorem decN_small (n : Nat) (h : n < 10) : decN n = [digB n] := by rw [decN, if_pos h]
theorem decN_big (n : Nat) (h : ¬ n < 10) : decN n = decN (n / 10) ++ [digB (n % 10)] := by rw [decN, if_neg h]
theorem length_decN (n k : Nat) (hk : 0 < k) (h : n < 10 ^ k) : (decN n).length ≤ k := by
  induction k generalizing n with
  | zero => omega
  | succ k ih =>
    by_cases h10 : n < 10
    · rw [decN_small n h10]; simp
    · rw [decN_big n h10, List.length_append]
      have h2 : n / 10 < 10 ^ k := by rw [Nat.pow_succ] at h; omega
      have h3 : 0 < k := by
        rcases Nat.eq_zero_or_pos k with h0 | h0
        · subst h0; simp at h2; omega
        · exact h0
      have := ih (n / 10) h3 h2
      simp; omega
theorem decN_ne (n : Nat) (h : 0 < n) : decN n ≠ [48] := by
  intro e
  by_cases h10 : n < 10
  · rw [decN_small n h10] at e
    have e1 : digB n = 48 := by simpa using e
    have e2 := congrArg UInt8.toNat e1
    simp [digB] at e2
    omega
  · rw [decN_big n h10] at e
    have e2 := congrArg List.length e
    have : 0 < (decN (n / 10)).length := by
      by_cases h2 : n / 10 < 10
      · rw [decN_small _ h2]; simp
      · rw [decN_big _ h2]; simp
    simp at e2
    rw [e2] at this; simp at this
abbrev strL (l : List UInt8) : Value := .string ⟨l.toArray⟩
theorem digits_cut (k : Nat) (h : k < 10) : (⟨#[48, 49, 50, 51, 52, 53, 54, 55, 56, 57]⟩ : ByteArray).extract k (k + 1) = ⟨[digB k].toArray⟩ := by
  match k, h with
  | 0, _ => rfl | 1, _ => rfl | 2, _ => rfl | 3, _ => rfl | 4, _ => rfl | 5, _ => rfl | 6, _ => rfl | 7, _ => rfl | 8, _ => rfl | 9, _ => rfl
theorem strL_add (l1 l2 : List UInt8) : (⟨l1.toArray⟩ : ByteArray) ++ (⟨l2.toArray⟩ : ByteArray) = ⟨(l1 ++ l2).toArray⟩ := by
  apply ByteArray.ext; simp
theorem run_addL (l1 l2 : List UInt8) (h1 : l1.length ≤ 8388608) (h2 : l2.length ≤ 8388608) (w : World) : (Op.stringOp .add ⟨l1.toArray⟩ ⟨l2.toArray⟩).run Try.prog w = .ok (strL (l1 ++ l2)) w := by
  rw [run_string_add w _ _ (by show ((l1.toArray.size : Nat) : Int) ≤ _; simp; omega) (by show ((l2.toArray.size : Nat) : Int) ≤ _; simp; omega), strL_add]
theorem run_digit (k : Nat) (h : k < 10) (w : World) : (Instr.slice 9 (.string ⟨#[48, 49, 50, 51, 52, 53, 54, 55, 56, 57]⟩) (some (.int .i64 (k : Int))) (some (.int .i64 ((k : Int) + 1))) none).run Try.prog w = .ok (strL [digB k]) w := by
  have hd := digits_cut k h
  match k, h with
  | 0, _ => simp [Instr.slice, go_sem] at hd ⊢; exact hd
  | 1, _ => simp [Instr.slice, go_sem] at hd ⊢; exact hd
  | 2, _ => simp [Instr.slice, go_sem] at hd ⊢; exact hd
  | 3, _ => simp [Instr.slice, go_sem] at hd ⊢; exact hd
  | 4, _ => simp [Instr.slice, go_sem] at hd ⊢; exact hd
  | 5, _ => simp [Instr.slice, go_sem] at hd ⊢; exact hd
  | 6, _ => simp [Instr.slice, go_sem] at hd ⊢; exact hd
  | 7, _ => simp [Instr.slice, go_sem] at hd ⊢; exact hd
  | 8, _ => simp [Instr.slice, go_sem] at hd ⊢; exact hd
  | 9, _ => simp [Instr.slice, go_sem] at hd ⊢; exact hd
theorem run_digitN (n : Nat) (w : World) : (Instr.slice 9 (.string ⟨#[48, 49, 50, 51, 52, 53, 54, 55, 56, 57]⟩) (some (.int .i64 ((n : Int) % 10))) (some (.int .i64 ((n : Int) % 10 + 1))) none).run Try.prog w = .ok (strL [digB (n % 10)]) w := by
  have h := run_digit (n % 10) (by omega) w
  rwa [show ((n % 10 : Nat) : Int) = (n : Int) % 10 from by omega] at h
set_option maxRecDepth 100000 in
set_option maxHeartbeats 1000000 in
theorem DecN_any (w : World) : ∀ (f n : Nat), 0 < f → f ≤ 100 → n < 10 ^ f → n ≤ 9223372036854775807 →
    Calls Try.prog 119 #[.int .i64 n] w fun e w' => e = .returned (strL (decN n)) ∧ w = w'
  | 0, _, h, _, _, _ => absurd h (by decide)
  | f + 1, n, _, hf, h, hn => by
    have hdg := fun W => run_digitN n W
    by_cases h10 : n < 10
    · have hm : n % 10 = n := by omega
      rw [hm] at hdg
      have hmi : (n : Int) % 10 = n := by omega
      rw [hmi] at hdg
      rw [decN_small n h10]
      clear h
      go_enter Try.func119, Try.ntmps119
      go_wp2_with fail
      go_ret
      exact ⟨rfl, rfl⟩
    · have h2 : n / 10 < 10 ^ f := by rw [Nat.pow_succ] at h; omega
      have h3 : 0 < f := by
        rcases Nat.eq_zero_or_pos f with h0 | h0
        · subst h0; simp at h2; omega
        · exact h0
      have hl := length_decN (n / 10) f h3 h2
      have ha := fun W => run_addL (decN (n / 10)) [digB (n % 10)] (by omega) (by simp) W
      have HB := Lib.hid (decN_big n h10)
      have IH := Lib.hid (DecN_any w f (n / 10) h3 (by omega) h2 (by omega))
      rw [show ((n / 10 : Nat) : Int) = (n : Int) / 10 from by omega] at IH
      generalize decN n = R at *
      generalize decN (n / 10) = Q at *
      clear h h2
      go_enter Try.func119, Try.ntmps119
      go_wp2_with (go_at_call 119; refine IH.out.mono ?_; rintro e w' ⟨rfl, rfl⟩)
      go_ret
      exact ⟨by rw [HB.out]; rfl, rfl⟩

set_option maxRecDepth 100000 in
set_option maxHeartbeats 1000000 in
theorem Dec_any (n : Int) (w : World) (hn : -9223372036854775808 ≤ n ∧ n ≤ 9223372036854775807) :
    Calls Try.prog 119 #[.int .i64 n] w fun e w' => e = .returned (strL (decI n)) ∧ w = w' := by
  obtain ⟨n0, n1⟩ := hn
  by_cases hneg : n < 0
  · obtain ⟨m, rfl⟩ : ∃ m : Nat, n = -(m : Int) := ⟨n.natAbs, by omega⟩
    have hm0 : 0 < m := by omega
    have HR := Lib.hid (show decI (-(m : Int)) = 45 :: decN m by unfold decI; rw [if_pos hneg, Int.natAbs_neg, Int.natAbs_natCast])
    have hdg := fun W => run_digitN m W
    have ID := Lib.hid (DecN_any w 20 (m / 10) (by decide) (by decide) (by omega) (by omega))
    rw [show ((m / 10 : Nat) : Int) = (m : Int) / 10 from by omega] at ID
    generalize decI (-(m : Int)) = R at *
    by_cases h10 : m < 10
    · have hq : decN (m / 10) = [48] := by rw [show m / 10 = 0 from by omega, decN_small 0 (by decide)]; rfl
      rw [hq] at ID
      have HB := Lib.hid (show decN m = [digB (m % 10)] by rw [decN_small m h10, Nat.mod_eq_of_lt h10])
      have ha1 := fun W => run_addL [45] [] (by decide) (by decide) W
      have ha2 := fun W => run_addL [45] [digB (m % 10)] (by decide) (by simp) W
      clear hq
      go_enter Try.func119, Try.ntmps119
      go_wp2_with (go_at_call 119; refine ID.out.mono ?_; rintro e w' ⟨rfl, rfl⟩)
      go_ret
      exact ⟨by rw [HR.out, HB.out]; rfl, rfl⟩
    · have HB := Lib.hid (decN_big m h10)
      have hq0 : (decN (m / 10) == [48]) = false := beq_eq_false_iff_ne.2 (decN_ne (m / 10) (by omega))
      have hl := length_decN (m / 10) 19 (by decide) (by omega)
      generalize decN (m / 10) = Q at *
      have ha1 := fun W => run_addL [45] Q (by decide) (by omega) W
      have ha2 := fun W => run_addL ([45] ++ Q) [digB (m % 10)] (by simp; omega) (by simp) W
      go_enter Try.func119, Try.ntmps119
      go_wp2_with (go_at_call 119; refine ID.out.mono ?_; rintro e w' ⟨rfl, rfl⟩)
      go_ret
      exact ⟨by rw [HR.out, HB.out]; rfl, rfl⟩
  · obtain ⟨m, rfl⟩ := Int.eq_ofNat_of_zero_le (show 0 ≤ n by omega)
    rw [show decI (m : Int) = decN m by unfold decI; rw [if_neg (by omega)]; rfl]
    exact DecN_any w 20 m (by decide) (by decide) (by omega) (by omega)

abbrev IV (x : Int) : Value := .int .i64 x
abbrev SeesI (w : World) (v : Value) (l : List Int) : Prop := Sees w 1 v l.length (l.map IV)
def inI (n : Int) : Prop := -9223372036854775808 ≤ n ∧ n ≤ 9223372036854775807
def namesL (s : List UInt8) (l : List Int) : List UInt8 := s ++ l.flatMap fun n => 32 :: decI n
theorem namesL_snoc (s : List UInt8) (l : List Int) (k : Nat) (h : k < l.length) : namesL s (l.take (k + 1)) = (namesL s (l.take k) ++ [32]) ++ decI l[k] := by
  rw [List.take_succ_eq_append_getElem h]; simp only [namesL, List.flatMap_append, List.flatMap_cons, List.flatMap_nil, List.append_nil, List.append_assoc, List.cons_append, List.nil_append]
theorem length_decI (n : Int) (h : inI n) : (decI n).length ≤ 20 := by
  unfold decI
  have h1 : n.natAbs < 10 ^ 19 := by unfold inI at h; omega
  have := length_decN n.natAbs 19 (by decide) h1
  split <;> simp <;> omega
theorem length_namesL (s : List UInt8) : ∀ l : List Int, (∀ n ∈ l, inI n) → (namesL s l).length ≤ s.length + 21 * l.length
  | [], _ => by simp [namesL]
  | n :: l, h => by
    have ih := length_namesL s l (fun m hm => h m (by simp [hm]))
    have hn := length_decI n (h n (by simp))
    simp [namesL] at ih ⊢; omega
def NamesRel (w : World) (s : List UInt8) (l : List Int) (sv i : Value) (wr : World) : Prop := ∃ k : Nat, k ≤ l.length ∧ i = .int .i64 k ∧ sv = strL (namesL s (l.take k)) ∧ w = wr
set_option maxRecDepth 100000 in
set_option maxHeartbeats 1000000 in
theorem names_any (s : List UInt8) (l : List Int) (v : Value) (w : World) (hv : SeesI w v l) (hin : ∀ n ∈ l, inI n) (hs : s.length ≤ 1000) (hl : l.length ≤ 100) :
    Calls Try.prog 101 #[strL s, v] w fun e w' => e = .returned (strL (namesL s l)) ∧ w = w' := by
  have HV := Lib.hid hv
  obtain ⟨a0, c0, rfl, hac0, hc0⟩ := sees_form hv
  clear hv
  go_enter Try.func101, Try.ntmps101
  go_wp2_with fail
  go_loopw [0, 5] (fun sv i wr => NamesRel w s l sv i wr) (fun _ i _ => l.length - (intOf i).toNat)
  case atStart => exact ⟨0, by omega, rfl, by simp [namesL], rfl⟩
  case round =>
    obtain ⟨k, hk, rfl, rfl, rfl⟩ := hrel
    by_cases hlt : k < l.length
    · obtain ⟨hl1, a2, c2, he2, hn2, hm2, hnc2, hcellx⟩ := HV.out
      cases he2
      obtain ⟨b, o1, rfl, hcell⟩ := hcellx (by omega)
      have hck := hcell k (IV l[k]) (by simp only [List.getElem?_map, List.getElem?_eq_getElem hlt]; rfl)
      clear hcellx hl1 hm2 hn2 hnc2 hcell
      have hnk := hin l[k] (List.getElem_mem hlt)
      have hsn := Lib.hid (namesL_snoc s l k hlt)
      have hle := length_namesL s (l.take k) (fun n hn => hin n (List.mem_of_mem_take hn))
      rw [List.length_take, Nat.min_eq_left hk] at hle
      have hdl := length_decI l[k] hnk
      generalize l[k] = z at *
      generalize namesL s (l.take k) = S at *
      have ha1 := fun W => run_addL S [32] (by omega) (by decide) W
      have ha2 := fun W => run_addL (S ++ [32]) (decI z) (by rw [List.length_append, List.length_cons, List.length_nil]; omega) (by omega) W
      generalize hD : decI z = D at *
      have HD := Lib.hid hD; clear hD
      go_wp2_with (go_at_call 119; refine (Dec_any z _ hnk).mono ?_; rintro e w' ⟨rfl, rfl⟩; rw [HD.out])
      go_roundw
      case rel => exact ⟨k + 1, by omega, by go_num, by rw [hsn.out, List.append_assoc]; rfl, rfl⟩
      case measure => simp [intOf]; omega
    · obtain rfl : k = l.length := by omega
      rw [List.take_length]
      go_wp2_with fail
      go_ret
      exact ⟨rfl, rfl⟩
end Go.Proofs.Yteialfdhbfbkgaa
