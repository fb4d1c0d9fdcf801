/-
  Numbers in decimal, and names: the reference.
  Streams: the reference.
  Streams: words of the reference.
-/
import Derived.Test.YtbgnfioggmkdeaaGreatDoorProg
import Derived.Test.YtbgnfioggmkdeaaGreatDoorPc
import Derived.Laws.Concat
import Derived.Test.YtbgnfioggmkdeaaGreatDoorPe
import Derived.Test.YtbgnfioggmkdeaaGreatDoorPb
namespace Go.Proofs.YtbgnfioggmkdeaaGreatDoor
set_option linter.unusedVariables false
set_option linter.unusedSimpArgs false
open Go Go.RowKit

def digB (n : Nat) : UInt8 := UInt8.ofNat (48 + n)
/-- A natural number's digits. -/
def decN (n : Nat) : List UInt8 := if n < 10 then [digB n] else decN (n / 10) ++ [digB (n % 10)]
termination_by n
def decI (n : Int) : List UInt8 := if n < 0 then 45 :: decN n.natAbs else decN n.natAbs
theorem decN_small (n : Nat) (h : n < 10) : decN n = [digB n] := by rw [decN, if_pos h]
theorem decN_big (n : Nat) (h : ¬ n < 10) : decN n = decN (n / 10) ++ [digB (n % 10)] := by rw [decN, if_neg h]
theorem length_decN (n k : Nat) (hk : 0 < k) (h : n < 10 ^ k) : (decN n).length ≤ k := by
  induction k generalizing n with
  | zero => omega
  | succ k ih =>
    by_cases h10 : n < 10
    · rw [decN_small n h10]; simp
    · rw [decN_big n h10, List.length_append]
      have h2 : n / 10 < 10 ^ k := by rw [Nat.pow_succ] at h; omega
      have h3 : 0 < k := by
        rcases Nat.eq_zero_or_pos k with h0 | h0
        · subst h0; simp at h2; omega
        · exact h0
      have := ih (n / 10) h3 h2
      simp; omega
theorem decN_ne (n : Nat) (h : 0 < n) : decN n ≠ [48] := by
  intro e
  by_cases h10 : n < 10
  · rw [decN_small n h10] at e
    have e1 : digB n = 48 := by simpa using e
    have e2 := congrArg UInt8.toNat e1
    simp [digB] at e2
    omega
  · rw [decN_big n h10] at e
    have e2 := congrArg List.length e
    have : 0 < (decN (n / 10)).length := by
      by_cases h2 : n / 10 < 10
      · rw [decN_small _ h2]; simp
      · rw [decN_big _ h2]; simp
    simp at e2
    rw [e2] at this; simp at this
abbrev strL (l : List UInt8) : Value := .string ⟨l.toArray⟩
theorem digits_cut (k : Nat) (h : k < 10) : (⟨#[48, 49, 50, 51, 52, 53, 54, 55, 56, 57]⟩ : ByteArray).extract k (k + 1) = ⟨[digB k].toArray⟩ := by
  match k, h with
  | 0, _ => rfl | 1, _ => rfl | 2, _ => rfl | 3, _ => rfl | 4, _ => rfl | 5, _ => rfl | 6, _ => rfl | 7, _ => rfl | 8, _ => rfl | 9, _ => rfl
theorem strL_add (l1 l2 : List UInt8) : (⟨l1.toArray⟩ : ByteArray) ++ (⟨l2.toArray⟩ : ByteArray) = ⟨(l1 ++ l2).toArray⟩ := by
  apply ByteArray.ext; simp
theorem run_addL (l1 l2 : List UInt8) (h1 : l1.length ≤ 8388608) (h2 : l2.length ≤ 8388608) (w : World) : (Op.stringOp .add ⟨l1.toArray⟩ ⟨l2.toArray⟩).run Tryz.prog w = .ok (strL (l1 ++ l2)) w := by
  rw [run_string_add w _ _ (by show ((l1.toArray.size : Nat) : Int) ≤ _; simp; omega) (by show ((l2.toArray.size : Nat) : Int) ≤ _; simp; omega), strL_add]
theorem run_digit (k : Nat) (h : k < 10) (w : World) : (Instr.slice 9 (.string ⟨#[48, 49, 50, 51, 52, 53, 54, 55, 56, 57]⟩) (some (.int .i64 (k : Int))) (some (.int .i64 ((k : Int) + 1))) none).run Tryz.prog w = .ok (strL [digB k]) w := by
  have hd := digits_cut k h
  match k, h with
  | 0, _ => simp [Instr.slice, go_sem] at hd ⊢; exact hd
  | 1, _ => simp [Instr.slice, go_sem] at hd ⊢; exact hd
  | 2, _ => simp [Instr.slice, go_sem] at hd ⊢; exact hd
  | 3, _ => simp [Instr.slice, go_sem] at hd ⊢; exact hd
  | 4, _ => simp [Instr.slice, go_sem] at hd ⊢; exact hd
  | 5, _ => simp [Instr.slice, go_sem] at hd ⊢; exact hd
  | 6, _ => simp [Instr.slice, go_sem] at hd ⊢; exact hd
  | 7, _ => simp [Instr.slice, go_sem] at hd ⊢; exact hd
  | 8, _ => simp [Instr.slice, go_sem] at hd ⊢; exact hd
  | 9, _ => simp [Instr.slice, go_sem] at hd ⊢; exact hd
theorem run_digitN (n : Nat) (w : World) : (Instr.slice 9 (.string ⟨#[48, 49, 50, 51, 52, 53, 54, 55, 56, 57]⟩) (some (.int .i64 ((n : Int) % 10))) (some (.int .i64 ((n : Int) % 10 + 1))) none).run Tryz.prog w = .ok (strL [digB (n % 10)]) w := by
  have h := run_digit (n % 10) (by omega) w
  rwa [show ((n % 10 : Nat) : Int) = (n : Int) % 10 from by omega] at h
set_option maxRecDepth 100000 in
set_option maxHeartbeats 1000000 in
theorem DecN_any (w : World) : ∀ (f n : Nat), 0 < f → f ≤ 100 → n < 10 ^ f → n ≤ 9223372036854775807 →
    Calls Tryz.prog 92 #[.int .i64 n] w fun e w' => e = .returned (strL (decN n)) ∧ w = w'
  | 0, _, h, _, _, _ => absurd h (by decide)
  | f + 1, n, _, hf, h, hn => by
    have hdg := fun W => run_digitN n W
    by_cases h10 : n < 10
    · have hm : n % 10 = n := by omega
      rw [hm] at hdg
      have hmi : (n : Int) % 10 = n := by omega
      rw [hmi] at hdg
      rw [decN_small n h10]
      clear h
      go_enter Tryz.func92, Tryz.ntmps92
      go_wp2_with fail
      go_ret
      exact ⟨rfl, rfl⟩
    · have h2 : n / 10 < 10 ^ f := by rw [Nat.pow_succ] at h; omega
      have h3 : 0 < f := by
        rcases Nat.eq_zero_or_pos f with h0 | h0
        · subst h0; simp at h2; omega
        · exact h0
      have hl := length_decN (n / 10) f h3 h2
      have ha := fun W => run_addL (decN (n / 10)) [digB (n % 10)] (by omega) (by simp) W
      have HB := Lib.hid (decN_big n h10)
      have IH := Lib.hid (DecN_any w f (n / 10) h3 (by omega) h2 (by omega))
      rw [show ((n / 10 : Nat) : Int) = (n : Int) / 10 from by omega] at IH
      generalize decN n = R at *
      generalize decN (n / 10) = Q at *
      clear h h2
      go_enter Tryz.func92, Tryz.ntmps92
      go_wp2_with (go_at_call 92; refine IH.out.mono ?_; rintro e w' ⟨rfl, rfl⟩)
      go_ret
      exact ⟨by rw [HB.out]; rfl, rfl⟩

set_option maxRecDepth 100000 in
set_option maxHeartbeats 1000000 in
theorem Dec_any (n : Int) (w : World) (hn : -9223372036854775808 ≤ n ∧ n ≤ 9223372036854775807) :
    Calls Tryz.prog 92 #[.int .i64 n] w fun e w' => e = .returned (strL (decI n)) ∧ w = w' := by
  obtain ⟨n0, n1⟩ := hn
  by_cases hneg : n < 0
  · obtain ⟨m, rfl⟩ : ∃ m : Nat, n = -(m : Int) := ⟨n.natAbs, by omega⟩
    have hm0 : 0 < m := by omega
    have HR := Lib.hid (show decI (-(m : Int)) = 45 :: decN m by unfold decI; rw [if_pos hneg, Int.natAbs_neg, Int.natAbs_natCast])
    have hdg := fun W => run_digitN m W
    have ID := Lib.hid (DecN_any w 20 (m / 10) (by decide) (by decide) (by omega) (by omega))
    rw [show ((m / 10 : Nat) : Int) = (m : Int) / 10 from by omega] at ID
    generalize decI (-(m : Int)) = R at *
    by_cases h10 : m < 10
    · have hq : decN (m / 10) = [48] := by rw [show m / 10 = 0 from by omega, decN_small 0 (by decide)]; rfl
      rw [hq] at ID
      have HB := Lib.hid (show decN m = [digB (m % 10)] by rw [decN_small m h10, Nat.mod_eq_of_lt h10])
      have ha1 := fun W => run_addL [45] [] (by decide) (by decide) W
      have ha2 := fun W => run_addL [45] [digB (m % 10)] (by decide) (by simp) W
      clear hq
      go_enter Tryz.func92, Tryz.ntmps92
      go_wp2_with (go_at_call 92; refine ID.out.mono ?_; rintro e w' ⟨rfl, rfl⟩)
      go_ret
      exact ⟨by rw [HR.out, HB.out]; rfl, rfl⟩
    · have HB := Lib.hid (decN_big m h10)
      have hq0 : (decN (m / 10) == [48]) = false := beq_eq_false_iff_ne.2 (decN_ne (m / 10) (by omega))
      have hl := length_decN (m / 10) 19 (by decide) (by omega)
      generalize decN (m / 10) = Q at *
      have ha1 := fun W => run_addL [45] Q (by decide) (by omega) W
      have ha2 := fun W => run_addL ([45] ++ Q) [digB (m % 10)] (by simp; omega) (by simp) W
      go_enter Tryz.func92, Tryz.ntmps92
      go_wp2_with (go_at_call 92; refine ID.out.mono ?_; rintro e w' ⟨rfl, rfl⟩)
      go_ret
      exact ⟨by rw [HR.out, HB.out]; rfl, rfl⟩
  · obtain ⟨m, rfl⟩ := Int.eq_ofNat_of_zero_le (show 0 ≤ n by omega)
    rw [show decI (m : Int) = decN m by unfold decI; rw [if_neg (by omega)]; rfl]
    exact DecN_any w 20 m (by decide) (by decide) (by omega) (by omega)

abbrev IV (x : Int) : Value := .int .i64 x
abbrev SeesI (w : World) (v : Value) (l : List Int) : Prop := Sees w 1 v l.length (l.map IV)
def inI (n : Int) : Prop := -9223372036854775808 ≤ n ∧ n ≤ 9223372036854775807
def namesL (s : List UInt8) (l : List Int) : List UInt8 := s ++ l.flatMap fun n => 32 :: decI n
theorem namesL_snoc (s : List UInt8) (l : List Int) (k : Nat) (h : k < l.length) : namesL s (l.take (k + 1)) = (namesL s (l.take k) ++ [32]) ++ decI l[k] := by
  rw [List.take_succ_eq_append_getElem h]; simp only [namesL, List.flatMap_append, List.flatMap_cons, List.flatMap_nil, List.append_nil, List.append_assoc, List.cons_append, List.nil_append]
theorem length_decI (n : Int) (h : inI n) : (decI n).length ≤ 20 := by
  unfold decI
  have h1 : n.natAbs < 10 ^ 19 := by unfold inI at h; omega
  have := length_decN n.natAbs 19 (by decide) h1
  split <;> simp <;> omega
theorem length_namesL (s : List UInt8) : ∀ l : List Int, (∀ n ∈ l, inI n) → (namesL s l).length ≤ s.length + 21 * l.length
  | [], _ => by simp [namesL]
  | n :: l, h => by
    have ih := length_namesL s l (fun m hm => h m (by simp [hm]))
    have hn := length_decI n (h n (by simp))
    simp [namesL] at ih ⊢; omega
def NamesRel (w : World) (s : List UInt8) (l : List Int) (sv i : Value) (wr : World) : Prop := ∃ k : Nat, k ≤ l.length ∧ i = .int .i64 k ∧ sv = strL (namesL s (l.take k)) ∧ w = wr
set_option maxRecDepth 100000 in
set_option maxHeartbeats 1000000 in
theorem names_any (s : List UInt8) (l : List Int) (v : Value) (w : World) (hv : SeesI w v l) (hin : ∀ n ∈ l, inI n) (hs : s.length ≤ 1000) (hl : l.length ≤ 100) :
    Calls Tryz.prog 65 #[strL s, v] w fun e w' => e = .returned (strL (namesL s l)) ∧ w = w' := by
  have HV := Lib.hid hv
  obtain ⟨a0, c0, rfl, hac0, hc0⟩ := sees_form hv
  clear hv
  go_enter Tryz.func65, Tryz.ntmps65
  go_wp2_with fail
  go_loopw [0, 5] (fun sv i wr => NamesRel w s l sv i wr) (fun _ i _ => l.length - (intOf i).toNat)
  case atStart => exact ⟨0, by omega, rfl, by simp [namesL], rfl⟩
  case round =>
    obtain ⟨k, hk, rfl, rfl, rfl⟩ := hrel
    by_cases hlt : k < l.length
    · obtain ⟨hl1, a2, c2, he2, hn2, hm2, hnc2, hcellx⟩ := HV.out
      cases he2
      obtain ⟨b, o1, rfl, hcell⟩ := hcellx (by omega)
      have hck := hcell k (IV l[k]) (by simp only [List.getElem?_map, List.getElem?_eq_getElem hlt]; rfl)
      clear hcellx hl1 hm2 hn2 hnc2 hcell
      have hnk := hin l[k] (List.getElem_mem hlt)
      have hsn := Lib.hid (namesL_snoc s l k hlt)
      have hle := length_namesL s (l.take k) (fun n hn => hin n (List.mem_of_mem_take hn))
      rw [List.length_take, Nat.min_eq_left hk] at hle
      have hdl := length_decI l[k] hnk
      generalize l[k] = z at *
      generalize namesL s (l.take k) = S at *
      have ha1 := fun W => run_addL S [32] (by omega) (by decide) W
      have ha2 := fun W => run_addL (S ++ [32]) (decI z) (by rw [List.length_append, List.length_cons, List.length_nil]; omega) (by omega) W
      generalize hD : decI z = D at *
      have HD := Lib.hid hD; clear hD
      go_wp2_with (go_at_call 92; refine (Dec_any z _ hnk).mono ?_; rintro e w' ⟨rfl, rfl⟩; rw [HD.out])
      go_roundw
      case rel => exact ⟨k + 1, by omega, by go_num, by rw [hsn.out, List.append_assoc]; rfl, rfl⟩
      case measure => simp [intOf]; omega
    · obtain rfl : k = l.length := by omega
      rw [List.take_length]
      go_wp2_with fail
      go_ret
      exact ⟨rfl, rfl⟩
end Go.Proofs.YtbgnfioggmkdeaaGreatDoor
namespace Go.Proofs.YtbgnfioggmkdeaaGreatDoor
set_option linter.unusedVariables false
set_option linter.unusedSimpArgs false
open Go Go.RowKit

theorem ext_none {w u : World} (h : w.grownBy u none) : Ext w u := ⟨h.os, h.tape, h.output, h.size, fun k hk => h.block k hk (fun e => by cases e)⟩
def strmC (seed name : List UInt8) (i : Int) : Array Value := (seed.map BV ++ [strL name, .int .u64 i]).toArray
def wordN (seed name : List UInt8) (i : Int) : Int := beN (((parts [seed, name, put64 (i / 4).toNat]).drop (8 * (i % 4)).toNat).take 8)
theorem wordN_in (seed name : List UInt8) (i : Int) : in64 (wordN seed name i) := by
  have h := beN_lt (((parts [seed, name, put64 (i / 4).toNat]).drop (8 * (i % 4)).toNat).take 8)
  have h2 : beN (((parts [seed, name, put64 (i / 4).toNat]).drop (8 * (i % 4)).toNat).take 8) < 18446744073709551616 := Nat.lt_of_lt_of_le h (Nat.le_trans (Nat.pow_le_pow_right (by omega) (show (((parts [seed, name, put64 (i / 4).toNat]).drop (8 * (i % 4)).toNat).take 8).length ≤ 8 by simp; omega)) (by decide))
  unfold wordN; exact ⟨by omega, by omega⟩
abbrev StrB (g : Nat) (seed name : List UInt8) (i : Int) (u : World) : Prop := Blk u g (strmC seed name i) 163
theorem stabStrB (g : Nat) (seed name : List UInt8) (i : Int) : Stab (StrB g seed name i) := Stab.blk _ _ _
theorem strm_name {u : World} {g : Nat} {seed name : List UInt8} {i : Int} (h : StrB g seed name i u) (h32 : seed.length = 32) : u.cell? ⟨g, 32, none⟩ = some (strL name) := by
  rw [h.cell, strmC, List.getElem?_toArray, List.getElem?_append_right (by simp; omega)]; simp [h32]
theorem strm_i {u : World} {g : Nat} {seed name : List UInt8} {i : Int} (h : StrB g seed name i u) (h32 : seed.length = 32) : u.cell? ⟨g, 33, none⟩ = some (.int .u64 i) := by
  rw [h.cell, strmC, List.getElem?_toArray, List.getElem?_append_right (by simp; omega)]; simp [h32]
theorem strm_seed {u : World} {g : Nat} {seed name : List UInt8} {i : Int} (h : StrB g seed name i u) (h32 : seed.length = 32) : SeesB u (.slice (some ⟨g, 0, none⟩) 32 32) seed := by
  refine ⟨by simp, some ⟨g, 0, none⟩, 32, by rw [h32], by omega, by decide, (fun h => nomatch h), fun _ => ⟨g, 0, rfl, fun j v hj => ?_⟩⟩
  have hjl := (List.getElem?_eq_some_iff.1 hj).1
  rw [Nat.zero_add, h.cell, strmC, List.getElem?_toArray, List.getElem?_append_left hjl]; exact hj
theorem strmC_set (seed name : List UInt8) (i j : Int) (h32 : seed.length = 32) : (strmC seed name i).setIfInBounds 33 (.int .u64 j) = strmC seed name j := by
  unfold strmC
  rw [List.setIfInBounds_toArray, List.set_append_right _ _ (by simp; omega)]
  simp [h32]
theorem wpList_strB {ops : Array Oper} {rest : List Oper} {o : Oper} {a : Act} {w : World} {Q : Exit → Act → World → Prop} (hgd : o.guard = none) (x : Operand) (ho : o.op = .convert 9 44 x) (l : List UInt8) (hx : a.eval x = strL l) (hl : l.length ≤ 1000000)
    (h : ∀ w' v, SeesB w' v l → v.oneCell' = true → Ext w w' → wpList Tryz.prog ops Q rest (a.put o.dst v) w') : wpList Tryz.prog ops Q (o :: rest) a w := by
  have hrun := run_bytes_of_string (P := Tryz.prog) w 9 44 5 ⟨l.toArray⟩ u_string u_bytes u_byte
  have hsz : (⟨l.toArray⟩ : ByteArray).size = l.length := by show l.toArray.size = _; simp
  have hs := seesT_string w.drew ⟨l.toArray⟩ (grownCap w (⟨l.toArray⟩ : ByteArray).size 0 5) ((bytesRow ⟨l.toArray⟩ (grownCap w (⟨l.toArray⟩ : ByteArray).size 0 5)).size, (bytesRow ⟨l.toArray⟩ (grownCap w (⟨l.toArray⟩ : ByteArray).size 0 5)).size + 1) (grownCap_ge _ _ _ _) (grownCap_le_maxLen _ _ _ _ (by rw [hsz]; unfold maxLen; omega))
  refine wpList_plain hgd fun K hK => ?_
  unfold Oper.wp
  simp only [execOp, ho, hx, Sem.run_bind, hrun, Result.andThen_ok, Sem.run_pure]
  exact hK _ _ (h _ _ (by have := hs.1; simpa using this) rfl (show Below _ _ _ from by go_grown))
theorem seesBB_3 {w : World} {u1 u2 u3 : Value} {l1 l2 l3 : List UInt8} (t : TypeId) (h1 : SeesB w u1 l1) (h2 : SeesB w u2 l2) (h3 : SeesB w u3 l3) :
    SeesBB (w.alloc (.cells #[u1, u2, u3] t)) (.slice (some ⟨w.heap.size, 0, none⟩) 3 3) [l1, l2, l3] :=
  seesBB_new [u1, u2, u3] t [l1, l2, l3] rfl (by show 3 ≤ 1000; decide) (fun i l u hl hu => by
    match i with
    | 0 => cases hl; cases hu; exact h1
    | 1 => cases hl; cases hu; exact h2
    | 2 => cases hl; cases hu; exact h3
    | n + 3 => simp at hl)
theorem wpList_lit3 {ops : Array Oper} {rest : List Oper} {o : Oper} {a : Act} {w : World} {Q : Exit → Act → World → Prop} (hgd : o.guard = none) (x y z : Operand) (ho : o.op = .buildSlice 165 3 #[(0, x), (1, y), (2, z)])
    (u1 u2 u3 : Value) (l1 l2 l3 : List UInt8) (hx : a.eval x = u1) (hy : a.eval y = u2) (hz : a.eval z = u3) (o1 : u1.oneCell' = true) (o2 : u2.oneCell' = true) (o3 : u3.oneCell' = true) (h1 : SeesB w u1 l1) (h2 : SeesB w u2 l2) (h3 : SeesB w u3 l3)
    (h : ∀ w' B, SeesBB w' (.slice (some ⟨B, 0, none⟩) 3 3) [l1, l2, l3] → Ext w w' → wpList Tryz.prog ops Q rest (a.put o.dst (.slice (some ⟨B, 0, none⟩) 3 3)) w') : wpList Tryz.prog ops Q (o :: rest) a w := by
  have k1 := h1; have k2 := h2; have k3 := h3
  obtain ⟨_, a1, c1, rfl, _⟩ := h1
  obtain ⟨_, a2, c2, rfl, _⟩ := h2
  obtain ⟨_, a3, c3, rfl, _⟩ := h3
  have hrun : (Instr.buildSlice 165 3 #[(0, .slice a1 l1.length c1), (1, .slice a2 l2.length c2), (2, .slice a3 l3.length c3)]).run Tryz.prog w = .ok (.slice (some ⟨w.heap.size, 0, none⟩) 3 3) (w.alloc (.cells #[.slice a1 l1.length c1, .slice a2 l2.length c2, .slice a3 l3.length c3] 44)) := by simp [go_sem]
  refine wpList_plain hgd fun K hK => ?_
  unfold Oper.wp
  simp only [execOp, ho, List.map_toArray, List.map_cons, List.map_nil, hx, hy, hz, Sem.run_bind, hrun, Result.andThen_ok, Sem.run_pure]
  exact hK _ _ (h _ _ (seesBB_3 _ k1 k2 k3) (Ext.alloc _ _))
end Go.Proofs.YtbgnfioggmkdeaaGreatDoor
namespace Go.Proofs.YtbgnfioggmkdeaaGreatDoor
set_option linter.unusedVariables false
set_option linter.unusedSimpArgs false
open Go Go.RowKit

theorem wpList_build2 {P : Program} {ops : Array Oper} {rest : List Oper} {o : Oper} {a : Act} {w : World} {Q : Exit → Act → World → Prop} (hgd : o.guard = none) (ty : TypeId) (i j : Nat) (x y : Operand) (ho : o.op = .build ty #[(i, x), (j, y)])
    (u v r : Value) (hx : a.eval x = u) (hy : a.eval y = v) (hrun : (Instr.build ty #[(i, u), (j, v)]).run P w = .ok r w) (h : wpList P ops Q rest (a.put o.dst r) w) : wpList P ops Q (o :: rest) a w := by
  refine wpList_plain hgd fun K hK => ?_
  unfold Oper.wp
  simp only [execOp, ho, List.map_toArray, List.map_cons, List.map_nil, hx, hy, Sem.run_bind, hrun, Result.andThen_ok, Sem.run_pure]
  exact hK _ _ h
theorem wpList_boxB {P : Program} {ops : Array Oper} {rest : List Oper} {o : Oper} {a : Act} {w : World} {Q : Exit → Act → World → Prop} (hgd : o.guard = none) (ty : TypeId) (x : Operand) (ho : o.op = .box ty x) (cs : Array Value) (hx : a.eval x = .agg cs)
    (hrun : (Instr.box ty (.agg cs)).run P w = .ok (.pointer (some ⟨w.heap.size, 0, none⟩)) (w.alloc (.cells cs ty)))
    (h : ∀ w' B, Blk w' B cs ty → w.heap.size ≤ B → Ext w w' → wpList P ops Q rest (a.put o.dst (.pointer (some ⟨B, 0, none⟩))) w') : wpList P ops Q (o :: rest) a w := by
  refine wpList_plain hgd fun K hK => ?_
  unfold Oper.wp
  simp only [execOp, ho, hx, Sem.run_bind, hrun, Result.andThen_ok, Sem.run_pure]
  exact hK _ _ (h _ _ (Blk.new _ _ _) (Nat.le_refl _) (Ext.alloc _ _))
theorem run_boxS (cs : Array Value) (W : World) : (Instr.box 163 (.agg cs)).run Tryz.prog W = .ok (.pointer (some ⟨W.heap.size, 0, none⟩)) (W.alloc (.cells cs 163)) := by
  simp [go_sem]
theorem fill_at : ∀ (cs base : List Value) (k : Nat), k + cs.length ≤ base.length →
    (cs.zipIdx k).foldl (fun (acc : Array Value) x => acc.setIfInBounds x.2 x.1) base.toArray = (base.take k ++ cs ++ base.drop (k + cs.length)).toArray
  | [], base, k, _ => by simp
  | c :: cs, base, k, h => by
    simp only [List.length_cons] at h
    rw [List.zipIdx_cons, List.foldl_cons, List.setIfInBounds_toArray, fill_at cs (base.set k c) (k + 1) (by simp; omega)]
    congr 1
    have e1 : (base.set k c).take (k + 1) = base.take k ++ [c] := by
      rw [List.take_set, List.take_succ_eq_append_getElem (by omega)]
      rw [List.set_append_right _ _ (by simp; omega)]
      simp [Nat.min_eq_left (show k ≤ base.length by omega)]
    have e2 : (base.set k c).drop (k + 1 + cs.length) = base.drop (k + (c :: cs).length) := by
      rw [List.drop_set, if_pos (by omega)]; congr 1; simp; omega
    rw [e1, e2]; simp
theorem run_buildStrm (seed name : List UInt8) (h32 : seed.length = 32) (W : World) : (Instr.build 163 #[(0, .agg (keyA seed)), (1, strL name)]).run Tryz.prog W = .ok (.agg (strmC seed name 0)) W := by
  have hs : (keyA seed).size = 32 := by rw [keyA_size, h32]
  have hf : ∀ base : List Value, base.length = 34 → Array.foldl (fun (cs : Array Value) (x : Value × Nat) => cs.setIfInBounds x.snd x.fst) base.toArray (keyA seed).zipIdx 0 32 = (seed.map BV ++ base.drop 32).toArray := fun base hb => by
    have h1 := fill_at (seed.map BV) base 0 (by simp; omega)
    rw [Nat.zero_add, List.length_map, h32, List.take_zero, List.nil_append] at h1
    rw [← h1]
    unfold keyA
    have hz : ((List.map BV seed).toArray.zipIdx).size = 32 := by simp [h32]
    have h2 := Array.foldl_toList (f := fun (cs : Array Value) (x : Value × Nat) => cs.setIfInBounds x.snd x.fst) (init := base.toArray) (xs := (List.map BV seed).toArray.zipIdx)
    rw [hz] at h2
    rw [← h2, Array.toList_zipIdx]
  simp [go_sem, hs]
  rw [hf _ rfl]
  simp [strmC, h32]

set_option maxRecDepth 100000 in
set_option maxHeartbeats 1000000 in
theorem NewStreamr_any (seed name : List UInt8) (w : World) (h32 : seed.length = 32) :
    Calls Tryz.prog 64 #[.agg (keyA seed), strL name] w fun e w' => ∃ g, e = .returned (.pointer (some ⟨g, 0, none⟩)) ∧ StrB g seed name 0 w' ∧ w.heap.size ≤ g ∧ Below w.heap.size w w' := by
  have HK := Lib.hid h32; clear h32
  go_enter Tryz.func64, Tryz.ntmps64
  go_wp2_with (first
    | (refine wpList_boxB rfl 163 _ rfl (strmC seed name 0) rfl (run_boxS _ _) ?_; intro x1 B1 hb1 hB1 e1)
    | (refine wpList_build2 rfl 163 0 1 _ _ rfl (.agg (keyA seed)) (strL name) (.agg (strmC seed name 0)) rfl rfl (run_buildStrm seed name HK.out _) ?_)
    | (refine wpList_load_row rfl 24 _ rfl w.heap.size rfl _ _ (0, 0) _ (Blk.new w _ _) under_key rfl (by rw [keyA_size, HK.out]; exact info_key) ?_))
  go_ret
  exact ⟨B1, rfl, hb1, by simp only [World.size_alloc] at hB1; omega, (Ext.alloc w _).tr e1⟩

abbrev KE2 (B : Nat) (key : List UInt8) (u : World) : Prop := Blk u B (keyA key) 24
theorem owns_one {w : World} {B : Nat} {v : Value} {l : List UInt8} (h : OwnB w B v l) : v.oneCell' = true := by
  obtain ⟨a, c, rfl, _⟩ := owns_form h; rfl
/-- Seen in any later world that the context reaches. -/
theorem exB {w w' : World} {v : Value} {l : List UInt8} (h : SeesB w v l) (e : Ext w w' := by first | with_reducible exact Ext.refl _ | solve_by_elim (maxDepth := 30) [Ext.tr]) : SeesB w' v l := h.below e (by decide)
theorem exBB {w w' : World} {v : Value} {l : List (List UInt8)} (h : SeesBB w v l) (e : Ext w w' := by first | with_reducible exact Ext.refl _ | solve_by_elim (maxDepth := 30) [Ext.tr]) : SeesBB w' v l := h.below e
theorem exK {w w' : World} {g : Nat} {cs : Array Value} {t : TypeId} (h : Blk w g cs t) (e : Ext w w' := by first | with_reducible exact Ext.refl _ | solve_by_elim (maxDepth := 30) [Ext.tr]) : Blk w' g cs t := h.below e
set_option maxRecDepth 100000 in
set_option maxHeartbeats 4000000 in
theorem Wordr_any (g : Nat) (seed name : List UInt8) (i : Int) (w : World) (hB : StrB g seed name i w) (h32 : seed.length = 32) (hn : name.length ≤ 10000) (hi0 : 0 ≤ i) (hi : i ≤ 1000000000) :
    Calls Tryz.prog 66 #[.pointer (some ⟨g, 0, none⟩)] w fun e w' => e = .returned (.int .u64 (wordN seed name i)) ∧ StrB g seed name (i + 1) w' ∧ w.grownBy w' (some g) := by
  have HK := Lib.hid h32
  obtain ⟨S, hS⟩ : ∃ S, parts [seed, name, put64 (i / 4).toNat] = S := ⟨_, rfl⟩
  have HW := Lib.hid (show wordN seed name i = beN ((S.drop (8 * (i % 4)).toNat).take 8) by rw [← hS]; rfl)
  have hSL : S.length = 32 := by rw [← hS]; exact length_parts _
  have HS := Lib.hid hS; have HSL := Lib.hid hSL; clear hS hSL
  obtain ⟨W0, W1⟩ := wordN_in seed name i
  generalize wordN seed name i = WD at *
  have HFL : Hid ((flatP [seed, name, put64 (i / 4).toNat]).length ≤ 70368744177000) := by
    show _ ≤ _
    simp only [flatP, List.flatMap_cons, List.flatMap_nil, List.length_append, length_put64, List.length_nil, h32]
    omega
  have hstab := stabStrB g seed name i
  have hk : HoldT (StrB g seed name i) w w.drew := ⟨hB.drew, Below.drew (Below.refl _ _)⟩
  have hS0 : ∀ e : InC (StrB g seed name i), e.u.cell? ⟨g, 32, none⟩ = some (strL name) := fun e => strm_name e.has h32
  have hS1 : ∀ e : InC (StrB g seed name i), e.u.cell? ⟨g, 33, none⟩ = some (.int .u64 i) := fun e => strm_i e.has h32
  clear h32
  go_enter Tryz.func66, Tryz.ntmps66
  go_wp2_with fail
  try change Code.wp _ _ _ (Act.mk _ _) _
  haveI hne_ : Nonempty (InC (StrB g seed name i)) := ⟨⟨_, (hk).1⟩⟩
  refine wp_region_tr (C := fun w_ => ∃ e_ : InC (StrB g seed name i), w_ = e_.u) (.step [0, 1, 2, 3, 5, 6, 7, 8, 10, 11, 12, 13, 14] (.alt 4 (.step [] (.alt 9 (.step [] (.alt 15 (.step [] (.alt 16 (.step [] (.alt 17 (.step [] (.alt 18 (.step [] (.alt 19 (.fin []) .nil)) .nil)) (.alt 18 (.step [] (.alt 17 (.step [] (.alt 19 (.fin []) .nil)) .nil)) .nil))) (.alt 18 (.step [] (.alt 16 (.step [] (.alt 17 (.step [] (.alt 19 (.fin []) .nil)) .nil)) .nil)) .nil))) (.alt 18 (.step [] (.alt 15 (.step [] (.alt 16 (.step [] (.alt 17 (.step [] (.alt 19 (.fin []) .nil)) .nil)) .nil)) .nil)) .nil))) (.alt 15 (.step [] (.alt 9 (.step [] (.alt 16 (.step [] (.alt 17 (.step [] (.alt 18 (.step [] (.alt 19 (.fin []) .nil)) .nil)) (.alt 18 (.step [] (.alt 17 (.step [] (.alt 19 (.fin []) .nil)) .nil)) .nil))) (.alt 18 (.step [] (.alt 16 (.step [] (.alt 17 (.step [] (.alt 19 (.fin []) .nil)) .nil)) .nil)) .nil))) (.alt 18 (.step [] (.alt 9 (.step [] (.alt 16 (.step [] (.alt 17 (.step [] (.alt 19 (.fin []) .nil)) .nil)) .nil)) .nil)) .nil))) (.alt 18 (.step [] (.alt 9 (.step [] (.alt 15 (.step [] (.alt 16 (.step [] (.alt 17 (.step [] (.alt 19 (.fin []) .nil)) .nil)) .nil)) .nil)) (.alt 15 (.step [] (.alt 9 (.step [] (.alt 16 (.step [] (.alt 17 (.step [] (.alt 19 (.fin []) .nil)) .nil)) .nil)) .nil)) .nil))) .nil)))) (.alt 9 (.step [] (.alt 4 (.step [] (.alt 15 (.step [] (.alt 16 (.step [] (.alt 17 (.step [] (.alt 18 (.step [] (.alt 19 (.fin []) .nil)) .nil)) (.alt 18 (.step [] (.alt 17 (.step [] (.alt 19 (.fin []) .nil)) .nil)) .nil))) (.alt 18 (.step [] (.alt 16 (.step [] (.alt 17 (.step [] (.alt 19 (.fin []) .nil)) .nil)) .nil)) .nil))) (.alt 18 (.step [] (.alt 15 (.step [] (.alt 16 (.step [] (.alt 17 (.step [] (.alt 19 (.fin []) .nil)) .nil)) .nil)) .nil)) .nil))) (.alt 18 (.step [] (.alt 4 (.step [] (.alt 15 (.step [] (.alt 16 (.step [] (.alt 17 (.step [] (.alt 19 (.fin []) .nil)) .nil)) .nil)) .nil)) .nil)) .nil))) (.alt 18 (.step [] (.alt 4 (.step [] (.alt 9 (.step [] (.alt 15 (.step [] (.alt 16 (.step [] (.alt 17 (.step [] (.alt 19 (.fin []) .nil)) .nil)) .nil)) .nil)) (.alt 15 (.step [] (.alt 9 (.step [] (.alt 16 (.step [] (.alt 17 (.step [] (.alt 19 (.fin []) .nil)) .nil)) .nil)) .nil)) .nil))) (.alt 9 (.step [] (.alt 4 (.step [] (.alt 15 (.step [] (.alt 16 (.step [] (.alt 17 (.step [] (.alt 19 (.fin []) .nil)) .nil)) .nil)) .nil)) .nil)) .nil))) .nil)))) (by kernel_rfl) (by kernel_rfl) (fun _ _ _ _ hd_ h_ => ⟨hd_.symm.trans h_.1, h_.2⟩) ⟨⟨World.drew _, (hk).1⟩, rfl⟩ ?_
  have hk_ := hk
  repeat' (first
    | ((with_reducible refine wpTr_fin ?_)
       simp only [pickOps, List.flatMap_cons, List.flatMap_nil, List.drop_succ_cons, List.drop_zero, List.take_succ_cons, List.take_zero, List.cons_append, List.nil_append, List.append_nil]
       repeat (go_big_quiet_step (exact rfl))
       refine wpQuiet_nil ?_)
    | ((with_reducible refine wpTr_step ?_); simp only [pickOps, List.flatMap_cons, List.flatMap_nil, List.drop_succ_cons, List.drop_zero, List.take_succ_cons, List.take_zero, List.cons_append, List.nil_append, List.append_nil]; repeat (go_big_quiet_step (exact rfl))
       refine wpQuiet_nil ?_)
    | (with_reducible refine wpTr_one ?_)
    | (with_reducible refine wpTr_alt ?_ ?_)
    | (simp only [pickOps, List.flatMap_cons, List.flatMap_nil, List.drop_succ_cons, List.drop_zero, List.take_succ_cons, List.take_zero, List.cons_append, List.nil_append, List.append_nil]
       go_wp2_with (first
    | (at_builtin; refine appB (W := w) rfl _ _ rfl (.slice none 0 0) [] rfl (ownB_nil _ _) _ seed rfl (strm_seed hk_.has HK.out) (by rw [HK.out, List.length_nil]; decide) hk_.up ?_; intro v1 x1 hown1 hg1 hb1; rw [List.nil_append] at hown1; have e1 := ext_none hg1; clear hg1; have hk1 := HoldT.step hstab hk_ e1)
    | (refine wpList_strB rfl _ rfl name rfl (by omega) ?_; intro x2 v2 hs2 ho2 e2; have hk2 := HoldT.step hstab hk_ e2)
    | (go_at_call 91; refine (Put64r_any _ _ [] (i / 4) (Sees.nil _ _) (by omega) (by omega) (by decide)).mono ?_; rintro e x3 ⟨v3, rfl, hown3, hb3⟩; rw [List.nil_append] at hown3; have e3 : Ext _ x3 := hb3; have hk3 := HoldT.step hstab hk_ e3)
    | (refine wpList_allocB rfl _ rfl _ run_allocKey ?_; intro x4 B4 hh hB4 e4; have hlt4 : g < B4 := Nat.lt_of_lt_of_le (Blk.lt hk_.has) hB4; have hlw4 : w.heap.size ≤ B4 := Nat.le_trans hk_.up.size hB4; have hk4 := HoldT.step hstab hk_ e4)
    | (refine wpList_lit3 rfl _ _ _ rfl _ _ _ seed name (put64 (i / 4).toNat) rfl rfl rfl (owns_one hown1) ho2 (owns_one hown3) (exB (sees_of_owns hown1)) (exB hs2) (exB (sees_of_owns hown3)) ?_; intro x5 B5 hbb e5; have hk5 := HoldT.step hstab hk_ e5)
    | (go_at_call 102; refine (Partsr_any _ _ [seed, name, put64 (i / 4).toNat] (exBB hbb) HFL.out).mono ?_; rintro e x6 ⟨rfl, hb6⟩; rw [HS.out]; have e6 : Ext _ x6 := hb6; have hk6 := HoldT.step hstab hk_ e6)
    | (refine wpList_store_row rfl 24 _ _ rfl B4 (keyA S) _ _ rfl rfl (exK hh) (by rw [keyA_size, keyA_size, HSL.out]; rfl) (by rw [keyA_size, HSL.out]; exact info_key) (keyA_one _) ?_; intro x7 hg7 hs7 hR7
       have hk7 : HoldT (StrB g seed name i) w x7 := ⟨Blk.grownBy hk_.has hg7 (some_ne (by omega)), hk_.up.grown hg7 hk_.up.size (fun k hk => by cases hk; exact hlw4)⟩))
       refine phPost_hold (by first | with_reducible assumption | exact HoldT.alloc hstab (by with_reducible assumption) _ | exact HoldT.alloc hstab (HoldT.alloc hstab (by with_reducible assumption) _) _) ?_
       intro hk_))
  all_goals (
    have hstab2 : Stab (fun u => StrB g seed name i u ∧ KE2 B4 S u) := Stab.and (stabStrB g seed name i) (Stab.blk _ _ _)
    have hkz : HoldT (fun u => StrB g seed name i u ∧ KE2 B4 S u) w x7.drew := HoldT.drew hstab2 ⟨⟨hk_.has, hR7⟩, hk_.up⟩
    have hT1 : ∀ e : InC (fun u => StrB g seed name i u ∧ KE2 B4 S u), e.u.cell? ⟨g, 33, none⟩ = some (.int .u64 i) := fun e => strm_i e.has.1 HK.out
    clear hg7 hs7 hR7
    go_wp2_with fail
    try change Code.wp _ _ _ (Act.mk _ _) _
    haveI hne_ : Nonempty (InC (fun u => StrB g seed name i u ∧ KE2 B4 S u)) := ⟨⟨_, (hkz).1⟩⟩
    refine wp_region_tr (C := fun w_ => ∃ e_ : InC (fun u => StrB g seed name i u ∧ KE2 B4 S u), w_ = e_.u) (.step [0, 1, 2, 3, 4, 5, 6, 7] (.alt 8 (.fin [9, 10, 11, 12, 13]) .nil)) (by kernel_rfl) (by kernel_rfl) (fun _ _ _ _ hd_ h_ => ⟨hd_.symm.trans h_.1, h_.2⟩) ⟨⟨World.drew _, (hkz).1⟩, rfl⟩ ?_
    have hk_ := hkz
    repeat' (first
      | ((with_reducible refine wpTr_fin ?_)
         simp only [pickOps, List.flatMap_cons, List.flatMap_nil, List.drop_succ_cons, List.drop_zero, List.take_succ_cons, List.take_zero, List.cons_append, List.nil_append, List.append_nil]
         repeat (go_big_quiet_step (exact rfl))
         refine wpQuiet_nil ?_)
      | ((with_reducible refine wpTr_step ?_); simp only [pickOps, List.flatMap_cons, List.flatMap_nil, List.drop_succ_cons, List.drop_zero, List.take_succ_cons, List.take_zero, List.cons_append, List.nil_append, List.append_nil]; repeat (go_big_quiet_step (exact rfl))
         refine wpQuiet_nil ?_)
      | (with_reducible refine wpTr_one ?_)
      | (with_reducible refine wpTr_alt ?_ ?_)
      | (simp only [pickOps, List.flatMap_cons, List.flatMap_nil, List.drop_succ_cons, List.drop_zero, List.take_succ_cons, List.take_zero, List.cons_append, List.nil_append, List.append_nil]
         go_wp2_with (first
      | (go_at_call 81; refine (Get64r_ok _ _ S (8 * (i % 4)) (seesB_key hk_.has.2 HSL.out) (by omega) (by rw [HSL.out]; omega)).mono ?_; rintro e y1 ⟨rfl, rfl⟩; rw [← HW.out]))
         refine phPost_hold (by first | with_reducible assumption | exact HoldT.alloc hstab (by with_reducible assumption) _ | exact HoldT.alloc hstab (HoldT.alloc hstab (by with_reducible assumption) _) _) ?_
         intro hk_))
    have hci := strm_i hk_.has.1 HK.out
    have hfi := Blk.free hk_.has.1 33
    have hend := Blk.set hk_.has.1 33 (.int .u64 (i + 1))
    rw [strmC_set seed name i (i + 1) HK.out] at hend
    have hgr := grownBy_set ((show Ext w _ from hk_.up).g (some g)) 33 (.int .u64 (i + 1))
    go_wp2_with fail
    go_ret
    exact ⟨rfl, hend, hgr⟩)
end Go.Proofs.YtbgnfioggmkdeaaGreatDoor
