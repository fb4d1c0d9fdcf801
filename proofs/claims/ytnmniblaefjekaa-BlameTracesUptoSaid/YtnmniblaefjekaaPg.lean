/-
  Numbers in decimal, and names: the reference.
  Streams: the reference.
  Streams: words of the reference.
-/
import Derived.Test.YtnmniblaefjekaaProg
import Derived.Test.YtnmniblaefjekaaPc
import Derived.Laws.Concat
import Derived.Test.YtnmniblaefjekaaPe
import Derived.Test.YtnmniblaefjekaaPb
namespace Go.Proofs.Ytnmniblaefjekaa
set_option linter.unusedVariables false
set_option linter.unusedSimpArgs false
open Go Go.RowKit

def digB (n : Nat) : UInt8 := UInt8.ofNat (48 + n)
/-- A natural number's digits. -/
def decN (n : Nat) : List UInt8 := if n < 10 then [digB n] else decN (n / 10) ++ [digB (n % 10)]
termination_by n
def decI (n : Int) : List UInt8 := if n < 0 then 45 :: decN n.natAbs else decN n.natAbs
theorem decN_small (n : Nat) (h : n < 10) : decN n = [digB n] := by rw [decN, if_pos h]
theorem decN_big (n : Nat) (h : ¬ n < 10) : decN n = decN (n / 10) ++ [digB (n % 10)] := by rw [decN, if_neg h]
theorem length_decN (n k : Nat) (hk : 0 < k) (h : n < 10 ^ k) : (decN n).length ≤ k := by
  induction k generalizing n with
  | zero => omega
  | succ k ih =>
    by_cases h10 : n < 10
    · rw [decN_small n h10]; simp
    · rw [decN_big n h10, List.length_append]
      have h2 : n / 10 < 10 ^ k := by rw [Nat.pow_succ] at h; omega
      have h3 : 0 < k := by
        rcases Nat.eq_zero_or_pos k with h0 | h0
        · subst h0; simp at h2; omega
        · exact h0
      have := ih (n / 10) h3 h2
      simp; omega
theorem decN_ne (n : Nat) (h : 0 < n) : decN n ≠ [48] := by
  intro e
  by_cases h10 : n < 10
  · rw [decN_small n h10] at e
    have e1 : digB n = 48 := by simpa using e
    have e2 := congrArg UInt8.toNat e1
    simp [digB] at e2
    omega
  · rw [decN_big n h10] at e
    have e2 := congrArg List.length e
    have : 0 < (decN (n / 10)).length := by
      by_cases h2 : n / 10 < 10
      · rw [decN_small _ h2]; simp
      · rw [decN_big _ h2]; simp
    simp at e2
    rw [e2] at this; simp at this
abbrev strL (l : List UInt8) : Value := .string ⟨l.toArray⟩
theorem digits_cut (k : Nat) (h : k < 10) : (⟨#[48, 49, 50, 51, 52, 53, 54, 55, 56, 57]⟩ : ByteArray).extract k (k + 1) = ⟨[digB k].toArray⟩ := by
  match k, h with
  | 0, _ => rfl | 1, _ => rfl | 2, _ => rfl | 3, _ => rfl | 4, _ => rfl | 5, _ => rfl | 6, _ => rfl | 7, _ => rfl | 8, _ => rfl | 9, _ => rfl
theorem strL_add (l1 l2 : List UInt8) : (⟨l1.toArray⟩ : ByteArray) ++ (⟨l2.toArray⟩ : ByteArray) = ⟨(l1 ++ l2).toArray⟩ := by
  apply ByteArray.ext; simp
theorem run_addL (l1 l2 : List UInt8) (h1 : l1.length ≤ 8388608) (h2 : l2.length ≤ 8388608) (w : World) : (Op.stringOp .add ⟨l1.toArray⟩ ⟨l2.toArray⟩).run Try.prog w = .ok (strL (l1 ++ l2)) w := by
  rw [run_string_add w _ _ (by show ((l1.toArray.size : Nat) : Int) ≤ _; simp; omega) (by show ((l2.toArray.size : Nat) : Int) ≤ _; simp; omega), strL_add]
theorem run_digit (k : Nat) (h : k < 10) (w : World) : (Instr.slice 9 (.string ⟨#[48, 49, 50, 51, 52, 53, 54, 55, 56, 57]⟩) (some (.int .i64 (k : Int))) (some (.int .i64 ((k : Int) + 1))) none).run Try.prog w = .ok (strL [digB k]) w := by
  have hd := digits_cut k h
  match k, h with
  | 0, _ => simp [Instr.slice, go_sem] at hd ⊢; exact hd
  | 1, _ => simp [Instr.slice, go_sem] at hd ⊢; exact hd
  | 2, _ => simp [Instr.slice, go_sem] at hd ⊢; exact hd
  | 3, _ => simp [Instr.slice, go_sem] at hd ⊢; exact hd
  | 4, _ => simp [Instr.slice, go_sem] at hd ⊢; exact hd
  | 5, _ => simp [Instr.slice, go_sem] at hd ⊢; exact hd
  | 6, _ => simp [Instr.slice, go_sem] at hd ⊢; exact hd
  | 7, _ => simp [Instr.slice, go_sem] at hd ⊢; exact hd
  | 8, _ => simp [Instr.slice, go_sem] at hd ⊢; exact hd
  | 9, _ => simp [Instr.slice, go_sem] at hd ⊢; exact hd
theorem run_digitN (n : Nat) (w : World) : (Instr.slice 9 (.string ⟨#[48, 49, 50, 51, 52, 53, 54, 55, 56, 57]⟩) (some (.int .i64 ((n : Int) % 10))) (some (.int .i64 ((n : Int) % 10 + 1))) none).run Try.prog w = .ok (strL [digB (n % 10)]) w := by
  have h := run_digit (n % 10) (by omega) w
  rwa [show ((n % 10 : Nat) : Int) = (n : Int) % 10 from by omega] at h
abbrev IV (x : Int) : Value := .int .i64 x
abbrev SeesI (w : World) (v : Value) (l : List Int) : Prop := Sees w 1 v l.length (l.map IV)
def inI (n : Int) : Prop := -9223372036854775808 ≤ n ∧ n ≤ 9223372036854775807
def namesL (s : List UInt8) (l : List Int) : List UInt8 := s ++ l.flatMap fun n => 32 :: decI n
theorem namesL_snoc (s : List UInt8) (l : List Int) (k : Nat) (h : k < l.length) : namesL s (l.take (k + 1)) = (namesL s (l.take k) ++ [32]) ++ decI l[k] := by
  rw [List.take_succ_eq_append_getElem h]; simp only [namesL, List.flatMap_append, List.flatMap_cons, List.flatMap_nil, List.append_nil, List.append_assoc, List.cons_append, List.nil_append]
theorem length_decI (n : Int) (h : inI n) : (decI n).length ≤ 20 := by
  unfold decI
  have h1 : n.natAbs < 10 ^ 19 := by unfold inI at h; omega
  have := length_decN n.natAbs 19 (by decide) h1
  split <;> simp <;> omega
theorem length_namesL (s : List UInt8) : ∀ l : List Int, (∀ n ∈ l, inI n) → (namesL s l).length ≤ s.length + 21 * l.length
  | [], _ => by simp [namesL]
  | n :: l, h => by
    have ih := length_namesL s l (fun m hm => h m (by simp [hm]))
    have hn := length_decI n (h n (by simp))
    simp [namesL] at ih ⊢; omega
def NamesRel (w : World) (s : List UInt8) (l : List Int) (sv i : Value) (wr : World) : Prop := ∃ k : Nat, k ≤ l.length ∧ i = .int .i64 k ∧ sv = strL (namesL s (l.take k)) ∧ w = wr
end Go.Proofs.Ytnmniblaefjekaa
namespace Go.Proofs.Ytnmniblaefjekaa
set_option linter.unusedVariables false
set_option linter.unusedSimpArgs false
open Go Go.RowKit

theorem ext_none {w u : World} (h : w.grownBy u none) : Ext w u := ⟨h.os, h.tape, h.output, h.size, fun k hk => h.block k hk (fun e => by cases e)⟩
def strmC (seed name : List UInt8) (i : Int) : Array Value := (seed.map BV ++ [strL name, .int .u64 i]).toArray
def wordN (seed name : List UInt8) (i : Int) : Int := beN (((parts [seed, name, put64 (i / 4).toNat]).drop (8 * (i % 4)).toNat).take 8)
theorem wordN_in (seed name : List UInt8) (i : Int) : in64 (wordN seed name i) := by
  have h := beN_lt (((parts [seed, name, put64 (i / 4).toNat]).drop (8 * (i % 4)).toNat).take 8)
  have h2 : beN (((parts [seed, name, put64 (i / 4).toNat]).drop (8 * (i % 4)).toNat).take 8) < 18446744073709551616 := Nat.lt_of_lt_of_le h (Nat.le_trans (Nat.pow_le_pow_right (by omega) (show (((parts [seed, name, put64 (i / 4).toNat]).drop (8 * (i % 4)).toNat).take 8).length ≤ 8 by simp; omega)) (by decide))
  unfold wordN; exact ⟨by omega, by omega⟩
theorem strmC_set (seed name : List UInt8) (i j : Int) (h32 : seed.length = 32) : (strmC seed name i).setIfInBounds 33 (.int .u64 j) = strmC seed name j := by
  unfold strmC
  rw [List.setIfInBounds_toArray, List.set_append_right _ _ (by simp; omega)]
  simp [h32]
theorem wpList_strB {ops : Array Oper} {rest : List Oper} {o : Oper} {a : Act} {w : World} {Q : Exit → Act → World → Prop} (hgd : o.guard = none) (x : Operand) (ho : o.op = .convert 9 25 x) (l : List UInt8) (hx : a.eval x = strL l) (hl : l.length ≤ 1000000)
    (h : ∀ w' v, SeesB w' v l → v.oneCell' = true → Ext w w' → wpList Try.prog ops Q rest (a.put o.dst v) w') : wpList Try.prog ops Q (o :: rest) a w := by
  have hrun := run_bytes_of_string (P := Try.prog) w 9 25 5 ⟨l.toArray⟩ u_string u_bytes u_byte
  have hsz : (⟨l.toArray⟩ : ByteArray).size = l.length := by show l.toArray.size = _; simp
  have hs := seesT_string w.drew ⟨l.toArray⟩ (grownCap w (⟨l.toArray⟩ : ByteArray).size 0 5) ((bytesRow ⟨l.toArray⟩ (grownCap w (⟨l.toArray⟩ : ByteArray).size 0 5)).size, (bytesRow ⟨l.toArray⟩ (grownCap w (⟨l.toArray⟩ : ByteArray).size 0 5)).size + 1) (grownCap_ge _ _ _ _) (grownCap_le_maxLen _ _ _ _ (by rw [hsz]; unfold maxLen; omega))
  refine wpList_plain hgd fun K hK => ?_
  unfold Oper.wp
  simp only [execOp, ho, hx, Sem.run_bind, hrun, Result.andThen_ok, Sem.run_pure]
  exact hK _ _ (h _ _ (by have := hs.1; simpa using this) rfl (show Below _ _ _ from by go_grown))
theorem seesBB_3 {w : World} {u1 u2 u3 : Value} {l1 l2 l3 : List UInt8} (t : TypeId) (h1 : SeesB w u1 l1) (h2 : SeesB w u2 l2) (h3 : SeesB w u3 l3) :
    SeesBB (w.alloc (.cells #[u1, u2, u3] t)) (.slice (some ⟨w.heap.size, 0, none⟩) 3 3) [l1, l2, l3] :=
  seesBB_new [u1, u2, u3] t [l1, l2, l3] rfl (by show 3 ≤ 1000; decide) (fun i l u hl hu => by
    match i with
    | 0 => cases hl; cases hu; exact h1
    | 1 => cases hl; cases hu; exact h2
    | 2 => cases hl; cases hu; exact h3
    | n + 3 => simp at hl)
theorem wpList_lit3 {ops : Array Oper} {rest : List Oper} {o : Oper} {a : Act} {w : World} {Q : Exit → Act → World → Prop} (hgd : o.guard = none) (x y z : Operand) (ho : o.op = .buildSlice 83 3 #[(0, x), (1, y), (2, z)])
    (u1 u2 u3 : Value) (l1 l2 l3 : List UInt8) (hx : a.eval x = u1) (hy : a.eval y = u2) (hz : a.eval z = u3) (o1 : u1.oneCell' = true) (o2 : u2.oneCell' = true) (o3 : u3.oneCell' = true) (h1 : SeesB w u1 l1) (h2 : SeesB w u2 l2) (h3 : SeesB w u3 l3)
    (h : ∀ w' B, SeesBB w' (.slice (some ⟨B, 0, none⟩) 3 3) [l1, l2, l3] → Ext w w' → wpList Try.prog ops Q rest (a.put o.dst (.slice (some ⟨B, 0, none⟩) 3 3)) w') : wpList Try.prog ops Q (o :: rest) a w := by
  have k1 := h1; have k2 := h2; have k3 := h3
  obtain ⟨_, a1, c1, rfl, _⟩ := h1
  obtain ⟨_, a2, c2, rfl, _⟩ := h2
  obtain ⟨_, a3, c3, rfl, _⟩ := h3
  have hrun : (Instr.buildSlice 83 3 #[(0, .slice a1 l1.length c1), (1, .slice a2 l2.length c2), (2, .slice a3 l3.length c3)]).run Try.prog w = .ok (.slice (some ⟨w.heap.size, 0, none⟩) 3 3) (w.alloc (.cells #[.slice a1 l1.length c1, .slice a2 l2.length c2, .slice a3 l3.length c3] 25)) := by simp [go_sem]
  refine wpList_plain hgd fun K hK => ?_
  unfold Oper.wp
  simp only [execOp, ho, List.map_toArray, List.map_cons, List.map_nil, hx, hy, hz, Sem.run_bind, hrun, Result.andThen_ok, Sem.run_pure]
  exact hK _ _ (h _ _ (seesBB_3 _ k1 k2 k3) (Ext.alloc _ _))
end Go.Proofs.Ytnmniblaefjekaa
namespace Go.Proofs.Ytnmniblaefjekaa
set_option linter.unusedVariables false
set_option linter.unusedSimpArgs false
open Go Go.RowKit

theorem wpList_build2 {P : Program} {ops : Array Oper} {rest : List Oper} {o : Oper} {a : Act} {w : World} {Q : Exit → Act → World → Prop} (hgd : o.guard = none) (ty : TypeId) (i j : Nat) (x y : Operand) (ho : o.op = .build ty #[(i, x), (j, y)])
    (u v r : Value) (hx : a.eval x = u) (hy : a.eval y = v) (hrun : (Instr.build ty #[(i, u), (j, v)]).run P w = .ok r w) (h : wpList P ops Q rest (a.put o.dst r) w) : wpList P ops Q (o :: rest) a w := by
  refine wpList_plain hgd fun K hK => ?_
  unfold Oper.wp
  simp only [execOp, ho, List.map_toArray, List.map_cons, List.map_nil, hx, hy, Sem.run_bind, hrun, Result.andThen_ok, Sem.run_pure]
  exact hK _ _ h
theorem wpList_boxB {P : Program} {ops : Array Oper} {rest : List Oper} {o : Oper} {a : Act} {w : World} {Q : Exit → Act → World → Prop} (hgd : o.guard = none) (ty : TypeId) (x : Operand) (ho : o.op = .box ty x) (cs : Array Value) (hx : a.eval x = .agg cs)
    (hrun : (Instr.box ty (.agg cs)).run P w = .ok (.pointer (some ⟨w.heap.size, 0, none⟩)) (w.alloc (.cells cs ty)))
    (h : ∀ w' B, Blk w' B cs ty → w.heap.size ≤ B → Ext w w' → wpList P ops Q rest (a.put o.dst (.pointer (some ⟨B, 0, none⟩))) w') : wpList P ops Q (o :: rest) a w := by
  refine wpList_plain hgd fun K hK => ?_
  unfold Oper.wp
  simp only [execOp, ho, hx, Sem.run_bind, hrun, Result.andThen_ok, Sem.run_pure]
  exact hK _ _ (h _ _ (Blk.new _ _ _) (Nat.le_refl _) (Ext.alloc _ _))
theorem fill_at : ∀ (cs base : List Value) (k : Nat), k + cs.length ≤ base.length →
    (cs.zipIdx k).foldl (fun (acc : Array Value) x => acc.setIfInBounds x.2 x.1) base.toArray = (base.take k ++ cs ++ base.drop (k + cs.length)).toArray
  | [], base, k, _ => by simp
  | c :: cs, base, k, h => by
    simp only [List.length_cons] at h
    rw [List.zipIdx_cons, List.foldl_cons, List.setIfInBounds_toArray, fill_at cs (base.set k c) (k + 1) (by simp; omega)]
    congr 1
    have e1 : (base.set k c).take (k + 1) = base.take k ++ [c] := by
      rw [List.take_set, List.take_succ_eq_append_getElem (by omega)]
      rw [List.set_append_right _ _ (by simp; omega)]
      simp [Nat.min_eq_left (show k ≤ base.length by omega)]
    have e2 : (base.set k c).drop (k + 1 + cs.length) = base.drop (k + (c :: cs).length) := by
      rw [List.drop_set, if_pos (by omega)]; congr 1; simp; omega
    rw [e1, e2]; simp
abbrev KE2 (B : Nat) (key : List UInt8) (u : World) : Prop := Blk u B (keyA key) 23
theorem owns_one {w : World} {B : Nat} {v : Value} {l : List UInt8} (h : OwnB w B v l) : v.oneCell' = true := by
  obtain ⟨a, c, rfl, _⟩ := owns_form h; rfl
/-- Seen in any later world that the context reaches. -/
theorem exB {w w' : World} {v : Value} {l : List UInt8} (h : SeesB w v l) (e : Ext w w' := by first | with_reducible exact Ext.refl _ | solve_by_elim (maxDepth := 30) [Ext.tr]) : SeesB w' v l := h.below e (by decide)
theorem exBB {w w' : World} {v : Value} {l : List (List UInt8)} (h : SeesBB w v l) (e : Ext w w' := by first | with_reducible exact Ext.refl _ | solve_by_elim (maxDepth := 30) [Ext.tr]) : SeesBB w' v l := h.below e
theorem exK {w w' : World} {g : Nat} {cs : Array Value} {t : TypeId} (h : Blk w g cs t) (e : Ext w w' := by first | with_reducible exact Ext.refl _ | solve_by_elim (maxDepth := 30) [Ext.tr]) : Blk w' g cs t := h.below e
end Go.Proofs.Ytnmniblaefjekaa
