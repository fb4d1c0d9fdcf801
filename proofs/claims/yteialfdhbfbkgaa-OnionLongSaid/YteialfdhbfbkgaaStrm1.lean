/-
  Streams: the reference.
-/
import Derived.Test.YteialfdhbfbkgaaDec
import Derived.Test.YteialfdhbfbkgaaSign1
import Derived.Test.YteialfdhbfbkgaaArm
import Derived.Test.YteialfdhbfbkgaaRef1b
namespace Go.Proofs.Yteialfdhbfbkgaa
set_option linter.unusedVariables false
set_option linter.unusedSimpArgs false
open Go Go.RowKit

theorem ext_none {w u : World} (h : w.grownBy u none) : Ext w u := ⟨h.os, h.tape, h.output, h.size, fun k hk => h.block k hk (fun e => by cases e)⟩
def strmC (seed name : List UInt8) (i : Int) : Array Value := (seed.map BV ++ [strL name, .int .u64 i]).toArray
def wordN (seed name : List UInt8) (i : Int) : Int := beN (((parts [seed, name, put64 (i / 4).toNat]).drop (8 * (i % 4)).toNat).take 8)
theorem wordN_in (seed name : List UInt8) (i : Int) : in64 (wordN seed name i) := by
  have h := beN_lt (((parts [seed, name, put64 (i / 4).toNat]).drop (8 * (i % 4)).toNat).take 8)
  have h2 : beN (((parts [seed, name, put64 (i / 4).toNat]).drop (8 * (i % 4)).toNat).take 8) < 18446744073709551616 := Nat.lt_of_lt_of_le h (Nat.le_trans (Nat.pow_le_pow_right (by omega) (show (((parts [seed, name, put64 (i / 4).toNat]).drop (8 * (i % 4)).toNat).take 8).length ≤ 8 by simp; omega)) (by decide))
  unfold wordN; exact ⟨by omega, by omega⟩
abbrev StrB (g : Nat) (seed name : List UInt8) (i : Int) (u : World) : Prop := Blk u g (strmC seed name i) 121
theorem stabStrB (g : Nat) (seed name : List UInt8) (i : Int) : Stab (StrB g seed name i) := Stab.blk _ _ _
theorem strm_name {u : World} {g : Nat} {seed name : List UInt8} {i : Int} (h : StrB g seed name i u) (h32 : seed.length = 32) : u.cell? ⟨g, 32, none⟩ = some (strL name) := by
  rw [h.cell, strmC, List.getElem?_toArray, List.getElem?_append_right (by simp; omega)]; simp [h32]
theorem strm_i {u : World} {g : Nat} {seed name : List UInt8} {i : Int} (h : StrB g seed name i u) (h32 : seed.length = 32) : u.cell? ⟨g, 33, none⟩ = some (.int .u64 i) := by
  rw [h.cell, strmC, List.getElem?_toArray, List.getElem?_append_right (by simp; omega)]; simp [h32]
theorem strm_seed {u : World} {g : Nat} {seed name : List UInt8} {i : Int} (h : StrB g seed name i u) (h32 : seed.length = 32) : SeesB u (.slice (some ⟨g, 0, none⟩) 32 32) seed := by
  refine ⟨by simp, some ⟨g, 0, none⟩, 32, by rw [h32], by omega, by decide, (fun h => nomatch h), fun _ => ⟨g, 0, rfl, fun j v hj => ?_⟩⟩
  have hjl := (List.getElem?_eq_some_iff.1 hj).1
  rw [Nat.zero_add, h.cell, strmC, List.getElem?_toArray, List.getElem?_append_left hjl]; exact hj
theorem strmC_set (seed name : List UInt8) (i j : Int) (h32 : seed.length = 32) : (strmC seed name i).setIfInBounds 33 (.int .u64 j) = strmC seed name j := by
  unfold strmC
  rw [List.setIfInBounds_toArray, List.set_append_right _ _ (by simp; omega)]
  simp [h32]
theorem wpList_strB {ops : Array Oper} {rest : List Oper} {o : Oper} {a : Act} {w : World} {Q : Exit → Act → World → Prop} (hgd : o.guard = none) (x : Operand) (ho : o.op = .convert 9 25 x) (l : List UInt8) (hx : a.eval x = strL l) (hl : l.length ≤ 1000000)
    (h : ∀ w' v, SeesB w' v l → v.oneCell' = true → Ext w w' → wpList Try.prog ops Q rest (a.put o.dst v) w') : wpList Try.prog ops Q (o :: rest) a w := by
  have hrun := run_bytes_of_string (P := Try.prog) w 9 25 5 ⟨l.toArray⟩ u_string u_bytes u_byte
  have hsz : (⟨l.toArray⟩ : ByteArray).size = l.length := by show l.toArray.size = _; simp
  have hs := seesT_string w.drew ⟨l.toArray⟩ (grownCap w (⟨l.toArray⟩ : ByteArray).size 0 5) ((bytesRow ⟨l.toArray⟩ (grownCap w (⟨l.toArray⟩ : ByteArray).size 0 5)).size, (bytesRow ⟨l.toArray⟩ (grownCap w (⟨l.toArray⟩ : ByteArray).size 0 5)).size + 1) (grownCap_ge _ _ _ _) (grownCap_le_maxLen _ _ _ _ (by rw [hsz]; unfold maxLen; omega))
  refine wpList_plain hgd fun K hK => ?_
  unfold Oper.wp
  simp only [execOp, ho, hx, Sem.run_bind, hrun, Result.andThen_ok, Sem.run_pure]
  exact hK _ _ (h _ _ (by have := hs.1; simpa using this) rfl (show Below _ _ _ from by go_grown))
theorem seesBB_3 {w : World} {u1 u2 u3 : Value} {l1 l2 l3 : List UInt8} (t : TypeId) (h1 : SeesB w u1 l1) (h2 : SeesB w u2 l2) (h3 : SeesB w u3 l3) :
    SeesBB (w.alloc (.cells #[u1, u2, u3] t)) (.slice (some ⟨w.heap.size, 0, none⟩) 3 3) [l1, l2, l3] :=
  seesBB_new [u1, u2, u3] t [l1, l2, l3] rfl (by show 3 ≤ 1000; decide) (fun i l u hl hu => by
    match i with
    | 0 => cases hl; cases hu; exact h1
    | 1 => cases hl; cases hu; exact h2
    | 2 => cases hl; cases hu; exact h3
    | n + 3 => simp at hl)
theorem wpList_lit3 {ops : Array Oper} {rest : List Oper} {o : Oper} {a : Act} {w : World} {Q : Exit → Act → World → Prop} (hgd : o.guard = none) (x y z : Operand) (ho : o.op = .buildSlice 75 3 #[(0, x), (1, y), (2, z)])
    (u1 u2 u3 : Value) (l1 l2 l3 : List UInt8) (hx : a.eval x = u1) (hy : a.eval y = u2) (hz : a.eval z = u3) (o1 : u1.oneCell' = true) (o2 : u2.oneCell' = true) (o3 : u3.oneCell' = true) (h1 : SeesB w u1 l1) (h2 : SeesB w u2 l2) (h3 : SeesB w u3 l3)
    (h : ∀ w' B, SeesBB w' (.slice (some ⟨B, 0, none⟩) 3 3) [l1, l2, l3] → Ext w w' → wpList Try.prog ops Q rest (a.put o.dst (.slice (some ⟨B, 0, none⟩) 3 3)) w') : wpList Try.prog ops Q (o :: rest) a w := by
  have k1 := h1; have k2 := h2; have k3 := h3
  obtain ⟨_, a1, c1, rfl, _⟩ := h1
  obtain ⟨_, a2, c2, rfl, _⟩ := h2
  obtain ⟨_, a3, c3, rfl, _⟩ := h3
  have hrun : (Instr.buildSlice 75 3 #[(0, .slice a1 l1.length c1), (1, .slice a2 l2.length c2), (2, .slice a3 l3.length c3)]).run Try.prog w = .ok (.slice (some ⟨w.heap.size, 0, none⟩) 3 3) (w.alloc (.cells #[.slice a1 l1.length c1, .slice a2 l2.length c2, .slice a3 l3.length c3] 25)) := by simp [go_sem]
  refine wpList_plain hgd fun K hK => ?_
  unfold Oper.wp
  simp only [execOp, ho, List.map_toArray, List.map_cons, List.map_nil, hx, hy, hz, Sem.run_bind, hrun, Result.andThen_ok, Sem.run_pure]
  exact hK _ _ (h _ _ (seesBB_3 _ k1 k2 k3) (Ext.alloc _ _))
end Go.Proofs.Yteialfdhbfbkgaa
