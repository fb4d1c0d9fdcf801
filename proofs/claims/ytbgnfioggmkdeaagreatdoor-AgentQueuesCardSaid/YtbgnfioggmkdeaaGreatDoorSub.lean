/-
  Submissions: their cells; keys and proofs compared; what is signed.
-/
import Derived.Test.YtbgnfioggmkdeaaGreatDoorSpec
import Derived.Test.YtbgnfioggmkdeaaGreatDoorRep
import Derived.Test.YtbgnfioggmkdeaaGreatDoorHopL
namespace Go.Proofs.YtbgnfioggmkdeaaGreatDoor
set_option linter.unusedVariables false
set_option linter.unusedSimpArgs false
open Go Go.RowKit

theorem run_neqKey (a b : List UInt8) (ha : a.length = 32) (hb : b.length = 32) (w : World) : (binOp .neq 24 (.agg (keyA a)) (.agg (keyA b))).run Tryz.prog w = .ok (.bool (!(a == b))) w := by
  have h1 : (Tryz.prog.info? 5).map (·.size) = some 1 := by kernel_rfl
  obtain ⟨ti, hti, hsz⟩ := Option.map_eq_some_iff.1 h1
  have := run_equalIn_bytes (P := Tryz.prog) w 9998 24 5 32 under_key u_byte (fun w => by simp [sizeOf, typeInfo, hti, hsz]) a b ha hb
  rw [run_neq_struct]
  exact (congrArg (fun r => Result.andThen r _) this).trans rfl
/-- Two aggregates compared, by what it comes to. -/
theorem wpList_cmp {P : Program} {ops : Array Oper} {rest : List Oper} {o : Oper} {a : Act} {w : World} {Q : Exit → Act → World → Prop} (hgd : Region.wanted o (yielded ops a.tmps) = true) {b : BinOp} (ty : TypeId) (x y : Operand)
    (ho : o.op = .binOp b ty x y ty) (xs ys : Array Value) (v : Value) (hx : a.eval x = .agg xs) (hy : a.eval y = .agg ys) (hg : P.eqGuardType P.depth ty = false) (hr : ∀ w, (binOp b ty (.agg xs) (.agg ys)).run P w = .ok v w)
    (h : wpList P ops Q rest (a.put o.dst v) w) : wpList P ops Q (o :: rest) a w := by
  unfold wpList
  rw [if_pos hgd]
  refine .inl ?_
  unfold Oper.wp
  simp only [execOp, ho, hx, hy, Sem.run_bind, run_eqGuard_agg w b ty x y xs ys hg, Result.andThen_ok, hr w]
  exact h
theorem wpList_load_rowG {P : Program} {ops : Array Oper} {rest : List Oper} {o : Oper} {a : Act} {w : World} {Q : Exit → Act → World → Prop} (hgd : Region.wanted o (yielded ops a.tmps) = true) (ty : TypeId) (x : Operand) (ho : o.op = .load ty x)
    (g : Nat) (hx : a.eval x = .pointer (some ⟨g, 0, none⟩)) (t : TypeId) (cs : Array Value) (fr : Nat × Nat) (d : TypeDesc) (hg : w.heap[g]? = some (.cells cs t fr))
    (hu : P.underlying ty = some d) (hd : (match d with | .struct _ | .array _ _ => true | _ => false) = true) (hi : (P.info? ty).map (·.size) = some cs.size)
    (h : wpList P ops Q rest (a.put o.dst (.agg cs)) w) : wpList P ops Q (o :: rest) a w := by
  unfold wpList
  rw [if_pos hgd]
  exact .inl (wp_load_row ty x ho g hx t cs fr d hg hu hd hi h)
theorem wpList_load_midG {P : Program} {ops : Array Oper} {rest : List Oper} {op : Oper} {a : Act} {w : World} {Q : Exit → Act → World → Prop} (hgd : Region.wanted op (yielded ops a.tmps) = true) (ty : TypeId) (x : Operand) (ho : op.op = .load ty x)
    (b o : Nat) (hx : a.eval x = .pointer (some ⟨b, o, none⟩)) (cs : List Value) (d : TypeDesc) (hc : w.rangeAt b o cs)
    (hu : P.underlying ty = some d) (hd : d.isRow = true) (hi : (P.info? ty).map (·.size) = some cs.length)
    (h : wpList P ops Q rest (a.put op.dst (.agg cs.toArray)) w) : wpList P ops Q (op :: rest) a w := by
  unfold wpList
  rw [if_pos hgd]
  exact .inl (wp_load_mid ty x ho b o hx cs d hc hu hd hi h)
theorem seesBB_5 {w : World} {u1 u2 u3 u4 u5 : Value} {l1 l2 l3 l4 l5 : List UInt8} (t : TypeId) (h1 : SeesB w u1 l1) (h2 : SeesB w u2 l2) (h3 : SeesB w u3 l3) (h4 : SeesB w u4 l4) (h5 : SeesB w u5 l5) :
    SeesBB (w.alloc (.cells #[u1, u2, u3, u4, u5] t)) (.slice (some ⟨w.heap.size, 0, none⟩) 5 5) [l1, l2, l3, l4, l5] :=
  seesBB_new [u1, u2, u3, u4, u5] t [l1, l2, l3, l4, l5] rfl (by show 5 ≤ 1000; decide) (fun i l u hl hu => by
    match i with
    | 0 => cases hl; cases hu; exact h1
    | 1 => cases hl; cases hu; exact h2
    | 2 => cases hl; cases hu; exact h3
    | 3 => cases hl; cases hu; exact h4
    | 4 => cases hl; cases hu; exact h5
    | n + 5 => simp at hl)
/-- Bytes of a whole row, whatever is marked. -/
theorem seesB_row {w : World} {g : Nat} {l : List UInt8} {t : TypeId} {fr : Nat × Nat} (h : w.heap[g]? = some (.cells (keyA l) t fr)) (hm : l.length ≤ maxLen) : SeesB w (.slice (some ⟨g, 0, none⟩) l.length l.length) l := by
  have h1 := sees_block h 1 l.length (by rw [keyA_size, Nat.mul_one]) hm
  rwa [keyA, List.toList_toArray] at h1

/-- A submission. -/
structure Sub where
  user : List UInt8
  e : Ent
  (p g : Prf)
def Sub.cells (s : Sub) (vb : Value) : List Value := s.user.map BV ++ [.int .u64 s.e.x, vb, .int .u64 s.p.c, .int .u64 s.p.s, .int .u64 s.g.c, .int .u64 s.g.s]
def subC (s : Sub) (vb : Value) : Array Value := (s.cells vb).toArray
def Sub.ok (s : Sub) : Prop := s.user.length = 32 ∧ s.e.ok ∧ s.p.ok ∧ s.g.ok
theorem Sub.length_cells (s : Sub) (vb : Value) (h : s.user.length = 32) : (s.cells vb).length = 38 := by simp [Sub.cells, h]
theorem subC_size (s : Sub) (vb : Value) (h : s.user.length = 32) : (subC s vb).size = 38 := by rw [subC, List.size_toArray, s.length_cells vb h]
theorem subC_get (s : Sub) (vb : Value) (h : s.user.length = 32) (i : Nat) : (subC s vb)[32 + i]? = [.int .u64 s.e.x, vb, .int .u64 s.p.c, .int .u64 s.p.s, .int .u64 s.g.c, .int .u64 s.g.s][i]? := by
  rw [subC, List.getElem?_toArray, Sub.cells, List.getElem?_append_right (by rw [List.length_map, h]; omega), List.length_map, h, Nat.add_sub_cancel_left]
theorem blk_range {w : World} {g : Nat} {cs : Array Value} {t : TypeId} (h : Blk w g cs t) (o : Nat) (l : List Value) (hl : ∀ j u, l[j]? = some u → cs[o + j]? = some u) : w.rangeAt g o l := fun j u hj => by
  rw [h.cell]; exact hl j u hj
theorem sub_user {w : World} {g : Nat} {s : Sub} {vb : Value} {t : TypeId} (h : Blk w g (subC s vb) t) : w.rangeAt g 0 (s.user.map BV) := blk_range h 0 _ (fun j u hj => by
  rw [Nat.zero_add, subC, List.getElem?_toArray, Sub.cells, List.getElem?_append_left (List.getElem?_eq_some_iff.1 hj).1]; exact hj)
theorem sub_x {w : World} {g : Nat} {s : Sub} {vb : Value} {t : TypeId} (h : Blk w g (subC s vb) t) (h32 : s.user.length = 32) : w.cell? ⟨g, 32, none⟩ = some (.int .u64 s.e.x) := by rw [h.cell]; exact subC_get s vb h32 0
theorem sub_box {w : World} {g : Nat} {s : Sub} {vb : Value} {t : TypeId} (h : Blk w g (subC s vb) t) (h32 : s.user.length = 32) : w.cell? ⟨g, 33, none⟩ = some vb := by rw [h.cell]; exact subC_get s vb h32 1
theorem sub_p {w : World} {g : Nat} {s : Sub} {vb : Value} {t : TypeId} (h : Blk w g (subC s vb) t) (h32 : s.user.length = 32) : w.rangeAt g 34 [.int .u64 s.p.c, .int .u64 s.p.s] := blk_range h 34 _ (fun j u hj => by
  rw [show 34 + j = 32 + (2 + j) from by omega, subC_get s vb h32]
  match j, hj with
  | 0, hj => exact hj
  | 1, hj => exact hj)
theorem sub_g {w : World} {g : Nat} {s : Sub} {vb : Value} {t : TypeId} (h : Blk w g (subC s vb) t) (h32 : s.user.length = 32) : w.rangeAt g 36 [.int .u64 s.g.c, .int .u64 s.g.s] := blk_range h 36 _ (fun j u hj => by
  rw [show 36 + j = 32 + (4 + j) from by omega, subC_get s vb h32]
  match j, hj with
  | 0, hj => exact hj
  | 1, hj => exact hj)
theorem info_sub : (Tryz.prog.info? 50).map (·.size) = some 38 := by kernel_rfl
def onS : List UInt8 := [111, 110, 105, 111, 110]
/-- What a user signs. -/
def signedL (x : Int) (box : List UInt8) (round chain : Int) : List UInt8 := parts [onS, besL round, besL chain, put64 x.toNat, box]
theorem length_signedL (x : Int) (box : List UInt8) (round chain : Int) : (signedL x box round chain).length = 32 := length_parts _
/-- Why a submission is not taken. -/
def checkO (s : Sub) (pub round chain size : Int) : Int :=
  if s.user = nameL pub then
    if (s.e.box.length : Int) = size ∧ okP s.e.x then
      if knowOk 37 s.e.x s.p.c s.p.s ∧ signOk pub (signedL s.e.x s.e.box round chain) s.g.c s.g.s then 0 else 10
    else 1
  else 6
/-- A call that hands back bytes. -/
def RetV (l : List UInt8) (w : World) (e : Ending) (w' : World) : Prop := ∃ v', e = .returned v' ∧ SeesB w' v' l ∧ Below w.heap.size w w'
end Go.Proofs.YtbgnfioggmkdeaaGreatDoor
