/-
  Keys derived: both programs.
  Expand to 32 bytes: both programs.
  Keys of secrets: both programs.
  Closed bytes: what they are.
  Bytes turned: the program.
  Bytes turned: the reference.
  Tags: both programs.
  Seal of both programs; Open of the reference.
  Keys of hops, and what stands beside: both programs.
  Onions wrapped: both programs.
-/
import Derived.Test.YtmbgcjfmfkddpaaDoorPe
import Derived.Test.YtmbgcjfmfkddpaaDoorPa
import Derived.Lib.AppendStr
import Derived.Test.YtmbgcjfmfkddpaaDoorPb
import Derived.Laws.OwnMore
import Derived.Test.YtmbgcjfmfkddpaaDoorPc
namespace Go.Proofs.YtmbgcjfmfkddpaaDoor
set_option linter.unusedVariables false
set_option linter.unusedSimpArgs false
open Go Go.RowKit

theorem strCells_map (s : ByteArray) : Lib.strCells s = s.data.toList.map BV := rfl
/-- append(b, s...) of a string. -/
theorem appS {W w : World} {ops : Array Oper} {rest : List Oper} {o : Oper} {a : Act} {Q : Exit → Act → World → Prop} (hgd : o.guard = none) (s x : Operand)
    (ho : o.op = .call { callee := .builtin .append, args := #[s, x], argTypes := #[63, 9] })
    (v : Value) (l : List UInt8) (hs : a.eval s = v) (hown : OwnB w W.heap.size v l) (str : ByteArray) (hx : a.eval x = .string str)
    (hb : l.length + str.size ≤ 70368744177664) (hW : Below W.heap.size W w)
    (h : ∀ v' w', OwnB w' W.heap.size v' (l ++ str.data.toList) → w.grownBy w' v.ownBlock → Below W.heap.size W w' → wpList Tryd.prog ops Q rest (a.put o.dst v') w') : wpList Tryd.prog ops Q (o :: rest) a w := by
  obtain ⟨i, hi, hz, hsize, hby⟩ := info_parts info_u8
  refine Lib.wpList_append_own_string w hgd s x _ _ ho W.heap.size 5 i Tryd.underlying63 u_string hi hz hsize hby v l.length (l.map BV) hs hown str hx (by unfold maxLen; omega) (by omega) hW.size
    (fun v' w' h1 h2 _ => h v' w' ?_ h2 (hW.grown h2 hW.size (fun k hk => (hown.lt k hk).1)))
  rw [strCells_map, ← List.map_append] at h1
  have hl : (l ++ str.data.toList).length = l.length + str.size := by rw [List.length_append]; congr 1
  unfold OwnB; rw [hl]; exact h1
/-- A call that hands back bytes in blocks of its own. -/
def RetS (l : List UInt8) (w : World) (e : Ending) (w' : World) : Prop := ∃ v', e = .returned v' ∧ SeesB w' v' l ∧ (∀ g, v'.ownBlock = some g → w.heap.size ≤ g) ∧ Below w.heap.size w w'
theorem run_sliceB_to3 (a : Option Addr) (n c k : Nat) (hk : k ≤ c) (W : World) :
    (Instr.sliceAt 63 (.slice a n c) none (some (.int .i64 k)) (some (.int .i64 k))).run Tryd.prog W = .ok (.slice (if k = 0 then a else Option.map (fun x => x.add 0) a) k k) W := by
  obtain ⟨i, hi, hz, hsize, hby⟩ := info_parts info_u8
  have h1 : (k : Int) ≤ (c : Int) := by omega
  simp [Instr.sliceAt, Instr.slice, Instr.sliceBounds, Instr.sliceBound, run_underlying Tryd.underlying63, sizeOf, typeInfo, hi, hsize, go_sem, h1, hk]
def exp32 (key info : List UInt8) : List UInt8 := mac key (info ++ [1])
theorem length_exp32 (key info : List UInt8) : (exp32 key info).length = 32 := length_mac _ _
def ExpRel (w : World) (key E : List UInt8) (out last i : Value) (wr : World) : Prop :=
  (i = .int .i64 1 ∧ OwnB wr w.heap.size out [] ∧ SeesB wr last [] ∧ Blk wr w.heap.size (keyA key) 23 ∧ Below w.heap.size w wr) ∨
  (i = .int .i64 2 ∧ OwnB wr w.heap.size out E ∧ Below w.heap.size w wr)
end Go.Proofs.YtmbgcjfmfkddpaaDoor
namespace Go.Proofs.YtmbgcjfmfkddpaaDoor
set_option linter.unusedVariables false
set_option linter.unusedSimpArgs false
open Go Go.RowKit

theorem sees_recap {w : World} {g n c c' : Nat} {l : List UInt8} {k : Nat} (h : SeesB w (.slice (some ⟨g, 0, none⟩) n c) l) (hl : l.length = k) (hc : k ≤ c') (hm : c' ≤ 9223372036854775807) : SeesB w (.slice (some ⟨g, 0, none⟩) k c') l := by
  subst hl
  obtain ⟨h1, a, c0, he, _, _, _, hb⟩ := h
  injection he with e1 _ _
  subst e1
  exact ⟨h1, _, c', rfl, hc, by unfold maxLen; omega, (fun h => nomatch h), hb⟩
def ExpRelr (w : World) (key E : List UInt8) (out last i : Value) (wr : World) : Prop :=
  (i = .int .i64 1 ∧ OwnB wr w.heap.size out [] ∧ SeesB wr last [] ∧ Blk wr w.heap.size (keyA key) 23 ∧ Below w.heap.size w wr) ∨
  (i = .int .i64 2 ∧ SeesB wr out E ∧ Below w.heap.size w wr)
end Go.Proofs.YtmbgcjfmfkddpaaDoor
namespace Go.Proofs.YtmbgcjfmfkddpaaDoor
set_option linter.unusedVariables false
set_option linter.unusedSimpArgs false
open Go Go.RowKit

def keyD (secret : List UInt8) (name : List UInt8) : List UInt8 := exp32 (mac (zeroB 32) secret) name
theorem length_keyD (secret name : List UInt8) : (keyD secret name).length = 32 := length_mac _ _
end Go.Proofs.YtmbgcjfmfkddpaaDoor
namespace Go.Proofs.YtmbgcjfmfkddpaaDoor
set_option linter.unusedVariables false
set_option linter.unusedSimpArgs false
open Go Go.RowKit

def strm (key : List UInt8) (i : Nat) : UInt8 := (mac key ([115] ++ put64 (i / 32))).getD (i % 32) 0
def turnTo (key b : List UInt8) (n : Nat) : List UInt8 := (List.range b.length).map fun i => if i < n then b.getD i 0 ^^^ strm key i else b.getD i 0
def turnL (key b : List UInt8) : List UInt8 := turnTo key b b.length
theorem length_turnTo (key b : List UInt8) (n : Nat) : (turnTo key b n).length = b.length := by simp [turnTo]
theorem length_turnL (key b : List UInt8) : (turnL key b).length = b.length := length_turnTo _ _ _
theorem turnTo_get (key b : List UInt8) (n i : Nat) (h : i < b.length) : (turnTo key b n)[i]? = some (if i < n then b.getD i 0 ^^^ strm key i else b.getD i 0) := by simp [turnTo, h]
theorem turnTo_zero (key b : List UInt8) : turnTo key b 0 = b := by
  apply List.ext_getElem?
  intro i
  by_cases h : i < b.length
  · rw [turnTo_get _ _ _ _ h, if_neg (by omega), List.getElem?_eq_getElem h, List.getD_eq_getElem?_getD, List.getElem?_eq_getElem h]; rfl
  · rw [List.getElem?_eq_none (by rw [length_turnTo]; omega), List.getElem?_eq_none (by omega)]
theorem turnTo_ge (key b : List UInt8) (n : Nat) (hn : b.length ≤ n) : turnTo key b n = turnL key b := by
  unfold turnL turnTo
  apply List.map_congr_left
  intro i hi
  have := List.mem_range.1 hi
  rw [if_pos (by omega), if_pos this]
theorem turnTo_set (key b : List UInt8) (k : Nat) : (turnTo key b k).set k (b.getD k 0 ^^^ strm key k) = turnTo key b (k + 1) := by
  apply List.ext_getElem?
  intro i
  by_cases h : i < b.length
  · rw [turnTo_get _ _ _ _ h, List.getElem?_set, turnTo_get _ _ _ _ h, length_turnTo]
    by_cases e : k = i
    · subst e; rw [if_pos rfl, if_pos h, if_pos (by omega)]
    · rw [if_neg e]
      by_cases e2 : i < k
      · rw [if_pos e2, if_pos (by omega)]
      · rw [if_neg e2, if_neg (by omega)]
  · rw [List.getElem?_eq_none (by rw [List.length_set, length_turnTo]; omega), List.getElem?_eq_none (by rw [length_turnTo]; omega)]
theorem turnL_turnL (key b : List UInt8) : turnL key (turnL key b) = b := by
  apply List.ext_getElem?
  intro i
  by_cases h : i < b.length
  · have h2 : i < (turnL key b).length := by rw [length_turnL]; exact h
    have e1 : (turnL key b).getD i 0 = b.getD i 0 ^^^ strm key i := by
      rw [List.getD_eq_getElem?_getD]; unfold turnL; rw [turnTo_get _ _ _ _ h, if_pos h]; rfl
    have e2 : (turnL key (turnL key b))[i]? = some ((turnL key b).getD i 0 ^^^ strm key i) := by
      rw [turnL, turnTo_get _ _ _ _ h2, if_pos h2]
    rw [e2, e1, UInt8.xor_assoc, UInt8.xor_self, UInt8.xor_zero, List.getD_eq_getElem?_getD, List.getElem?_eq_getElem h]; rfl
  · rw [List.getElem?_eq_none (by rw [length_turnL, length_turnL]; omega), List.getElem?_eq_none (by omega)]
def tagL (key beside c : List UInt8) : List UInt8 := (mac key (([116] ++ put64 beside.length) ++ beside ++ c)).take 16
theorem length_tagL (key beside c : List UInt8) : (tagL key beside c).length = 16 := by rw [tagL, List.length_take, length_mac]; rfl
def sealL (key beside plain : List UInt8) : List UInt8 := turnL key plain ++ tagL key beside (turnL key plain)
theorem length_sealL (key beside plain : List UInt8) : (sealL key beside plain).length = plain.length + 16 := by rw [sealL, List.length_append, length_turnL, length_tagL]
def openL (key beside b : List UInt8) : Option (List UInt8) :=
  if b.length < 16 then none
  else if tagL key beside (b.take (b.length - 16)) = b.drop (b.length - 16) then some (turnL key (b.take (b.length - 16))) else none
theorem openL_sealL (key beside plain : List UInt8) : openL key beside (sealL key beside plain) = some plain := by
  unfold openL
  rw [if_neg (by rw [length_sealL]; omega), length_sealL, Nat.add_sub_cancel]
  have e1 : (sealL key beside plain).take plain.length = turnL key plain := by
    unfold sealL; rw [List.take_append_of_le_length (by rw [length_turnL]; exact Nat.le_refl _)]; exact List.take_of_length_le (by rw [length_turnL]; exact Nat.le_refl _)
  have e2 : (sealL key beside plain).drop plain.length = tagL key beside (turnL key plain) := by
    unfold sealL; rw [← length_turnL key plain, List.drop_left]
  rw [e1, e2, if_pos rfl, turnL_turnL]
/-- A byte stored in a row of one's own. -/
theorem own_set {w : World} {B g c n : Nat} {l : List UInt8} (h : w.ownsRow B 5 1 (.slice (some ⟨g, 0, none⟩) n c) n (l.map BV)) (j : Nat) (x : UInt8) :
    (w.setCell ⟨g, j, none⟩ (BV x)).ownsRow B 5 1 (.slice (some ⟨g, 0, none⟩) n c) n ((l.set j x).map BV) := by
  rw [List.map_set]; exact (h.stored j (BV x)).1
theorem own_cell {w : World} {B g c n : Nat} {l : List UInt8} (h : w.ownsRow B 5 1 (.slice (some ⟨g, 0, none⟩) n c) n (l.map BV)) (j : Nat) (x : UInt8) (hx : l[j]? = some x) : w.cell? ⟨g, j, none⟩ = some (BV x) ∧ w.frozen? ⟨g, j, none⟩ = false := by
  rcases h.2 with ⟨h', _⟩ | ⟨g', cap, cur, h', hb, hg, hnc, hcm, hcs, htake⟩
  · simp at h'
  · simp only [Value.slice.injEq, Option.some.injEq, Addr.mk.injEq, and_true, true_and] at h'
    obtain ⟨rfl, rfl⟩ := h'
    refine ⟨?_, frozen_of_row w g j cur _ hg⟩
    rw [cell_of_row w g j cur _ (0, 0) hg, ← Array.getElem?_toList]
    have hj : (l.map BV)[j]? = some (BV x) := by rw [List.getElem?_map, hx]; rfl
    rw [← htake, List.getElem?_take] at hj
    split at hj
    · exact hj
    · cases hj
end Go.Proofs.YtmbgcjfmfkddpaaDoor
namespace Go.Proofs.YtmbgcjfmfkddpaaDoor
set_option linter.unusedVariables false
set_option linter.unusedSimpArgs false
open Go Go.RowKit

abbrev KB (B : Nat) (key : List UInt8) (u : World) : Prop := Blk u B (keyA key) 23
theorem stabKB (B : Nat) (key : List UInt8) : Stab (KB B key) := Stab.blk _ _ _
def TurnRel (w : World) (key b : List UInt8) (v i : Value) (wr : World) : Prop :=
  ∃ A j : Nat, i = .int .i64 A ∧ Hid (A = 32 * j) ∧ A ≤ b.length + 31 ∧ wr.ownsRow (w.heap.size + 1) 5 1 v b.length ((turnTo key b A).map BV) ∧ KB w.heap.size key wr ∧ Below w.heap.size w wr
def TurnRel2 (x : World) (B g c A M : Nat) (key b : List UInt8) (i : Value) (wr : World) : Prop :=
  ∃ n : Nat, A ≤ n ∧ n ≤ M ∧ i = .int .i64 n ∧ wr.ownsRow B 5 1 (.slice (some ⟨g, 0, none⟩) b.length c) b.length ((turnTo key b n).map BV) ∧ x.grownBy wr (some g)

end Go.Proofs.YtmbgcjfmfkddpaaDoor
namespace Go.Proofs.YtmbgcjfmfkddpaaDoor
set_option linter.unusedVariables false
set_option linter.unusedSimpArgs false
open Go Go.RowKit

abbrev KC (B : Nat) (key : List UInt8) (u : World) : Prop := Blk u B (keyA key) 23
theorem stabKC (B : Nat) (key : List UInt8) : Stab (KC B key) := Stab.blk _ _ _
def StreamRel (w : World) (H : Nat) (key b : List UInt8) (v i : Value) (wr : World) : Prop :=
  ∃ n : Nat, n ≤ b.length ∧ i = .int .i64 n ∧ wr.ownsRow (w.heap.size + 1) 5 1 v b.length ((turnTo key b n).map BV) ∧ KC w.heap.size key wr ∧
    (∃ hs : List UInt8, KC H hs wr ∧ hs.length = 32 ∧ (n % 32 ≠ 0 → hs = mac key ([115] ++ put64 (n / 32)))) ∧ Below w.heap.size w wr

def KO (W : Nat) (key : List UInt8) (g c m : Nat) (l : List UInt8) (u : World) : Prop := KC W key u ∧ u.ownsRow (W + 1) 5 1 (.slice (some ⟨g, 0, none⟩) m c) m (l.map BV)
theorem stabKO (W : Nat) (key : List UInt8) (g c m : Nat) (l : List UInt8) : Stab (KO W key g c m l) := fun _ _ h hb => ⟨h.1.below hb, owns_below h.2 hb⟩
end Go.Proofs.YtmbgcjfmfkddpaaDoor
namespace Go.Proofs.YtmbgcjfmfkddpaaDoor
set_option linter.unusedVariables false
set_option linter.unusedSimpArgs false
open Go Go.RowKit

abbrev KD (B : Nat) (key : List UInt8) (u : World) : Prop := Blk u B (keyA key) 23
theorem stabKD (B : Nat) (key : List UInt8) : Stab (KD B key) := Stab.blk _ _ _

theorem sees_take {w : World} {g n c : Nat} {l : List UInt8} (h : SeesB w (.slice (some ⟨g, 0, none⟩) n c) l) (k : Nat) (hk : k ≤ l.length) (hl : (l.take k).length = k) : SeesB w (.slice (some ⟨g, 0, none⟩) k c) (l.take k) := by
  obtain ⟨h1, a, c0, he, hc, hm, _, hb⟩ := h
  injection he with e1 e2 e3
  subst e1; subst e3
  unfold SeesB; rw [hl]
  refine ⟨by simp; omega, _, c, rfl, by omega, hm, (fun h => nomatch h), fun h0 => ?_⟩
  obtain ⟨b, o, e, hcell⟩ := hb (by omega)
  refine ⟨b, o, e, fun j u hj => hcell j u ?_⟩
  rw [List.getElem?_map] at hj ⊢
  rw [List.getElem?_take] at hj
  split at hj
  · exact hj
  · cases hj
end Go.Proofs.YtmbgcjfmfkddpaaDoor
namespace Go.Proofs.YtmbgcjfmfkddpaaDoor
set_option linter.unusedVariables false
set_option linter.unusedSimpArgs false
open Go Go.RowKit

end Go.Proofs.YtmbgcjfmfkddpaaDoor
namespace Go.Proofs.YtmbgcjfmfkddpaaDoor
set_option linter.unusedVariables false
set_option linter.unusedSimpArgs false
open Go Go.RowKit

def hopS : ByteArray := ⟨#[104, 111, 112]⟩
def hopK (s : Int) : List UInt8 := keyD (put64 s.toNat) hopS.data.toList
theorem length_hopK (s : Int) : (hopK s).length = 32 := length_keyD _ _

/-- A place as a number of 64 bits. -/
def u64of (n : Int) : Int := IntKind.u64.wrap n
theorem u64of_nat (n : Nat) (h : n < 18446744073709551616) : u64of n = n := by unfold u64of; rw [IntKind.wrap_u64]; omega
theorem in64_u64of (n : Int) : in64 (u64of n) := by unfold u64of; rw [IntKind.wrap_u64]; exact ⟨by omega, by omega⟩
end Go.Proofs.YtmbgcjfmfkddpaaDoor
namespace Go.Proofs.YtmbgcjfmfkddpaaDoor
set_option linter.unusedVariables false
set_option linter.unusedSimpArgs false
open Go Go.RowKit

structure Pub where
  (base blind mix inner c1 s1 c2 s2 c3 s3 : Int)
def Pub.cells (p : Pub) : List Value := [.int .u64 p.base, .int .u64 p.blind, .int .u64 p.mix, .int .u64 p.inner, .int .u64 p.c1, .int .u64 p.s1, .int .u64 p.c2, .int .u64 p.s2, .int .u64 p.c3, .int .u64 p.s3]
def Pub.ok (p : Pub) : Prop := in64 p.base ∧ in64 p.blind ∧ in64 p.mix ∧ in64 p.inner ∧ in64 p.c1 ∧ in64 p.s1 ∧ in64 p.c2 ∧ in64 p.s2 ∧ in64 p.c3 ∧ in64 p.s3
theorem Pub.length_cells (p : Pub) : p.cells.length = 10 := rfl
abbrev SeesP (w : World) (v : Value) (ps : List Pub) : Prop := Sees w 10 v ps.length (ps.flatMap Pub.cells)
theorem flatMap_at {α β : Type} {f : α → List β} {k : Nat} (hk : ∀ a, (f a).length = k) : ∀ (l : List α) (i j : Nat) (a : α), l[i]? = some a → j < k → (l.flatMap f)[i * k + j]? = (f a)[j]?
  | [], i, j, a, h, _ => by simp at h
  | x :: l, 0, j, a, h, hj => by
    cases h
    rw [Nat.zero_mul, Nat.zero_add, List.flatMap_cons, List.getElem?_append_left (by rw [hk]; exact hj)]
  | x :: l, i + 1, j, a, h, hj => by
    rw [List.flatMap_cons, List.getElem?_append_right (by rw [hk, Nat.succ_mul]; omega), hk, show (i + 1) * k + j - k = i * k + j from by rw [Nat.succ_mul]; omega]
    exact flatMap_at hk l i j a (by simpa using h) hj
theorem seesP_open {w : World} {v : Value} {ps : List Pub} (h : SeesP w v ps) (hn : 0 < ps.length) : ∃ b o c, v = .slice (some ⟨b, o, none⟩) ps.length c ∧ ps.length ≤ c ∧ c ≤ 9223372036854775807 ∧
    ∀ (i j : Nat) (p : Pub) (u : Value), ps[i]? = some p → p.cells[j]? = some u → w.cell? ⟨b, o + (i * 10 + j), none⟩ = some u := by
  obtain ⟨hl, a, c, rfl, hc, hm, hnc, hb⟩ := h
  obtain ⟨b, o, rfl, hcell⟩ := hb hn
  refine ⟨b, o, c, rfl, hc, by unfold maxLen at hm; omega, fun i j p u hp hu => hcell _ u ?_⟩
  have hj : j < 10 := by have := (List.getElem?_eq_some_iff.1 hu).1; rw [p.length_cells] at this; exact this
  rw [flatMap_at Pub.length_cells ps i j p hp hj]; exact hu

def turnK (k : List UInt8) (t : Bool) : List UInt8 := if t then k.set 0 (k.getD 0 0 ^^^ 1) else k
theorem length_turnK (k : List UInt8) (t : Bool) : (turnK k t).length = k.length := by unfold turnK; split <;> simp
/-- The box behind the last n places; at: the place whose key is turned. -/
def spoilL (ps : List Pub) (x : Int) (inside : List UInt8) (at_ : Int) : Nat → List UInt8
  | 0 => inside
  | n + 1 => sealL (turnK (hopK (timesP (((ps[ps.length - 1 - n]?).map Pub.mix).getD 0) x)) (decide (((ps.length - 1 - n : Nat) : Int) = at_))) (put64 (ps.length - 1 - n)) (spoilL ps x inside at_ n)
theorem length_spoilL (ps : List Pub) (x : Int) (inside : List UInt8) (at_ : Int) (n : Nat) : (spoilL ps x inside at_ n).length = inside.length + 16 * n := by
  induction n with
  | zero => simp [spoilL]
  | succ n ih => rw [spoilL, length_sealL, ih]; omega
def boxL (ps : List Pub) (x : Int) (inside : List UInt8) (at_ : Int) : List UInt8 := spoilL ps x inside at_ ps.length
theorem length_boxL (ps : List Pub) (x : Int) (inside : List UInt8) (at_ : Int) : (boxL ps x inside at_).length = inside.length + 16 * ps.length := length_spoilL _ _ _ _ _
/-- A call that hands back an entry whose box is the call's own. -/
def RetE (x : Int) (box : List UInt8) (w : World) (e : Ending) (w' : World) : Prop := ∃ v', e = .returned (.agg #[.int .u64 x, v']) ∧ OwnB w' w.heap.size v' box ∧ Below w.heap.size w w'
theorem keyA_set (l : List UInt8) (i : Nat) (x : UInt8) : (keyA l).setIfInBounds i (BV x) = keyA (l.set i x) := by
  unfold keyA; rw [List.setIfInBounds_toArray, List.map_set]
abbrev KE (B : Nat) (key : List UInt8) (u : World) : Prop := Blk u B (keyA key) 23
theorem stabKE (B : Nat) (key : List UInt8) : Stab (KE B key) := Stab.blk _ _ _

end Go.Proofs.YtmbgcjfmfkddpaaDoor
