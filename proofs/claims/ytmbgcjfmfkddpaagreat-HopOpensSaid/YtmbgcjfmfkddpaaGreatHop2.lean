/-
  A pass of a hop: the reference: what all its parts share.
-/
import Derived.Test.YtmbgcjfmfkddpaaGreatInts
import Derived.Test.YtmbgcjfmfkddpaaGreatHop1
import Derived.Test.YtmbgcjfmfkddpaaGreatBl11
import Derived.Test.YtmbgcjfmfkddpaaGreatRop2
namespace Go.Proofs.YtmbgcjfmfkddpaaGreat
set_option linter.unusedVariables false
set_option linter.unusedSimpArgs false
open Go Go.RowKit

theorem stabE (w : World) : Stab (fun u => Ext w u) := fun _ _ h hb => Ext.tr h hb
theorem exBl {w w' : World} {g : Nat} {cs : Array Value} {t : TypeId} (h : Blk w g cs t) (e : Ext w w' := by first | with_reducible exact Ext.refl _ | solve_by_elim (maxDepth := 30) [Ext.tr]) : Blk w' g cs t := h.below e
theorem exO {w w' : World} {B : Nat} {v : Value} {l : List UInt8} (h : OwnB w B v l) (e : Ext w w' := by first | with_reducible exact Ext.refl _ | solve_by_elim (maxDepth := 30) [Ext.tr]) : OwnB w' B v l := owns_below h e
theorem info_ent3 : (Tryz.prog.info? 36).map (fun i => (i.zero, i.size, i.bytes)) = some (some (.agg #[.int .u64 0, .slice none 0 0]), 2, 32) := by kernel_rfl
theorem appE {W w : World} {ops : Array Oper} {rest : List Oper} {o : Oper} {a : Act} {Q : Exit → Act → World → Prop} (hgd : o.guard = none) (s x : Operand)
    (ho : o.op = .call { callee := .builtin .append, args := #[s, x], argTypes := #[31, 31] })
    {B : Nat} (hBW : B ≤ W.heap.size) (v : Value) (l : List Ent) (hs : a.eval s = v) (hown : OwR entR B W.heap.size w v l) (vx : Value) (l' : List Ent) (hx : a.eval x = vx) (hsee : SlR entR B w vx l')
    (hl : l.length + l'.length ≤ 1000000000) (hW : Below W.heap.size W w)
    (h : ∀ v' w', OwR entR B W.heap.size w' v' (l ++ l') → w.grownBy w' v.ownBlock → Below W.heap.size W w' → wpList Tryz.prog ops Q rest (a.put o.dst v') w') : wpList Tryz.prog ops Q (o :: rest) a w :=
  appR entR hgd s x 31 ho Tryz.underlying31 info_ent3 rfl (by decide) (by decide) hBW v l hs hown vx l' hx hsee hl hW h
theorem slE_atR {B : Nat} {w : World} {b o m c : Nat} {l : List Ent} (h : SlR entR B w (.slice (some ⟨b, o, none⟩) m c) l) (i : Nat) (e : Ent) (hi : l[i]? = some e) :
    ∃ v, w.rangeAt b (o + i * 2) [.int .u64 e.x, v] ∧ SlR byteR B w v e.box := by
  obtain ⟨ch, ⟨v, rfl, hv⟩, _, hr⟩ := h.at i e hi
  exact ⟨v, hr, hv⟩
theorem orderL_get_no {L : List Ent} {order : List Int} {n : Nat} {e : Ent} (h : ¬ (order.length = L.length ∧ permOk order)) (he : L[n]? = some e) : (orderL L order)[n]? = some e := by
  unfold orderL; rw [if_neg h]; exact he
theorem orderL_get {L : List Ent} {order : List Int} {n k : Nat} {e : Ent} (h : order.length = L.length ∧ permOk order) (hk : order[n]? = some (k : Int)) (he : L[k]? = some e) : (orderL L order)[n]? = some e := by
  unfold orderL; rw [if_pos h, List.getElem?_map, hk]
  simp [List.getD_eq_getElem?_getD, he]
theorem take_succ_of {L : List Ent} {n : Nat} {e : Ent} (h : L[n]? = some e) : L.take n ++ [e] = L.take (n + 1) := by
  obtain ⟨hn, rfl⟩ := List.getElem?_eq_some_iff.1 h
  rw [List.take_succ_eq_append_getElem hn]
abbrev PasZ : Array Value := #[.slice none 0 0, .int .u64 0, .int .u64 0]
theorem info_pas : (Tryz.prog.info? 45).map (·.size) = some 3 := by kernel_rfl
/-- What a pass hands back: entries and indexes of the call's own. -/
def RetH (pas : Pas) (fails : List Int) (w : World) (e : Ending) (w' : World) : Prop :=
  ∃ vE vB, e = .returned (.tuple #[.agg #[vE, .int .u64 pas.p.c, .int .u64 pas.p.s], vB]) ∧ OwR entR 0 w.heap.size w' vE pas.es ∧ OwR intR 0 w.heap.size w' vB fails ∧ Below w.heap.size w w'
/-- The boxes of such a call. -/
def HoC (w : World) (SC PC : Array Value) (u : World) : Prop := Blk u w.heap.size SC 41 ∧ Blk u (w.heap.size + 1) PC 49 ∧ Blk u (w.heap.size + 1 + 1) PasZ 45
theorem stabHoC (w : World) (SC PC : Array Value) : Stab (HoC w SC PC) := Stab.and (Stab.blk _ _ _) (Stab.and (Stab.blk _ _ _) (Stab.blk _ _ _))
theorem HoC.grownT {w u u' : World} {SC PC : Array Value} {r : Option Nat} {t : TypeId} (h : HoC w SC PC u) (hg : u.grownBy u' r) (hr : RowT u r t) (h1 : 41 ≠ t) (h2 : 49 ≠ t) (h3 : 45 ≠ t) : HoC w SC PC u' :=
  ⟨h.1.grownT hg hr h1, h.2.1.grownT hg hr h2, h.2.2.grownT hg hr h3⟩
theorem length_failsN (s : Sec) (at_ : Int) (es : List Ent) : ∀ n, (failsN s at_ es n).length ≤ n
  | 0 => Nat.le_refl _
  | n + 1 => by
    rw [failsN, List.length_append]
    have := length_failsN s at_ es n
    split
    · split <;> simp <;> omega
    · simp; omega
theorem openedT_succ {s : Sec} {at_ : Int} {es : List Ent} {n : Nat} {e : Ent} (h : es[n]? = some e) : opened s at_ (es.take n) ++ [(opE s at_ e).getD ⟨0, []⟩] = opened s at_ (es.take (n + 1)) := by
  obtain ⟨hn, rfl⟩ := List.getElem?_eq_some_iff.1 h
  unfold opened
  rw [List.take_succ_eq_append_getElem hn, List.map_append]; rfl
theorem failsN_succ {s : Sec} {at_ : Int} {es : List Ent} {n : Nat} {e : Ent} (h : es[n]? = some e) : failsN s at_ es (n + 1) = failsN s at_ es n ++ (if (opE s at_ e).isNone then [(n : Int)] else []) := by
  rw [failsN, h]
theorem length_opened (s : Sec) (at_ : Int) (es : List Ent) : (opened s at_ es).length = es.length := by unfold opened; rw [List.length_map]
theorem openE_some {s : Sec} {at_ : Int} {e : Ent} : (opE s at_ e).getD ⟨0, []⟩ = ⟨((openE s.blind s.mix at_ e.x e.box).getD (0, [])).1, ((openE s.blind s.mix at_ e.x e.box).getD (0, [])).2⟩ ∧ (opE s at_ e).isNone = !(openE s.blind s.mix at_ e.x e.box).isSome := by
  unfold opE
  cases openE s.blind s.mix at_ e.x e.box <;> exact ⟨rfl, rfl⟩
theorem slR_own {B B0 : Nat} {w : World} {v : Value} {l : List UInt8} (h : OwnB w B0 v l) : SlR byteR B w v l := slB_own h
end Go.Proofs.YtmbgcjfmfkddpaaGreat
