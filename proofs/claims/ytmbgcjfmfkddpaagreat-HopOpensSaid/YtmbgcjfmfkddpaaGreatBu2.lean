/-
  What each place had of a spoiled onion: walked.
-/
import Derived.Test.YtmbgcjfmfkddpaaGreatBu1
namespace Go.Proofs.YtmbgcjfmfkddpaaGreat
set_option linter.unusedVariables false
set_option linter.unusedSimpArgs false
open Go Go.RowKit

def intsR : Rp (List Int) := intR.sl 33
def ordO (orders : List (List Int)) (i : Nat) : List Int := orders.getD i []
theorem ordO_at {orders : List (List Int)} {i : Nat} {od : List Int} (h : orders[i]? = some od) : ordO orders i = od := by unfold ordO; rw [List.getD_eq_getElem?_getD, h]; rfl
def l0S (ps : List Pub) (from_ : Int) (N U H : Nat) : List Ent := (madeL ps from_ N).set U ⟨timesP 37 (madeX from_ U), boxL ps (madeX from_ U) (put64 U) H⟩
theorem length_l0S (ps : List Pub) (from_ : Int) (N U H : Nat) : (l0S ps from_ N U H).length = N := by unfold l0S; rw [List.length_set, length_madeL]
theorem slL_atI {B : Nat} {w : World} {b o m c : Nat} {l : List (List Int)} (h : SlR intsR B w (.slice (some ⟨b, o, none⟩) m c) l) (i : Nat) (od : List Int) (hi : l[i]? = some od) :
    ∃ v, w.cell? ⟨b, o + i, none⟩ = some v ∧ SlR intR B w v od := by
  obtain ⟨ch, ⟨v, rfl, hv⟩, _, hr⟩ := h.at i od hi
  refine ⟨v, ?_, hv⟩
  have := hr 0 _ rfl
  rwa [show intsR.sz = 1 from rfl, Nat.mul_one, Nat.add_zero] at this
theorem entry_put {w : World} {B0 g n cap : Nat} {l : List Ent} {cur : Array Value} (h : OwR entR 0 B0 w (.slice (some ⟨g, 0, none⟩) n cap) l) (hcur : Blk w g cur 36) {i : Nat} (hi : i < l.length) {w' : World} {x : Int} {a : Option Addr} {m c : Nat} {box : List UInt8}
    (hg : w.grownBy w' (some g)) (hb : Blk w' g (cur.toList.take (i * 2) ++ [Value.int .u64 x, Value.slice a m c] ++ cur.toList.drop (i * 2 + 2)).toArray 36) (hx : SlR byteR 0 w' (.slice a m c) box) :
    OwR entR 0 B0 w' (.slice (some ⟨g, 0, none⟩) n cap) (l.set i ⟨x, box⟩) :=
  OwR.put (R := entR) h hcur hi (c' := [.int .u64 x, .slice a m c]) hg hb ⟨_, rfl, hx⟩ (by decide) (Nat.zero_le _)
theorem own_blk20 {α : Type} {R : Rp α} {B B0 : Nat} {w : World} {a : Option Addr} {n c : Nat} {l : List α} (h : OwR R B B0 w (.slice a n c) l) (hl : 0 < l.length) : ∃ g, a = some ⟨g, 0, none⟩ ∧ ∃ cur, (Blk w g cur R.ty ∧ l.length * R.sz ≤ cur.size) ∧ B0 ≤ g := by
  obtain ⟨chs, h1, _, h2⟩ := h
  rcases h2 with ⟨_, h0⟩ | ⟨g, cap, cur, e, hg, hh, hc, _, hs, _⟩
  · omega
  · injection e with e1 _ _
    exact ⟨g, e1, cur, ⟨hh, by rw [hs]; exact Nat.mul_le_mul_right _ hc⟩, hg⟩
theorem owns_grownE {w w' : World} {B : Nat} {v : Value} {l : List UInt8} {g : Nat} (h : OwnB w B v l) (hg : w.grownBy w' (some g)) (hr : RowT w (some g) 36) : OwnB w' B v l := own_grown h hg hr (by decide)
end Go.Proofs.YtmbgcjfmfkddpaaGreat
