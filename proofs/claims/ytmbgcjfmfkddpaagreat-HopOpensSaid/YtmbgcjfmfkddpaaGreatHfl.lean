/-
  Onions of which some are spoiled: the plain law, and lists of truth values.
-/
import Derived.Test.YtmbgcjfmfkddpaaGreatHal2
import Derived.Test.YtmbgcjfmfkddpaaGreatBfa
import Derived.Test.YtmbgcjfmfkddpaaGreatSint
import Derived.Test.YtmbgcjfmfkddpaaGreatOpenBl
namespace Go.Proofs.YtmbgcjfmfkddpaaGreat
set_option linter.unusedVariables false
set_option linter.unusedSimpArgs false
open Go Go.RowKit Go.ChangeShapes Go.WideShapes Go.ChangeAt

def boolR : Rp Bool := flatR 4 (fun b => [Value.bool b]) 1 Nat.one_pos (fun _ => rfl) (fun b u hu => by rw [List.mem_singleton] at hu; subst hu; rfl)
theorem slBo_at {B : Nat} {w : World} {b o m c : Nat} {l : List Bool} (h : SlR boolR B w (.slice (some ⟨b, o, none⟩) m c) l) (i : Nat) (x : Bool) (hi : l[i]? = some x) : w.cell? ⟨b, o + i, none⟩ = some (.bool x) := by
  obtain ⟨ch, rfl, _, hr⟩ := h.at i x hi
  have := hr 0 _ rfl
  rwa [show boolR.sz = 1 from rfl, Nat.mul_one, Nat.add_zero] at this
def spE (ps : List Pub) (from_ : Int) (i : Nat) : Ent := ⟨timesP 37 (madeX from_ i), boxL ps (madeX from_ i) [120] 0⟩
def mixE (ps : List Pub) (from_ : Int) (ruin : List Bool) (i : Nat) : Ent := if ruin[i]? = some true then spE ps from_ i else madeE ps from_ i
def mixL (ps : List Pub) (from_ : Int) (ruin : List Bool) (n i : Nat) : List Ent := (List.range n).map fun j => if j < i then mixE ps from_ ruin j else madeE ps from_ j
theorem length_mixL (ps : List Pub) (from_ : Int) (ruin : List Bool) (n i : Nat) : (mixL ps from_ ruin n i).length = n := by simp [mixL]
theorem mixL_get {ps : List Pub} {from_ : Int} {ruin : List Bool} {n i j : Nat} (h : j < n) : (mixL ps from_ ruin n i)[j]? = some (if j < i then mixE ps from_ ruin j else madeE ps from_ j) := by
  unfold mixL; rw [List.getElem?_map, List.getElem?_range h]; rfl
theorem madeL_map (ps : List Pub) (from_ : Int) : ∀ n, madeL ps from_ n = (List.range n).map (madeE ps from_)
  | 0 => rfl
  | n + 1 => by rw [madeL, madeL_map ps from_ n, List.range_succ, List.map_append]; rfl
theorem mixL_zero (ps : List Pub) (from_ : Int) (ruin : List Bool) (n : Nat) : mixL ps from_ ruin n 0 = madeL ps from_ n := by
  rw [madeL_map]; unfold mixL
  simp
theorem mixL_set (ps : List Pub) (from_ : Int) (ruin : List Bool) {n i : Nat} (h : i < n) : (mixL ps from_ ruin n i).set i (mixE ps from_ ruin i) = mixL ps from_ ruin n (i + 1) := by
  apply List.ext_getElem?
  intro j
  by_cases hj : j < n
  · rw [mixL_get hj, List.getElem?_set, length_mixL, mixL_get hj]
    by_cases e : i = j
    · subst e; simp [h]
    · rw [if_neg e]
      by_cases h2 : j < i
      · rw [if_pos h2, if_pos (by omega)]
      · rw [if_neg h2, if_neg (by omega)]
  · rw [List.getElem?_eq_none (by rw [List.length_set, length_mixL]; omega), List.getElem?_eq_none (by rw [length_mixL]; omega)]
theorem mixL_same (ps : List Pub) (from_ : Int) {ruin : List Bool} {n i : Nat} (h : ruin[i]? ≠ some true) : mixL ps from_ ruin n (i + 1) = mixL ps from_ ruin n i := by
  unfold mixL
  apply List.map_congr_left
  intro j _
  by_cases h1 : j < i
  · rw [if_pos h1, if_pos (by omega)]
  · by_cases h2 : j = i
    · subst h2
      rw [if_pos (by omega), if_neg (by omega)]
      unfold mixE; rw [if_neg h]
    · rw [if_neg (by omega), if_neg (by omega)]
theorem failsN_congr {s : Sec} {at_ : Int} {L M : List Ent} : ∀ (n : Nat), (∀ j, j < n → L[j]? = M[j]?) → failsN s at_ L n = failsN s at_ M n
  | 0, _ => rfl
  | n + 1, h => by rw [failsN, failsN, failsN_congr n (fun j hj => h j (by omega)), h n (by omega)]
def wantL (s : Sec) (ps : List Pub) (from_ : Int) (ruin : List Bool) (n i : Nat) : List Int := failsN s 0 (mixL ps from_ ruin n i) i
theorem wantL_succ {s : Sec} {ps : List Pub} {from_ : Int} {ruin : List Bool} {n i : Nat} (h : i < n) : wantL s ps from_ ruin n (i + 1) = wantL s ps from_ ruin n i ++ (if (opE s 0 (mixE ps from_ ruin i)).isNone then [(i : Int)] else []) := by
  unfold wantL
  rw [failsN, failsN_congr i (L := mixL ps from_ ruin n (i + 1)) (M := mixL ps from_ ruin n i) (fun j hj => by rw [mixL_get (by omega), mixL_get (by omega), if_pos (by omega), if_pos hj]), mixL_get h, if_pos (by omega)]
theorem length_wantL (s : Sec) (ps : List Pub) (from_ : Int) (ruin : List Bool) (n i : Nat) : (wantL s ps from_ ruin n i).length ≤ i := length_failsN _ _ _ _
theorem wantL_full (s : Sec) (ps : List Pub) (from_ : Int) (ruin : List Bool) (n : Nat) : wantL s ps from_ ruin n n = failsL s 0 (mixL ps from_ ruin n n) := by unfold wantL failsL; rw [length_mixL]
theorem mix_good (ss : List Sec) (dd : List (List Int)) (from_ : Int) (ruin : List Bool) (i : Nat) : Good ss dd 0 0 (mixE (chainL ss dd) from_ ruin i) := by
  unfold mixE
  split
  · exact ⟨madeX from_ i, [120], 0, madeX_in _ _, by decide, fun j h => by omega, rfl⟩
  · exact ⟨madeX from_ i, put64 i, -1, madeX_in _ _, by rw [length_put64]; decide, fun j h => by omega, rfl⟩
theorem made_good0 (ss : List Sec) (dd : List (List Int)) (from_ : Int) (i : Nat) : Good ss dd 1 0 (madeE (chainL ss dd) from_ i) :=
  ⟨madeX from_ i, put64 i, -1, madeX_in _ _, by rw [length_put64]; decide, fun j h => by omega, rfl⟩
theorem mixL_good {ss : List Sec} {dd : List (List Int)} {from_ : Int} {ruin : List Bool} {n i : Nat} : ∀ e ∈ mixL (chainL ss dd) from_ ruin n i, Good ss dd 0 0 e := by
  intro e he
  obtain ⟨j, _, rfl⟩ := List.mem_map.1 he
  split
  · exact mix_good _ _ _ _ _
  · exact ⟨madeX from_ j, put64 j, -1, madeX_in _ _, by rw [length_put64]; decide, fun k h => by omega, rfl⟩
theorem rd_bools {w : World} {cs : List Value} (h : Rd Tryz.prog w 25 cs) : ∃ (v : Value) (l : List Bool), cs = [v] ∧ SlR boolR w.heap.size w v l := by
  obtain ⟨v, chs, h1, h2, h3⟩ := rd_slice Tryz.underlying25 (show Tryz.prog.cellsOf 4 = 1 from by kernel_rfl) (by decide) h
  obtain ⟨l, h4, -, h5⟩ := slR_of (R := boolR) (q := fun _ => True) h2 (fun c hc => by
    obtain ⟨b, rfl⟩ := rd_bool Tryz.underlying4 (h3 c hc).2
    exact ⟨b, rfl, trivial⟩)
  exact ⟨v, l, h1, h4⟩
section
variable {H : Type} {enc : TypeId × Value → H} {w : World} {v : Value} {d : DataW H} {p : List MemPlace} {base : Nat}
set_option maxRecDepth 100000 in
theorem openA_bools (hv : Value.okWide Tryz.prog w .any base 25 v) (h : DataW.Trod enc Tryz.prog w 0 (fun _ => true) true 25 v d p) : ∃ a, SlR boolR w.heap.size w v a := by
  obtain ⟨u, l, h1, h2⟩ := rd_bools (rd_of h)
  obtain rfl := cells_slice Tryz.underlying25 hv h1
  exact ⟨l, h2⟩
end
end Go.Proofs.YtmbgcjfmfkddpaaGreat
