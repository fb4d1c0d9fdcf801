/-
  Orders: Inverse and Right of the program.
-/
import Derived.Test.YtmbgcjfmfkddpaaGreatOrd
namespace Go.Proofs.YtmbgcjfmfkddpaaGreat
set_option linter.unusedVariables false
set_option linter.unusedSimpArgs false
open Go Go.RowKit

/-- Which numbers are met among the first n. -/
def metL (p : List Int) (n : Nat) : List Bool := (List.range p.length).map fun (k : Nat) => decide ((k : Int) ∈ p.take n)
theorem length_metL (p : List Int) (n : Nat) : (metL p n).length = p.length := by simp [metL]
theorem metL_get {p : List Int} {n k : Nat} (hk : k < p.length) : (metL p n)[k]? = some (decide ((k : Int) ∈ p.take n)) := by
  unfold metL
  rw [List.getElem?_map, List.getElem?_range hk]; rfl
theorem metL_zero (p : List Int) : metL p 0 = List.replicate p.length false := by
  apply List.ext_getElem
  · simp [metL]
  · intro i h1 h2; simp [metL]
theorem metL_succ {p : List Int} {n k : Nat} (h : p[n]? = some (k : Int)) : (metL p n).set k true = metL p (n + 1) := by
  obtain ⟨hn, e⟩ := List.getElem?_eq_some_iff.1 h
  apply List.ext_getElem
  · simp [metL]
  · intro i h1 h2
    rw [List.getElem_set]
    simp only [metL, List.getElem_map, List.getElem_range]
    rw [List.take_succ_eq_append_getElem hn, e]
    by_cases e2 : k = i
    · subst e2; simp
    · have : ¬ (i : Int) = (k : Int) := by omega
      simp [e2, this]
theorem mem_take_iff {p : List Int} {n : Nat} {x : Int} (h : x ∈ p.take n) : ∃ j, j < n ∧ p[j]? = some x := by
  obtain ⟨j, hj, he⟩ := List.getElem_of_mem h
  rw [List.length_take] at hj
  rw [List.getElem_take] at he
  exact ⟨j, by omega, by rw [List.getElem?_eq_getElem (by omega), he]⟩
theorem mem_take_of {p : List Int} {n j : Nat} {x : Int} (hj : j < n) (h : p[j]? = some x) : x ∈ p.take n := by
  have : (p.take n)[j]? = some x := by rw [List.getElem?_take, if_pos hj]; exact h
  exact List.mem_of_getElem? this
theorem info_bool3 : (Tryz.prog.info? 4).map (fun i => (i.zero, i.size, i.bytes)) = some (some (.bool false), 1, 1) := by kernel_rfl
theorem run_make_bools (n : Nat) (w : World) (hn : n ≤ 2000000) : (Instr.makeSlice 25 (.int .i64 n) (.int .i64 n)).run Tryz.prog w = .ok (.slice (some ⟨w.heap.size, 0, none⟩) n n) (w.alloc (.cells (Array.replicate n (.bool false)) 4)) := by
  obtain ⟨i, hi, hz, hsize, hby⟩ := info_parts info_bool3
  have h := run_makeSlice (P := Tryz.prog) w 25 4 i (.bool false) Tryz.underlying25 hi hz .i64 .i64 n n (by omega) (Int.le_refl _) (by rw [hsize]; omega) (by rw [hby]; omega) (by omega)
  have e : madeCells (Value.bool false).cells n = Array.replicate n (.bool false) := by
    unfold madeCells
    apply Array.ext_getElem?
    intro j
    by_cases hj : j < n
    · simp [Value.cells, hj, Nat.mod_one]
    · simp [hj]
  rw [hsize, Nat.mul_one, Int.toNat_natCast, e] at h
  exact h
theorem bools_set (l : List Bool) (k : Nat) (b : Bool) : ((l.map Value.bool).toArray).setIfInBounds k (.bool b) = ((l.set k b).map Value.bool).toArray := by
  apply Array.ext_getElem?
  intro i
  simp [List.getElem?_set]
def RetVB (d : Bool) (w : World) (e : Ending) (w' : World) : Prop := ∃ v', e = .returned (.tuple #[v', .bool d]) ∧ Below w.heap.size w w'
def PiRel (w : World) (p : List Int) (B1 B2 : Nat) (iv : Value) (wr : World) : Prop :=
  ∃ n : Nat, iv = .int .i64 n ∧ n ≤ p.length ∧ permN p n ∧ (∃ l : List Int, l.length = p.length ∧ Blk wr B1 (l.map JV).toArray 3) ∧ Blk wr B2 ((metL p n).map Value.bool).toArray 4 ∧ Ext w wr
set_option maxRecDepth 100000 in
set_option maxHeartbeats 4000000 in
theorem PermInv_any (p : List Int) (B : Nat) (v : Value) (w : World) (hv : SlR intR B w v p) (hl : p.length ≤ 1000000) :
    Calls Tryz.prog 68 #[v] w (RetVB (decide (permOk p)) w) := by
  obtain ⟨a, c, rfl, hc, hm⟩ := hv.form
  have HV := Lib.hid hv; clear hv
  have hmk := fun W : World => run_make_ints p.length W (by omega)
  have hmk2 := fun W : World => run_make_bools p.length W (by omega)
  go_enter Tryz.func68, Tryz.ntmps68
  go_wp2_with fail
  clear hmk hmk2
  have H0 := Lib.hid (show PiRel w p w.heap.size (w.heap.size + 1) (.int .i64 0) ((w.alloc (.cells (Array.replicate p.length (JV 0)) 3)).alloc (.cells (Array.replicate p.length (.bool false)) 4)) from by
    refine ⟨0, rfl, Nat.zero_le _, permN_zero _, ⟨List.replicate p.length 0, by simp, ?_⟩, ?_, (Ext.alloc _ _).tr (Ext.alloc _ _)⟩
    · rw [List.map_replicate, show (List.replicate p.length (JV 0)).toArray = Array.replicate p.length (JV 0) from by simp]
      exact (Blk.new _ _ _).alloc _
    · rw [metL_zero, List.map_replicate, show (List.replicate p.length (Value.bool false)).toArray = Array.replicate p.length (.bool false) from by simp]
      exact Blk.new2 _ _ _ _)
  have HB := Lib.hid (show w.heap.size ≤ w.heap.size from Nat.le_refl _)
  go_loopw [6, 7, 16] (fun _ _ iv wr => PiRel w p w.heap.size (w.heap.size + 1) iv wr) (fun _ _ iv _ => p.length - (intOf iv).toNat)
  case atStart => exact H0.out
  case round =>
    clear H0
    obtain ⟨n, rfl, hn, hp, ⟨l, hll, hG1⟩, hG2, hX⟩ := hrel
    have HP := Lib.hid hp; have HG1 := Lib.hid hG1; have HG2 := Lib.hid hG2; have HX := Lib.hid hX; have HL := Lib.hid hll
    clear hp hG1 hG2 hX hll
    by_cases hlt : n < p.length
    · obtain ⟨b, o, c', e1, -, -⟩ := HV.out.open (by omega)
      obtain ⟨rfl, rfl⟩ : a = some ⟨b, o, none⟩ ∧ c = c' := by injection e1 with e1 _ e3; exact ⟨e1, e3⟩
      clear e1
      obtain ⟨x, hx⟩ : ∃ x, p[n]? = some x := ⟨_, List.getElem?_eq_getElem hlt⟩
      have HXX := Lib.hid hx; clear hx
      have hcx : wr.cell? ⟨b, o + n, none⟩ = some (.int .i64 x) := slI_at (HV.out.ext HX.out) n x HXX.out
      by_cases h0 : x < 0
      · have HD := Lib.hid (decide_eq_false (not_perm_range HXX.out (by omega)))
        go_wp2_with fail
        go_ret2
        rw [HD.out]
        exact ⟨_, rfl, HX.out⟩
      · by_cases hle : (p.length : Int) ≤ x
        · have HD := Lib.hid (decide_eq_false (not_perm_range HXX.out (by omega)))
          go_wp2_with fail
          go_ret2
          rw [HD.out]
          exact ⟨_, rfl, HX.out⟩
        · obtain ⟨k, rfl⟩ : ∃ k : Nat, x = k := ⟨x.toNat, by omega⟩
          have hkl : k < p.length := by omega
          have hcm : wr.cell? ⟨w.heap.size + 1, k, none⟩ = some (.bool (decide ((k : Int) ∈ p.take n))) := by rw [HG2.out.cell, List.getElem?_toArray, List.getElem?_map, metL_get hkl]; rfl
          by_cases hmem : (k : Int) ∈ p.take n
          · rw [decide_eq_true hmem] at hcm
            have HD := Lib.hid (decide_eq_false (show ¬ permOk p from by
              obtain ⟨j, hj, he⟩ := mem_take_iff hmem
              exact not_perm_twice hj he HXX.out))
            clear hmem h0 hle
            go_wp2_with fail
            go_ret2
            rw [HD.out]
            exact ⟨_, rfl, HX.out⟩
          · rw [decide_eq_false hmem] at hcm
            have HN := Lib.hid (permN_step HP.out HXX.out (by omega) (by omega) (fun j hj e => hmem (mem_take_of hj e)))
            have HM := Lib.hid (metL_succ HXX.out)
            clear hmem h0 hle
            obtain ⟨y, hy⟩ : ∃ y, l[k]? = some y := ⟨_, List.getElem?_eq_getElem (by rw [HL.out]; exact hkl)⟩
            have hc1 : wr.cell? ⟨w.heap.size, k, none⟩ = some (.int .i64 y) := by rw [HG1.out.cell, List.getElem?_toArray, List.getElem?_map, hy]; rfl
            have hf1 := HG1.out.free k
            have HG3 := Lib.hid (HG2.out.setCell ⟨w.heap.size, k, none⟩ (JV n) (show w.heap.size + 1 ≠ w.heap.size by omega))
            have hc2 : (wr.setCell ⟨w.heap.size, k, none⟩ (JV n)).cell? ⟨w.heap.size + 1, k, none⟩ = some (.bool false) := by rw [HG3.out.cell, ← HG2.out.cell]; exact hcm
            have hf2 := HG3.out.free k
            clear hy
            go_wp2_with fail
            clear hcx hcm hc1 hf1 hc2 hf2
            go_roundw
            case rel => exact ⟨n + 1, rfl, by omega, HN.out, ⟨l.set k n, by rw [List.length_set]; exact HL.out, by rw [← ints_set]; exact (HG1.out.set k _).setCell _ _ (show w.heap.size ≠ w.heap.size + 1 by omega)⟩, by rw [← HM.out, ← bools_set]; exact HG3.out.set k _, Below.setCell (Below.setCell HX.out HB.out _) (Nat.le_trans HB.out (Nat.le_succ _)) _⟩
            case measure => (simp [intOf] <;> omega)
    · obtain rfl : n = p.length := by omega
      have HD := Lib.hid (decide_eq_true ((permN_full p).1 HP.out))
      go_wp2_with fail
      go_ret2
      rw [HD.out]
      exact ⟨_, rfl, HX.out⟩
set_option maxRecDepth 100000 in
theorem PermRight_any (p : List Int) (B : Nat) (v : Value) (w : World) (hv : SlR intR B w v p) (hl : p.length ≤ 1000000) :
    Calls Tryz.prog 48 #[v] w fun e w' => e = .returned (.bool (decide (permOk p))) ∧ Below w.heap.size w w' := by
  have H := Lib.hid (PermInv_any p B v w hv hl)
  generalize decide (permOk p) = d at *
  clear hv
  go_enter Tryz.func48, Tryz.ntmps48
  go_wp2_with (go_at_call 68; refine H.out.mono ?_; rintro e w1 ⟨v1, rfl, hb1⟩)
  go_ret
  exact ⟨rfl, hb1⟩
end Go.Proofs.YtmbgcjfmfkddpaaGreat
