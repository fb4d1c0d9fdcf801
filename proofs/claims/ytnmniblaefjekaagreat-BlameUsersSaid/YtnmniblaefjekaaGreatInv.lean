/-
  Orders undone: Inverse of the reference.
-/
import Derived.Test.YtnmniblaefjekaaGreatHop2
import Derived.Test.YtnmniblaefjekaaGreatPr
namespace Go.Proofs.YtnmniblaefjekaaGreat
set_option linter.unusedVariables false
set_option linter.unusedSimpArgs false
open Go Go.RowKit

abbrev JV (x : Int) : Value := .int .i64 x
theorem run_make_ints (n : Nat) (w : World) (hn : n ≤ 2000000) : (Instr.makeSlice 62 (.int .i64 n) (.int .i64 n)).run Tryz.prog w = .ok (.slice (some ⟨w.heap.size, 0, none⟩) n n) (w.alloc (.cells (Array.replicate n (JV 0)) 3)) := by
  obtain ⟨i, hi, hz, hsize, hby⟩ := info_parts info_int3
  have h := run_makeSlice (P := Tryz.prog) w 62 3 i (.int .i64 0) Tryz.underlying62 hi hz .i64 .i64 n n (by omega) (Int.le_refl _) (by rw [hsize]; omega) (by rw [hby]; omega) (by omega)
  have e : madeCells (Value.int .i64 0).cells n = Array.replicate n (JV 0) := by
    unfold madeCells
    apply Array.ext_getElem?
    intro j
    by_cases hj : j < n
    · simp [Value.cells, hj, Nat.mod_one]
    · simp [hj]
  rw [hsize, Nat.mul_one, Int.toNat_natCast, e] at h
  exact h
def invN (p : List Int) : Nat → List Int
  | 0 => List.replicate p.length 0
  | n + 1 => match p[n]? with
    | some x => (invN p n).set x.toNat n
    | none => invN p n
def invL (p : List Int) : List Int := invN p p.length
theorem length_invN (p : List Int) : ∀ n, (invN p n).length = p.length
  | 0 => by rw [invN, List.length_replicate]
  | n + 1 => by
    rw [invN]
    split
    · rw [List.length_set]; exact length_invN p n
    · exact length_invN p n
theorem invN_succ {p : List Int} {n k : Nat} (h : p[n]? = some (k : Int)) : invN p (n + 1) = (invN p n).set k n := by rw [invN, h]; simp
theorem invN_get {p : List Int} (hp : permOk p) : ∀ (n : Nat) (i k : Nat), i < n → p[i]? = some (k : Int) → (invN p n)[k]? = some (i : Int)
  | 0, _, _, h, _ => absurd h (Nat.not_lt_zero _)
  | n + 1, i, k, h, hk => by
    have hkr := hp.1 k (List.mem_of_getElem? hk)
    by_cases hn : n < p.length
    · obtain ⟨x, hx⟩ : ∃ x, p[n]? = some x := ⟨_, List.getElem?_eq_getElem hn⟩
      have hxr := hp.1 x (List.mem_of_getElem? hx)
      obtain ⟨m, rfl⟩ : ∃ m : Nat, x = m := ⟨x.toNat, by omega⟩
      rw [invN_succ hx]
      by_cases e : i = n
      · subst e
        rw [hx] at hk
        obtain rfl : m = k := by injection hk with hk; omega
        rw [List.getElem?_set_self (by rw [length_invN]; omega)]
      · have hmk : m ≠ k := fun e2 => by
          subst e2
          exact (not_perm_twice (show i < n by omega) hk hx) hp
        rw [List.getElem?_set_ne hmk]
        exact invN_get hp n i k (by omega) hk
    · have : i < p.length := (List.getElem?_eq_some_iff.1 hk).1
      have hpn : p[n]? = none := List.getElem?_eq_none (by omega)
      simp only [invN, hpn]
      exact invN_get hp n i k (by omega) hk
/-- An order undone. -/
theorem invL_get {p : List Int} (hp : permOk p) {i k : Nat} (h : p[i]? = some (k : Int)) : (invL p)[k]? = some (i : Int) := invN_get hp _ i k (List.getElem?_eq_some_iff.1 h).1 h
theorem ints_set (l : List Int) (k : Nat) (x : Int) : ((l.map JV).toArray).setIfInBounds k (JV x) = ((l.set k x).map JV).toArray := by
  rw [List.setIfInBounds_toArray, ← List.map_set]
theorem owI_blk {w : World} {B B0 G n : Nat} {l : List Int} (h : Blk w G (l.map JV).toArray 3) (hB : B0 ≤ G) (hl : l.length = n) (hm : n ≤ maxLen) : OwR intR B B0 w (.slice (some ⟨G, 0, none⟩) n n) l := by
  subst hl
  refine owR_flat ?_
  rw [flatMap_one]
  exact ⟨by rw [List.length_map, Nat.mul_one], .inr ⟨G, l.length, (l.map JV).toArray, rfl, hB, h, Nat.le_refl _, hm, by simp, by rw [Nat.mul_one, List.toList_toArray, List.take_of_length_le (by simp)]⟩⟩
set_option maxRecDepth 100000 in
set_option maxHeartbeats 2000000 in
theorem Inverser_any (p : List Int) (B : Nat) (v : Value) (w : World) (hv : SlR intR B w v p) (hl : p.length ≤ 1000000) (hp : permOk p) :
    Calls Tryz.prog 54 #[v] w fun e w' => ∃ v', e = .returned (.tuple #[v', .bool true]) ∧ OwR intR w.heap.size w.heap.size w' v' (invL p) ∧ Below w.heap.size w w' := by
  obtain ⟨a, c, rfl, hc, hm⟩ := hv.form
  have HV := Lib.hid hv; clear hv
  have HRO := Lib.hid (RightOrderr_any p B _ w HV.out (by omega))
  have HPF := Lib.hid (decide_eq_true hp)
  have HPP := Lib.hid hp; clear hp
  have hmk := fun W : World => run_make_ints p.length W (by omega)
  go_enter Tryz.func54, Tryz.ntmps54
  go_wp2_with (go_at_call 24; refine HRO.out.mono ?_; rintro r_ w1 ⟨rfl, hb1⟩; rw [HPF.out])
  go_loopw [5] (fun i wr => ∃ n : Nat, i = .int .i64 n ∧ n ≤ p.length ∧ Blk wr w1.heap.size ((invN p n).map JV).toArray 3 ∧ Ext w1 wr) (fun i _ => p.length - (intOf i).toNat)
  case atStart => exact ⟨0, rfl, Nat.zero_le _, by
    rw [show ((invN p 0).map JV).toArray = Array.replicate p.length (JV 0) by rw [invN, List.map_replicate]; simp]; exact Blk.new _ _ _, Ext.alloc _ _⟩
  case round =>
    obtain ⟨n, rfl, hn, hG, hX⟩ := hrel
    have HG := Lib.hid hG; have HX := Lib.hid hX
    clear hG hX
    by_cases hlt : n < p.length
    · obtain ⟨b, o, c', e1, -, -⟩ := HV.out.open (by omega)
      obtain ⟨rfl, rfl⟩ : a = some ⟨b, o, none⟩ ∧ c = c' := by injection e1 with e1 _ e3; exact ⟨e1, e3⟩
      clear e1
      obtain ⟨x, hx⟩ : ∃ x, p[n]? = some x := ⟨_, List.getElem?_eq_getElem hlt⟩
      have hxr := HPP.out.1 x (List.mem_of_getElem? hx)
      obtain ⟨k, rfl⟩ : ∃ k : Nat, x = k := ⟨x.toNat, by omega⟩
      have hkl : k < p.length := by omega
      have hcx := slI_at (HV.out.ext (Ext.tr hb1 HX.out)) n k hx
      have HIS := Lib.hid (invN_succ hx)
      have HLI := Lib.hid (length_invN p n)
      clear hx hxr
      generalize invN p n = IN at *
      obtain ⟨y, hy⟩ : ∃ y, IN[k]? = some y := ⟨_, List.getElem?_eq_getElem (by rw [HLI.out]; exact hkl)⟩
      have hcg : wr.cell? ⟨w1.heap.size, k, none⟩ = some (.int .i64 y) := by rw [HG.out.cell, List.getElem?_toArray, List.getElem?_map, hy]; rfl
      have hfg := HG.out.free k
      clear hy
      go_wp2_with fail
      clear hcx hcg hfg
      go_roundw
      case rel => exact ⟨n + 1, rfl, by omega, by rw [HIS.out, ← ints_set]; exact HG.out.set k _, Below.setCell HX.out (Nat.le_refl _) _⟩
      case measure => (simp [intOf] <;> omega)
    · obtain rfl : n = p.length := by omega
      have HG2 := Lib.hid (owI_blk (B := w.heap.size) (B0 := w.heap.size) HG.out (Below.size hb1) (length_invN p p.length) (by unfold maxLen; omega))
      go_wp2_with fail
      go_ret2
      exact ⟨_, rfl, HG2.out, Ext.tr hb1 HX.out⟩
end Go.Proofs.YtnmniblaefjekaaGreat
