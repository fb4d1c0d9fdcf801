/-
  Orders drawn: the plain words, and Order of the reference.
-/
import Derived.Test.YtmbgcjfmfkddpaaDoorInts
import Derived.Test.YtmbgcjfmfkddpaaDoorNext
namespace Go.Proofs.YtmbgcjfmfkddpaaDoor
set_option linter.unusedVariables false
set_option linter.unusedSimpArgs false
open Go Go.RowKit

def idL (n : Nat) : List Int := (List.range n).map fun (j : Nat) => (j : Int)
theorem length_idL (n : Nat) : (idL n).length = n := by simp [idL]
theorem idL_succ (n : Nat) : idL (n + 1) = idL n ++ [(n : Int)] := by simp [idL, List.range_succ]
def fillL (n k : Nat) : List Int := (List.range n).map fun j => if j < k then (j : Int) else 0
theorem length_fillL (n k : Nat) : (fillL n k).length = n := by simp [fillL]
theorem fillL_zero (n : Nat) : fillL n 0 = List.replicate n 0 := by
  apply List.ext_getElem
  · simp [fillL]
  · intro i h1 h2; simp [fillL]
theorem fillL_full (n : Nat) : fillL n n = idL n := by
  apply List.ext_getElem
  · simp [fillL, idL]
  · intro i h1 h2
    simp [fillL] at h1
    simp [fillL, idL, h1]
theorem fillL_set (n k : Nat) : (fillL n k).set k (k : Int) = fillL n (k + 1) := by
  apply List.ext_getElem
  · simp [fillL]
  · intro i h1 h2
    rw [List.getElem_set]
    by_cases e : k = i
    · subst e; simp [fillL]
    · rw [if_neg e]
      simp only [fillL, List.getElem_map, List.getElem_range]
      by_cases h : i < k
      · rw [if_pos h, if_pos (by omega)]
      · rw [if_neg h, if_neg (by omega)]
def swL (l : List Int) (i j : Nat) : List Int := (l.set i (l.getD j 0)).set j (l.getD i 0)
theorem length_swL (l : List Int) (i j : Nat) : (swL l i j).length = l.length := by simp [swL]
theorem swL_of {l : List Int} {i j : Nat} {x y : Int} (hi : l[i]? = some x) (hj : l[j]? = some y) : swL l i j = (l.set i y).set j x := by
  unfold swL; rw [List.getD_eq_getElem?_getD, List.getD_eq_getElem?_getD, hi, hj]; rfl
/-- The numbers of l, those below i+1 changed with drawn ones. -/
def ordF (seed name : List UInt8) : Nat → List Int → Int → Option (List Int) × Int
  | 0, l, pos => (some l, pos)
  | i + 1, l, pos => match nextN seed name (i + 2) 64 pos with
    | (none, p) => (none, p)
    | (some x, p) => ordF seed name i (swL l (i + 1) x.toNat) p
theorem ordF_none {seed name : List UInt8} {i : Nat} {l : List Int} {pos : Int} (h : (nextN seed name (i + 2) 64 pos).1 = none) : (ordF seed name (i + 1) l pos).1 = none := by
  unfold ordF
  split
  · rfl
  · rename_i e; rw [e] at h; cases h
theorem ordF_some {seed name : List UInt8} {i j : Nat} {l : List Int} {pos : Int} (h : (nextN seed name (i + 2) 64 pos).1 = some (j : Int)) : ordF seed name (i + 1) l pos = ordF seed name i (swL l (i + 1) j) (nextN seed name (i + 2) 64 pos).2 := by
  conv => lhs; unfold ordF
  split
  · rename_i e; rw [e] at h; cases h
  · rename_i x p e
    rw [e] at h ⊢
    obtain rfl : x = j := by injection h
    rw [Int.toNat_natCast]
def drawO (seed name : List UInt8) (n : Nat) : Option (List Int) := (ordF seed name (n - 1) (idL n) 0).1
def errO (o : Option (List Int)) : Int := match o with | some _ => 0 | none => 9
def OrdV (B : Nat) (w : World) (v : Value) : Option (List Int) → Prop
  | some l => OwR intR B B w v l
  | none => v = .slice none 0 0
/-- What the loop of changes keeps. -/
def SwRel (S : World → Int → Prop) (W : World) (seed name : List UInt8) (n : Nat) (G cap : Nat) (iv : Value) (wr : World) : Prop :=
  ∃ (m : Nat) (l : List Int) (pos : Int), m ≤ n - 1 ∧ iv = .int .i64 m ∧ l.length = n ∧ Hid (drawO seed name n = (ordF seed name m l pos).1) ∧ OwR intR W.heap.size W.heap.size wr (.slice (some ⟨G, 0, none⟩) n cap) l ∧ S wr pos ∧ 0 ≤ pos ∧ pos + 64 * m ≤ 64 * n ∧ Ext W wr
theorem wpList_loadI {ops : Array Oper} {rest : List Oper} {o : Oper} {a : Act} {w : World} {Q : Exit → Act → World → Prop} (hgd : o.guard = none) (x : Operand) (ho : o.op = .load 3 x) (g k : Nat) (hx : a.eval x = .pointer (some ⟨g, k, none⟩)) (v : Int) (hc : w.cell? ⟨g, k, none⟩ = some (.int .i64 v))
    (h : wpList Tryd.prog ops Q rest (a.put o.dst (JV v)) w) : wpList Tryd.prog ops Q (o :: rest) a w := by
  refine wpList_plain hgd fun K hK => ?_
  unfold Oper.wp
  simp only [execOp, ho, hx]
  simp [go_sem, hc]
  exact hK _ _ h
theorem wpList_setI {ops : Array Oper} {rest : List Oper} {o : Oper} {a : Act} {w : World} {Q : Exit → Act → World → Prop} (hgd : o.guard = none) (x y : Operand) (ho : o.op = .store 3 x y) (g k : Nat) (hx : a.eval x = .pointer (some ⟨g, k, none⟩)) (v : Int) (hy : a.eval y = JV v) (old : Value) (hc : w.cell? ⟨g, k, none⟩ = some old) (hf : w.frozen? ⟨g, k, none⟩ = false)
    (h : ∀ w', w' = w.setCell ⟨g, k, none⟩ (JV v) → wpList Tryd.prog ops Q rest (a.put o.dst undef) w') : wpList Tryd.prog ops Q (o :: rest) a w := by
  refine wpList_plain hgd fun K hK => ?_
  unfold Oper.wp
  simp only [execOp, ho, hx, hy]
  simp [go_sem, hc, hf]
  exact hK _ _ (h _ rfl)
theorem StrB.bt {g : Nat} {seed name : List UInt8} {i : Int} {u : World} (h : StrB g seed name i u) : ∃ cs t, Blk u g cs t ∧ 3 ≠ t ∧ t ∉ intR.T := ⟨_, _, h, by decide, by decide⟩
theorem StrB.gr {g : Nat} {seed name : List UInt8} {i : Int} {u u' : World} {r : Option Nat} (h : StrB g seed name i u) (hg : u.grownBy u' r) (hn : some g ≠ r) : StrB g seed name i u' := Blk.grownBy h hg hn
theorem BB.bt {g : Nat} {seed name : List UInt8} {i : Int} {u : World} (h : BB g seed name i u) : ∃ cs t, Blk u g cs t ∧ 3 ≠ t ∧ t ∉ intR.T := by
  obtain ⟨cs, hb⟩ := h.blk
  exact ⟨_, _, hb, by decide, by decide⟩
theorem BB.gr {g : Nat} {seed name : List UInt8} {i : Int} {u u' : World} {r : Option Nat} (h : BB g seed name i u) (hg : u.grownBy u' r) (hn : some g ≠ r) : BB g seed name i u' := h.grownBy hg hn
set_option maxRecDepth 100000 in
set_option maxHeartbeats 2000000 in
theorem Orderr_any (g : Nat) (seed name : List UInt8) (n : Nat) (w W : World) (hE : Ext W w) (hg : W.heap.size ≤ g) (hB : StrB g seed name 0 w) (h32 : seed.length = 32) (hn : name.length ≤ 10000) (h1 : 1 ≤ n) (h60 : n ≤ 60) :
    Calls Tryd.prog 17 #[.int .i64 (n : Int), .pointer (some ⟨g, 0, none⟩)] w fun e w' => ∃ v, e = .returned (.tuple #[v, .int .i64 (errO (drawO seed name n))]) ∧ OrdV W.heap.size w' v (drawO seed name n) ∧ Ext W w' := by
  have HE := Lib.hid hE; have HB := Lib.hid hB
  have HNX := Lib.hid fun (m : Nat) (pos : Int) (u : World) (hu : StrB g seed name pos u) (h0 : 0 ≤ pos) (hp : pos ≤ 900000000) (h2 : 2 ≤ m) (hm : m ≤ 60) => RNext_any g seed name pos m u hu h32 hn h0 hp h2 hm
  obtain ⟨D, hD⟩ : ∃ D, drawO seed name n = D := ⟨_, rfl⟩
  have HD := Lib.hid hD
  rw [hD]
  clear hE hB hD
  go_enter Tryd.func17, Tryd.ntmps17
  go_wp2_with fail
  go_loopw [6, 7] (fun pv iv wr => ∃ k : Nat, k ≤ n ∧ iv = .int .i64 k ∧ OwR intR W.heap.size W.heap.size wr pv (idL k) ∧ StrB g seed name 0 wr ∧ Ext W wr) (fun _ iv _ => n - (intOf iv).toNat)
  case atStart => exact ⟨0, Nat.zero_le _, rfl, OwR.nil _ _ _, HB.out, HE.out⟩
  case round =>
    obtain ⟨k, hk, rfl, hO, hS, hX⟩ := hrel
    obtain ⟨a, c, rfl, -, -⟩ := hO.form
    have HO := Lib.hid hO; have HS := Lib.hid hS; have HX := Lib.hid hX
    clear hO hS hX
    have HLK := Lib.hid (length_idL k)
    by_cases hlt : k < n
    · have HIS := Lib.hid (idL_succ k)
      generalize idL k = L at *
      rw [HLK.out] at HO ⊢
      go_wp2_with (at_builtin; refine appI (W := W) rfl _ _ rfl (Nat.le_refl _) _ L rfl (HO.out.ext (Ext.alloc _ _)) (.slice (some ⟨wr.heap.size, 0, none⟩) 1 1) [(k : Int)] rfl (SlR.lit1 (R := intR) (y := (k : Int)) (c := [.int .i64 k]) rfl) (by have := HLK.out; simp only [List.length_cons, List.length_nil]; omega) (Below.alloc HX.out (Below.size HX.out) _) ?_; intro v10 w10 hown10 hg10 hb10; have hS10 := Blk.grownT (HS.out.below (Ext.alloc _ _)) hg10 (HO.out.ext (Ext.alloc wr (.cells #[.int .i64 (k : Int)] intR.ty))).row (by decide))
      go_roundw
      case rel => exact ⟨k + 1, by omega, rfl, by rw [HIS.out]; exact hown10, hS10, hb10⟩
      case measure => (simp [intOf] <;> omega)
    · obtain rfl : n = k := by omega
      obtain ⟨G, rfl, -, -, hGW⟩ := HO.out.place (by rw [length_idL]; omega)
      have hO := HO.out
      rw [HLK.out] at hO ⊢
      have HO2 := Lib.hid hO
      clear hO HO HE HB
      go_wp2_with fail
      go_loopw [8, 9, 10, 11] (fun iv _ _ _ wr => SwRel (fun u p => StrB g seed name p u) W seed name n G c iv wr) (fun iv _ _ _ _ => (intOf iv).toNat)
      case atStart => exact ⟨n - 1, idL n, 0, Nat.le_refl _, congrArg (Value.int .i64) (by omega), length_idL n, Lib.hid rfl, HO2.out, HS.out, Int.le_refl _, by omega, HX.out⟩
      case round =>
        clear HO2 HS HX
        obtain ⟨m, l, pos, hm, rfl, hl, hN, hO, hS, h0, hp, hX⟩ := hrel
        have HO := Lib.hid hO; have HS := Lib.hid hS; have HX := Lib.hid hX; have HL := Lib.hid hl
        clear hO hS hX hl
        rcases m with _ | q
        · have hDD := HD.out.symm.trans hN.out
          unfold ordF at hDD
          subst hDD
          have HO3 := Lib.hid (show OrdV W.heap.size wr _ (some l) from HO.out)
          go_wp2_with fail
          go_ret2
          exact ⟨_, rfl, HO3.out, HX.out⟩
        · have hnx := HNX.out (q + 2) pos wr HS.out h0 (by omega) (by omega) (by omega)
          rw [show ((q + 2 : Nat) : Int) = ((q + 1 : Nat) : Int) + 1 from by omega] at hnx
          obtain ⟨p0, p1⟩ := nextN_le seed name (q + 2) 64 pos
          rcases ho : (nextN seed name (q + 2) 64 pos).1 with _ | x
          · have hDD := HD.out.symm.trans (hN.out.trans (ordF_none ho))
            subst hDD
            rw [ho] at hnx
            have HN2 := Lib.hid hnx
            clear hnx ho hN
            go_wp2_with (go_at_call 22; refine HN2.out.mono ?_; rintro e x1 ⟨rfl, hs1, hg1⟩)
            go_ret2
            exact ⟨_, rfl, rfl, ext_rowK HX.out hg1 hg⟩
          · obtain ⟨x0, x1⟩ := nextN_lt seed name (q + 2) (by omega) 64 pos x ho
            obtain ⟨j, rfl⟩ : ∃ j : Nat, x = j := ⟨x.toNat, by omega⟩
            have hNN := hN.out.trans (by rw [ordF_some ho])
            rw [ho] at hnx
            clear ho hN
            generalize (nextN seed name (q + 2) 64 pos).2 = P at *
            obtain ⟨y, hy⟩ : ∃ y, l[q + 1]? = some y := ⟨_, List.getElem?_eq_getElem (by rw [HL.out]; omega)⟩
            obtain ⟨z, hz⟩ : ∃ z, l[j]? = some z := ⟨_, List.getElem?_eq_getElem (by rw [HL.out]; omega)⟩
            rw [swL_of hy hz] at hNN
            have HN2 := Lib.hid hnx; have HNN := Lib.hid hNN
            have HCC := Lib.hid fun (x1 : World) (hg1 : wr.grownBy x1 (some g)) => (show OwR intR W.heap.size W.heap.size x1 (.slice (some ⟨G, 0, none⟩) n c) l ∧ Ext W x1 ∧ x1.cell? ⟨G, q + 1, none⟩ = some (.int .i64 y) ∧ x1.cell? ⟨G, j, none⟩ = some (.int .i64 z) ∧ x1.frozen? ⟨G, q + 1, none⟩ = false ∧ x1.frozen? ⟨G, j, none⟩ = false from by
              obtain ⟨cs, t, hb, hne, hnT⟩ := StrB.bt HS.out
              have h := HO.out.grownT hg1 (RowT.blk hb) hne hnT (fun k hk => by cases hk; exact hg)
              exact ⟨h, ext_rowK HX.out hg1 hg, h.cellI hy, h.cellI hz, h.freeI (by rw [HL.out]; omega) _, h.freeI (by rw [HL.out]; omega) _⟩)
            have HG := Lib.hid (show some g ≠ some G from by
              obtain ⟨cs, t, hb, hne, hnT⟩ := StrB.bt HS.out
              exact fun e => (HO.out.row.ne (RowT.blk hb) hne G rfl) e.symm)
            have HC3 := Lib.hid fun (x1 : World) (hg1 : wr.grownBy x1 (some g)) => (show (∃ v, (x1.setCell ⟨G, q + 1, none⟩ (.int .i64 z)).cell? ⟨G, j, none⟩ = some v) ∧ (x1.setCell ⟨G, q + 1, none⟩ (.int .i64 z)).frozen? ⟨G, j, none⟩ = false from by
              have h := (HCC.out x1 hg1).1.setI (i := q + 1) (by rw [HL.out]; omega) z (Nat.le_refl _)
              obtain ⟨y2, hy2⟩ : ∃ y2, (l.set (q + 1) z)[j]? = some y2 := ⟨_, List.getElem?_eq_getElem (by rw [List.length_set, HL.out]; omega)⟩
              exact ⟨⟨_, h.cellI hy2⟩, h.freeI (by rw [List.length_set, HL.out]; omega) _⟩)
            have hj : (j : Int) ≤ q + 1 := by omega
            clear hnx hNN hy hz
            go_wp2_with (go_at_call 22; refine HN2.out.mono ?_; rintro e x1 ⟨rfl, hs1, hg1⟩
                         obtain ⟨hO1, hX1, c1, c2, f1, f2⟩ := HCC.out x1 hg1
                         obtain ⟨⟨v4, c4⟩, c3⟩ := HC3.out x1 hg1)
            go_roundw
            case rel => exact ⟨q, (l.set (q + 1) z).set j y, P, by omega, rfl, by rw [List.length_set, List.length_set]; exact HL.out, HNN, (hO1.setI (by rw [HL.out]; omega) z (Nat.le_refl _)).setI (by rw [List.length_set, HL.out]; omega) y (Nat.le_refl _), StrB.gr (StrB.gr hs1 (grownBy_cell _ _ _ _) HG.out) (grownBy_cell _ _ _ _) HG.out, by omega, by omega, Below.setCell (Below.setCell hX1 hGW _) hGW _⟩
            case measure => (simp [intOf] <;> omega)
set_option maxRecDepth 100000 in
set_option maxHeartbeats 2000000 in
theorem POf_any (g : Nat) (seed name : List UInt8) (n : Nat) (w W : World) (hE : Ext W w) (hg : W.heap.size ≤ g) (hB : BB g seed name 0 w) (h32 : seed.length = 32) (hn : name.length ≤ 10000) (h1 : 1 ≤ n) (h60 : n ≤ 60) :
    Calls Tryd.prog 14 #[.int .i64 (n : Int), .pointer (some ⟨g, 0, none⟩)] w fun e w' => ∃ v, e = .returned (.tuple #[v, .int .i64 (errO (drawO seed name n))]) ∧ OrdV W.heap.size w' v (drawO seed name n) ∧ Ext W w' := by
  have HE := Lib.hid hE; have HB := Lib.hid hB
  have HNX := Lib.hid fun (m : Nat) (pos : Int) (u : World) (hu : BB g seed name pos u) (h0 : 0 ≤ pos) (hp : pos ≤ 900000000) (h2 : 2 ≤ m) (hm : m ≤ 60) => BNext_any g seed name pos m u hu h32 hn h0 hp h2 hm
  obtain ⟨D, hD⟩ : ∃ D, drawO seed name n = D := ⟨_, rfl⟩
  have HD := Lib.hid hD
  rw [hD]
  clear hE hB hD
  go_enter Tryd.func14, Tryd.ntmps14
  have hmk := fun W : World => run_make_ints n W (by omega)
  go_wp2_with fail
  clear hmk
  have HF0 := Lib.hid (show OwR intR W.heap.size W.heap.size (w.alloc (.cells (Array.replicate n (JV 0)) 3)) (.slice (some ⟨w.heap.size, 0, none⟩) n n) (fillL n 0) from by
    refine owI_blk ?_ (Below.size HE.out) (length_fillL n 0) (by unfold maxLen; omega)
    rw [fillL_zero, List.map_replicate, show (List.replicate n (JV 0)).toArray = Array.replicate n (JV 0) from by simp]
    exact Blk.new _ _ _)
  go_loopw [7, 21] (fun _ iv wr => ∃ k : Nat, k ≤ n ∧ iv = .int .i64 k ∧ OwR intR W.heap.size W.heap.size wr (.slice (some ⟨w.heap.size, 0, none⟩) n n) (fillL n k) ∧ BB g seed name 0 wr ∧ Ext W wr) (fun _ iv _ => n - (intOf iv).toNat)
  case atStart => exact ⟨0, Nat.zero_le _, rfl, HF0.out, HB.out.below (Ext.alloc _ _), Ext.tr HE.out (Ext.alloc _ _)⟩
  case round =>
    clear HF0
    obtain ⟨k, hk, rfl, hO, hS, hX⟩ := hrel
    have HO := Lib.hid hO; have HS := Lib.hid hS; have HX := Lib.hid hX
    clear hO hS hX
    have HLK := Lib.hid (length_fillL n k)
    have HEW := Lib.hid (show W.heap.size ≤ w.heap.size from Below.size HE.out)
    by_cases hlt : k < n
    · have HIS := Lib.hid (fillL_set n k)
      obtain ⟨y, hy⟩ : ∃ y, (fillL n k)[k]? = some y := ⟨_, List.getElem?_eq_getElem (by rw [HLK.out]; exact hlt)⟩
      have c1 := HO.out.cellI hy
      have f1 := HO.out.freeI (by rw [HLK.out]; omega) k
      clear hy
      go_wp2_with fail
      clear c1 f1
      go_roundw
      case rel => exact ⟨k + 1, by omega, rfl, by rw [← HIS.out]; exact HO.out.setI (by rw [HLK.out]; exact hlt) _ (Nat.le_refl _), BB.gr HS.out (grownBy_cell _ _ _ _) (by
        obtain ⟨cs, t, hb, hne, hnT⟩ := BB.bt HS.out
        exact fun e => (HO.out.row.ne (RowT.blk hb) hne w.heap.size rfl) e.symm), Below.setCell HX.out HEW.out _⟩
      case measure => (simp [intOf] <;> omega)
    · obtain rfl : n = k := by omega
      obtain ⟨G, hGe⟩ : ∃ G, w.heap.size = G := ⟨_, rfl⟩
      have hGW := HEW.out
      have hO := HO.out
      rw [fillL_full, hGe] at hO
      rw [hGe] at hGW ⊢
      have HO2 := Lib.hid (show OwR intR W.heap.size W.heap.size wr (.slice (some ⟨G, 0, none⟩) n n) (idL n) from hO)
      clear hO HO HE HB
      go_wp2_with fail
      go_loopw [8, 9, 10] (fun iv _ _ wr => SwRel (fun u p => BB g seed name p u) W seed name n G n iv wr) (fun iv _ _ _ => (intOf iv).toNat)
      case atStart => exact ⟨n - 1, idL n, 0, Nat.le_refl _, congrArg (Value.int .i64) (by omega), length_idL n, Lib.hid rfl, HO2.out, HS.out, Int.le_refl _, by omega, HX.out⟩
      case round =>
        clear HO2 HS HX
        obtain ⟨m, l, pos, hm, rfl, hl, hN, hO, hS, h0, hp, hX⟩ := hrel
        have HO := Lib.hid hO; have HS := Lib.hid hS; have HX := Lib.hid hX; have HL := Lib.hid hl
        clear hO hS hX hl
        rcases m with _ | q
        · have hDD := HD.out.symm.trans hN.out
          unfold ordF at hDD
          subst hDD
          have HO3 := Lib.hid (show OrdV W.heap.size wr _ (some l) from HO.out)
          go_wp2_with fail
          go_ret2
          exact ⟨_, rfl, HO3.out, HX.out⟩
        · have hnx := HNX.out (q + 2) pos wr HS.out h0 (by omega) (by omega) (by omega)
          rw [show ((q + 2 : Nat) : Int) = ((q + 1 : Nat) : Int) + 1 from by omega] at hnx
          obtain ⟨p0, p1⟩ := nextN_le seed name (q + 2) 64 pos
          rcases ho : (nextN seed name (q + 2) 64 pos).1 with _ | x
          · have hDD := HD.out.symm.trans (hN.out.trans (ordF_none ho))
            subst hDD
            rw [ho] at hnx
            have HN2 := Lib.hid hnx
            clear hnx ho hN
            go_wp2_with (go_at_call 20; refine HN2.out.mono ?_; rintro e x1 ⟨rfl, hs1, hg1⟩)
            go_ret2
            exact ⟨_, rfl, rfl, ext_rowK HX.out hg1 hg⟩
          · obtain ⟨x0, x1⟩ := nextN_lt seed name (q + 2) (by omega) 64 pos x ho
            obtain ⟨j, rfl⟩ : ∃ j : Nat, x = j := ⟨x.toNat, by omega⟩
            have hNN := hN.out.trans (by rw [ordF_some ho])
            rw [ho] at hnx
            clear ho hN
            generalize (nextN seed name (q + 2) 64 pos).2 = P at *
            obtain ⟨y, hy⟩ : ∃ y, l[q + 1]? = some y := ⟨_, List.getElem?_eq_getElem (by rw [HL.out]; omega)⟩
            obtain ⟨z, hz⟩ : ∃ z, l[j]? = some z := ⟨_, List.getElem?_eq_getElem (by rw [HL.out]; omega)⟩
            rw [swL_of hy hz] at hNN
            have HN2 := Lib.hid hnx; have HNN := Lib.hid hNN
            have HCC := Lib.hid fun (x1 : World) (hg1 : wr.grownBy x1 (some g)) => (show OwR intR W.heap.size W.heap.size x1 (.slice (some ⟨G, 0, none⟩) n n) l ∧ Ext W x1 ∧ x1.cell? ⟨G, q + 1, none⟩ = some (.int .i64 y) ∧ x1.cell? ⟨G, j, none⟩ = some (.int .i64 z) ∧ x1.frozen? ⟨G, q + 1, none⟩ = false ∧ x1.frozen? ⟨G, j, none⟩ = false from by
              obtain ⟨cs, t, hb, hne, hnT⟩ := BB.bt HS.out
              have h := HO.out.grownT hg1 (RowT.blk hb) hne hnT (fun k hk => by cases hk; exact hg)
              exact ⟨h, ext_rowK HX.out hg1 hg, h.cellI hy, h.cellI hz, h.freeI (by rw [HL.out]; omega) _, h.freeI (by rw [HL.out]; omega) _⟩)
            have HG := Lib.hid (show some g ≠ some G from by
              obtain ⟨cs, t, hb, hne, hnT⟩ := BB.bt HS.out
              exact fun e => (HO.out.row.ne (RowT.blk hb) hne G rfl) e.symm)
            have HC3 := Lib.hid fun (x1 : World) (hg1 : wr.grownBy x1 (some g)) => (show (∃ v, (x1.setCell ⟨G, q + 1, none⟩ (.int .i64 z)).cell? ⟨G, j, none⟩ = some v) ∧ (x1.setCell ⟨G, q + 1, none⟩ (.int .i64 z)).frozen? ⟨G, j, none⟩ = false from by
              have h := (HCC.out x1 hg1).1.setI (i := q + 1) (by rw [HL.out]; omega) z (Nat.le_refl _)
              obtain ⟨y2, hy2⟩ : ∃ y2, (l.set (q + 1) z)[j]? = some y2 := ⟨_, List.getElem?_eq_getElem (by rw [List.length_set, HL.out]; omega)⟩
              exact ⟨⟨_, h.cellI hy2⟩, h.freeI (by rw [List.length_set, HL.out]; omega) _⟩)
            have hj : (j : Int) ≤ q + 1 := by omega
            clear hnx hNN hy hz
            go_wp2_with (go_at_call 20; refine HN2.out.mono ?_; rintro e x1 ⟨rfl, hs1, hg1⟩
                         obtain ⟨hO1, hX1, c1, c2, f1, f2⟩ := HCC.out x1 hg1)
            have hst : Stab (fun u : World => 0 ≤ u.heap.size) := fun _ _ _ _ => Nat.zero_le _
            have hk : HoldT (fun u : World => 0 ≤ u.heap.size) x1 x1.drew := HoldT.drew hst ⟨Nat.zero_le _, Ext.refl _⟩
            have HO1 := Lib.hid hO1; have HS1 := Lib.hid hs1; have HX1 := Lib.hid hX1
            have HU := Lib.hid fun (u : World) (e : Ext x1 u) => (show u.cell? ⟨G, q + 1, none⟩ = some (.int .i64 y) ∧ u.cell? ⟨G, j, none⟩ = some (.int .i64 z) ∧ u.frozen? ⟨G, q + 1, none⟩ = false from
              ⟨(Below.cell e (World.block_lt_of_cell? _ _ c1)).trans c1, (Below.cell e (World.block_lt_of_cell? _ _ c2)).trans c2, (HO1.out.ext e).freeI (by rw [HL.out]; omega) _⟩)
            have HV := Lib.hid fun (u x5 : World) (e : Ext x1 u) (e5 : x5 = u.setCell ⟨G, q + 1, none⟩ (JV z)) => (show OwR intR W.heap.size W.heap.size x5 (.slice (some ⟨G, 0, none⟩) n n) (l.set (q + 1) z) ∧ BB g seed name P x5 ∧ Ext W x5 from by
              subst e5
              exact ⟨(HO1.out.ext e).setI (by rw [HL.out]; omega) z (Nat.le_refl _), BB.gr (HS1.out.below e) (grownBy_cell _ _ _ _) HG.out, Below.setCell (Ext.tr HX1.out e) hGW _⟩)
            have HC5 := Lib.hid fun (x5 u : World) (h : OwR intR W.heap.size W.heap.size x5 (.slice (some ⟨G, 0, none⟩) n n) (l.set (q + 1) z)) (e : Ext x5 u) => (show (∃ v, u.cell? ⟨G, j, none⟩ = some v) ∧ u.frozen? ⟨G, j, none⟩ = false from by
              obtain ⟨y2, hy2⟩ : ∃ y2, (l.set (q + 1) z)[j]? = some y2 := ⟨_, List.getElem?_eq_getElem (by rw [List.length_set, HL.out]; omega)⟩
              exact ⟨⟨_, (h.ext e).cellI hy2⟩, (h.ext e).freeI (by rw [List.length_set, HL.out]; omega) _⟩)
            have HW := Lib.hid fun (x5 u x6 : World) (h : OwR intR W.heap.size W.heap.size x5 (.slice (some ⟨G, 0, none⟩) n n) (l.set (q + 1) z) ∧ BB g seed name P x5 ∧ Ext W x5) (e : Ext x5 u) (e6 : x6 = u.setCell ⟨G, j, none⟩ (JV y)) => (show OwR intR W.heap.size W.heap.size x6 (.slice (some ⟨G, 0, none⟩) n n) ((l.set (q + 1) z).set j y) ∧ BB g seed name P x6 ∧ Ext W x6 from by
              subst e6
              exact ⟨(h.1.ext e).setI (by rw [List.length_set, HL.out]; omega) y (Nat.le_refl _), BB.gr (h.2.1.below e) (grownBy_cell _ _ _ _) HG.out, Below.setCell (Ext.tr h.2.2 e) hGW _⟩)
            clear c1 c2 f1 f2 hO1 hs1 hX1
            try change Code.wp _ _ _ (Act.mk _ _) _
            haveI hne_ : Nonempty (InC (fun u => 0 ≤ u.heap.size)) := ⟨⟨_, (hk).1⟩⟩
            refine wp_region_tr (C := fun w_ => ∃ e_ : InC (fun u => 0 ≤ u.heap.size), w_ = e_.u) (.step [0, 1, 2, 3, 4, 5, 6, 8, 9, 10] (.alt 7 (.step [] (.alt 11 (.step [12] (.alt 13 (.step [14] (.alt 15 (.fin []) .nil)) .nil)) .nil)) (.alt 11 (.step [] (.alt 7 (.step [12] (.alt 13 (.step [14] (.alt 15 (.fin []) .nil)) .nil)) .nil)) .nil))) (by kernel_rfl) (by kernel_rfl) (fun _ _ _ _ hd_ h_ => ⟨hd_.symm.trans h_.1, h_.2⟩) ⟨⟨World.drew _, (hk).1⟩, rfl⟩ ?_
            have hk_ := hk
            repeat' (first
              | ((with_reducible refine wpTr_fin ?_)
                 simp only [pickOps, List.flatMap_cons, List.flatMap_nil, List.drop_succ_cons, List.drop_zero, List.take_succ_cons, List.take_zero, List.cons_append, List.nil_append, List.append_nil]
                 repeat (go_big_quiet_step (exact rfl))
                 refine wpQuiet_nil ?_)
              | ((with_reducible refine wpTr_step ?_); simp only [pickOps, List.flatMap_cons, List.flatMap_nil, List.drop_succ_cons, List.drop_zero, List.take_succ_cons, List.take_zero, List.cons_append, List.nil_append, List.append_nil]; repeat (go_big_quiet_step (exact rfl))
                 refine wpQuiet_nil ?_)
              | (with_reducible refine wpTr_one ?_)
              | (with_reducible refine wpTr_alt ?_ ?_)
              | (simp only [pickOps, List.flatMap_cons, List.flatMap_nil, List.drop_succ_cons, List.drop_zero, List.take_succ_cons, List.take_zero, List.cons_append, List.nil_append, List.append_nil]
                 go_wp2_with (first
                | (refine wpList_loadI rfl _ rfl G (q + 1) rfl y (HU.out _ hk_.up).1 ?_)
                | (refine wpList_loadI rfl _ rfl G j rfl z (HU.out _ hk_.up).2.1 ?_)
                | (refine wpList_setI rfl _ _ rfl G (q + 1) rfl z rfl _ (HU.out _ hk_.up).1 (HU.out _ hk_.up).2.2 ?_; intro x5 e5
                   have h5 := HV.out _ x5 hk_.up e5
                   have hk5 : HoldT (fun u : World => 0 ≤ u.heap.size) x5 x5 := ⟨Nat.zero_le _, Ext.refl _⟩
                   clear e5)
                | (obtain ⟨⟨v6, c6⟩, f6⟩ := HC5.out _ _ h5.1 hk_.up
                   refine wpList_setI rfl _ _ rfl G j rfl y rfl _ c6 f6 ?_; intro x6 e6
                   have h6 := HW.out _ _ x6 h5 hk_.up e6
                   have hk6 : HoldT (fun u : World => 0 ≤ u.heap.size) x6 x6 := ⟨Nat.zero_le _, Ext.refl _⟩
                   clear e6 c6 f6))
                 refine phPost_hold (by first | with_reducible assumption | exact HoldT.alloc hstab (by with_reducible assumption) _ | exact HoldT.alloc hstab (HoldT.alloc hstab (by with_reducible assumption) _) _) ?_
                 intro hk_))
            all_goals (
              go_wp2_with fail
              go_roundw
              case rel => exact ⟨q, (l.set (q + 1) z).set j y, P, by omega, rfl, by rw [List.length_set, List.length_set]; exact HL.out, HNN, h6.1, h6.2.1, by omega, by omega, h6.2.2⟩
              case measure => (simp [intOf] <;> omega))
end Go.Proofs.YtmbgcjfmfkddpaaDoor
