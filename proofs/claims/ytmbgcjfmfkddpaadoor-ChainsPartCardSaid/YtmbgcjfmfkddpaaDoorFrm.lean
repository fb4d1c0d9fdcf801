/-
  All chains: both programs.
-/
import Derived.Test.YtmbgcjfmfkddpaaDoorCal
namespace Go.Proofs.YtmbgcjfmfkddpaaDoor
set_option linter.unusedVariables false
set_option linter.unusedSimpArgs false
open Go Go.RowKit

/-- The first chains, until one fails. -/
def formF (seed : List UInt8) (s k : Int) : Nat → List (List Int) × Int
  | 0 => ([], 0)
  | n + 1 => if (formF seed s k n).2 = 0 then (if oneE seed s n k = 0 then ((formF seed s k n).1 ++ [oneL seed s n k], 0) else ([], oneE seed s n k)) else formF seed s k n
theorem formF_ok {seed : List UInt8} {s k : Int} {n : Nat} {ls : List (List Int)} (h : formF seed s k n = (ls, 0)) (h0 : oneE seed s n k = 0) : formF seed s k (n + 1) = (ls ++ [oneL seed s n k], 0) := by
  rw [formF, h, if_pos rfl, if_pos h0]
theorem formF_no {seed : List UInt8} {s k : Int} {n : Nat} {ls : List (List Int)} (h : formF seed s k n = (ls, 0)) (h0 : oneE seed s n k ≠ 0) : ∀ m, n < m → formF seed s k m = ([], oneE seed s n k) := by
  intro m hm
  induction m with
  | zero => omega
  | succ m ih =>
    by_cases e : n = m
    · subst e; rw [formF, h, if_pos rfl, if_neg h0]
    · rw [formF, ih (by omega), if_neg h0]
theorem formF_len {seed : List UInt8} {s k : Int} : ∀ {n : Nat} {ls : List (List Int)}, formF seed s k n = (ls, 0) → ls.length = n ∧ ∀ i, i < n → oneE seed s i k = 0 ∧ ls[i]? = some (oneL seed s i k)
  | 0, ls, h => by unfold formF at h; cases h; exact ⟨rfl, fun i hi => by omega⟩
  | n + 1, ls, h => by
    rw [formF] at h
    split at h
    · rename_i h1
      split at h
      · rename_i h2
        obtain ⟨l1, l2⟩ := formF_len (n := n) (ls := (formF seed s k n).1) (by rw [← h1])
        cases h
        refine ⟨by rw [List.length_append, l1]; rfl, fun i hi => ?_⟩
        by_cases e : i = n
        · subst e
          exact ⟨h2, by rw [List.getElem?_append_right (by omega), l1, Nat.sub_self]; rfl⟩
        · obtain ⟨a, b⟩ := l2 i (by omega)
          exact ⟨a, by rw [List.getElem?_append_left (by omega)]; exact b⟩
      · rename_i h2; exact absurd (Prod.mk.inj h).2 h2
    · rename_i h1; rw [h] at h1; exact absurd rfl h1
theorem formF_nil {seed : List UInt8} {s k : Int} : ∀ {n : Nat}, (formF seed s k n).2 ≠ 0 → (formF seed s k n).1 = [] ∧ ∃ c : Nat, c < n ∧ (formF seed s k n).2 = oneE seed s c k
  | 0, h => absurd rfl h
  | n + 1, h => by
    rw [formF] at h ⊢
    split at h
    · rename_i h1
      rw [if_pos h1]
      split at h
      · exact absurd rfl h
      · rename_i h2; rw [if_neg h2]; exact ⟨rfl, n, by omega, rfl⟩
    · rename_i h1
      rw [if_neg h1]
      obtain ⟨a, c, hc, e⟩ := formF_nil h
      exact ⟨a, c, by omega, e⟩
def formS (seed : List UInt8) (s n k : Int) : List (List Int) × Int := if 1 ≤ n ∧ n ≤ 1000 then formF seed s k n.toNat else ([], 1)
def intsR : Rp (List Int) := intR.sl 25
theorem info_ints4 : (Tryd.prog.info? 25).map (fun i => (i.zero, i.size, i.bytes)) = some (some (.slice none 0 0), 1, 24) := by kernel_rfl
theorem appII {W w : World} {ops : Array Oper} {rest : List Oper} {o : Oper} {a : Act} {Q : Exit → Act → World → Prop} (hgd : o.guard = none) (s x : Operand)
    (ho : o.op = .call { callee := .builtin .append, args := #[s, x], argTypes := #[34, 34] })
    {B : Nat} (hBW : B ≤ W.heap.size) (v : Value) (l : List (List Int)) (hs : a.eval s = v) (hown : OwR intsR B W.heap.size w v l) (vx : Value) (l' : List (List Int)) (hx : a.eval x = vx) (hsee : SlR intsR B w vx l')
    (hl : l.length + l'.length ≤ 1000000000) (hW : Below W.heap.size W w)
    (h : ∀ v' w', OwR intsR B W.heap.size w' v' (l ++ l') → w.grownBy w' v.ownBlock → Below W.heap.size W w' → wpList Tryd.prog ops Q rest (a.put o.dst v') w') : wpList Tryd.prog ops Q (o :: rest) a w :=
  appR intsR hgd s x 34 ho Tryd.underlying34 info_ints4 rfl (by decide) (by decide) hBW v l hs hown vx l' hx hsee hl hW h
def RetII (r : List (List Int) × Int) (w : World) (x : Ending) (w' : World) : Prop := ∃ v, x = .returned (.tuple #[v, .int .i64 r.2]) ∧ OwR intsR 0 w.heap.size w' v r.1 ∧ Below w.heap.size w w'
def FoRel (w : World) (seed : List UInt8) (s k : Int) (N : Nat) (v iv : Value) (wr : World) : Prop :=
  ∃ (n : Nat) (ls : List (List Int)), n ≤ N ∧ iv = .int .i64 n ∧ Hid (formF seed s k n = (ls, 0)) ∧ OwR intsR 0 w.heap.size wr v ls ∧ Ext w wr
set_option maxRecDepth 100000 in
set_option maxHeartbeats 2000000 in
theorem Form_any (seed : List UInt8) (s n k : Int) (w : World) (h32 : seed.length = 32) (hs : ¬ (60 < s ∧ s ≤ 1000)) (hn : ¬ (20 < n ∧ n ≤ 1000))  :
    Calls Tryd.prog 11 #[.agg (keyA seed), .int .i64 s, .int .i64 n, .int .i64 k] w (RetII (formS seed s n k) w) := by
  unfold RetII
  have hb0 := Lib.hid (show Ext w (w.alloc (.cells (keyA seed) 23)) from Ext.alloc _ _)
  have hk0 := Lib.hid (Blk.new w (keyA seed) 23)
  have HK := Lib.hid h32
  by_cases hn1 : 1 ≤ n ∧ n ≤ 1000
  · obtain ⟨N, rfl⟩ : ∃ N : Nat, n = N := ⟨n.toNat, by omega⟩
    have HFS := Lib.hid (show formS seed s N k = formF seed s k N by unfold formS; rw [if_pos hn1, Int.toNat_natCast])
    have hN20 : N ≤ 20 := by omega
    have HON := Lib.hid fun (c : Nat) (u : World) (e : Ext w u) (hc : c < N) => One_all seed s (c : Int) k u h32 hs ⟨by omega, by omega⟩ (itoa_small u c (by omega) (by omega))
    unfold RetI at HON
    have d1 : ¬ (N : Int) < 1 := by omega
    have d2 : ¬ (1000 : Int) < (N : Int) := by omega
    clear hn hs hn1 h32
    generalize formS seed s N k = FS at *
    go_enter Tryd.func11, Tryd.ntmps11
    go_wp2_with fail
    go_loopw [10, 11, 12, 13, 21] (fun v _ _ _ iv wr => FoRel w seed s k N v iv wr ∧ Hid (Blk wr w.heap.size (keyA seed) 23)) (fun _ _ _ _ iv _ => N - (intOf iv).toNat)
    case atStart => exact ⟨⟨0, [], by omega, rfl, Lib.hid rfl, OwR.nil _ _ _, hb0.out⟩, hk0⟩
    case round =>
      obtain ⟨⟨n, ls, hn20, rfl, HF, hO, hX⟩, HB⟩ := hrel
      obtain ⟨a, c, rfl, -, -⟩ := hO.form
      have HO := Lib.hid hO; have HX := Lib.hid hX
      clear hO hX
      have HLS := Lib.hid (formF_len HF.out).1
      by_cases hlt : n < N
      · have HOA := Lib.hid (HON.out n _ HX.out hlt)
        have HL20 := Lib.hid (oneL_len_le seed s n k)
        have hkb := HB.out
        by_cases he : oneE seed s n k = 0
        · have HFN := Lib.hid (formF_ok HF.out he)
          rw [he] at HOA
          generalize oneL seed s n k = L at *
          generalize hLs : ls.length = m at *
          go_wp2_with (first
            | (refine wpList_load_row rfl 23 _ rfl w.heap.size rfl _ (keyA seed) (0, 0) _ hkb under_key rfl (by rw [keyA_size, HK.out]; exact info_key) ?_)
            | (go_at_call 7; refine HOA.out.mono ?_; rintro e w1 ⟨v1, rfl, hv1, hb1⟩
               obtain ⟨a1, c1, rfl, -, -⟩ := hv1.form
               have HV1 := Lib.hid hv1; have hb1 : Ext wr w1 := hb1; clear hv1)
            | (at_builtin; refine appII (W := w) (B := 0) rfl _ _ rfl (Nat.zero_le _) _ ls rfl (HO.out.ext (Ext.tr hb1 (Ext.alloc _ _))) (.slice (some ⟨w1.heap.size, 0, none⟩) 1 1) [L] rfl (SlR.lit1 (R := intsR) (y := L) (c := [.slice a1 L.length c1]) ⟨_, rfl, HV1.out⟩) (by have := HLS.out; simp only [List.length_cons, List.length_nil]; omega) (Ext.tr HX.out (Ext.tr hb1 (Ext.alloc _ _))) ?_; intro v2 w2 hown2 hg2 hbl2; have hK2 := Blk.grownT (hkb.below (Ext.tr hb1 (Ext.alloc _ _))) hg2 (HO.out.ext (Ext.tr hb1 (Ext.alloc w1 (.cells #[.slice a1 L.length c1] intsR.ty)))).row (by decide)))
          go_roundw
          case rel => exact ⟨⟨n + 1, _, by omega, rfl, HFN, hown2, hbl2⟩, Lib.hid hK2⟩
          case measure => (simp [intOf] <;> omega)
        · have HFN := Lib.hid (formF_no HF.out he N hlt)
          have hL0 := oneL_zero he
          rw [hL0] at HOA
          generalize oneE seed s n k = E at *
          have HE := Lib.hid (HFS.out.trans HFN.out)
          clear hL0
          go_wp2_with (first
            | (refine wpList_load_row rfl 23 _ rfl w.heap.size rfl _ (keyA seed) (0, 0) _ hkb under_key rfl (by rw [keyA_size, HK.out]; exact info_key) ?_)
            | (go_at_call 7; refine HOA.out.mono ?_; rintro e w1 ⟨v1, rfl, -, hb1⟩; have hb1 : Ext wr w1 := hb1))
          go_ret2
          rw [HE.out]
          exact ⟨_, rfl, OwR.nil _ _ _, Ext.tr HX.out hb1⟩
      · obtain rfl : N = n := by omega
        have HE := Lib.hid (HFS.out.trans HF.out)
        go_wp2_with fail
        go_ret2
        rw [HE.out]
        exact ⟨_, rfl, HO.out, HX.out⟩
  · have HFS := Lib.hid (show formS seed s n k = ([], 1) by unfold formS; rw [if_neg hn1])
    have HN := Lib.hid hn1
    clear hn hn1
    go_enter Tryd.func11, Tryd.ntmps11
    go_wp2_with fail
    all_goals (first | (exfalso; have := HN.out; omega) | (go_ret2; rw [HFS.out]; exact ⟨_, rfl, OwR.nil _ _ _, hb0.out⟩))
set_option maxRecDepth 100000 in
set_option maxHeartbeats 2000000 in
theorem Formr_any (seed : List UInt8) (s n k : Int) (w : World) (h32 : seed.length = 32) (hs : ¬ (60 < s ∧ s ≤ 1000)) (hn : ¬ (20 < n ∧ n ≤ 1000))  :
    Calls Tryd.prog 12 #[.agg (keyA seed), .int .i64 s, .int .i64 n, .int .i64 k] w (RetII (formS seed s n k) w) := by
  unfold RetII
  have hb0 := Lib.hid (show Ext w (w.alloc (.cells (keyA seed) 23)) from Ext.alloc _ _)
  have hk0 := Lib.hid (Blk.new w (keyA seed) 23)
  have HK := Lib.hid h32
  by_cases hn1 : 1 ≤ n ∧ n ≤ 1000
  · obtain ⟨N, rfl⟩ : ∃ N : Nat, n = N := ⟨n.toNat, by omega⟩
    have HFS := Lib.hid (show formS seed s N k = formF seed s k N by unfold formS; rw [if_pos hn1, Int.toNat_natCast])
    have hN20 : N ≤ 20 := by omega
    have HON := Lib.hid fun (c : Nat) (u : World) (e : Ext w u) (hc : c < N) => Oner_all seed s (c : Int) k u h32 hs ⟨by omega, by omega⟩ 
    unfold RetI at HON
    have d1 : ¬ (N : Int) < 1 := by omega
    have d2 : ¬ (1000 : Int) < (N : Int) := by omega
    clear hn hs hn1 h32
    generalize formS seed s N k = FS at *
    go_enter Tryd.func12, Tryd.ntmps12
    go_wp2_with fail
    go_loopw [10, 11, 12, 13] (fun v iv _ _ wr => FoRel w seed s k N v iv wr ∧ Hid (Blk wr w.heap.size (keyA seed) 23)) (fun _ iv _ _ _ => N - (intOf iv).toNat)
    case atStart => exact ⟨⟨0, [], by omega, rfl, Lib.hid rfl, OwR.nil _ _ _, hb0.out⟩, hk0⟩
    case round =>
      obtain ⟨⟨n, ls, hn20, rfl, HF, hO, hX⟩, HB⟩ := hrel
      obtain ⟨a, c, rfl, -, -⟩ := hO.form
      have HO := Lib.hid hO; have HX := Lib.hid hX
      clear hO hX
      have HLS := Lib.hid (formF_len HF.out).1
      by_cases hlt : n < N
      · have HOA := Lib.hid (HON.out n _ HX.out hlt)
        have HL20 := Lib.hid (oneL_len_le seed s n k)
        have hkb := HB.out
        by_cases he : oneE seed s n k = 0
        · have HFN := Lib.hid (formF_ok HF.out he)
          rw [he] at HOA
          generalize oneL seed s n k = L at *
          generalize hLs : ls.length = m at *
          go_wp2_with (first
            | (refine wpList_load_row rfl 23 _ rfl w.heap.size rfl _ (keyA seed) (0, 0) _ hkb under_key rfl (by rw [keyA_size, HK.out]; exact info_key) ?_)
            | (go_at_call 8; refine HOA.out.mono ?_; rintro e w1 ⟨v1, rfl, hv1, hb1⟩
               obtain ⟨a1, c1, rfl, -, -⟩ := hv1.form
               have HV1 := Lib.hid hv1; have hb1 : Ext wr w1 := hb1; clear hv1)
            | (at_builtin; refine appII (W := w) (B := 0) rfl _ _ rfl (Nat.zero_le _) _ ls rfl (HO.out.ext (Ext.tr hb1 (Ext.alloc _ _))) (.slice (some ⟨w1.heap.size, 0, none⟩) 1 1) [L] rfl (SlR.lit1 (R := intsR) (y := L) (c := [.slice a1 L.length c1]) ⟨_, rfl, HV1.out⟩) (by have := HLS.out; simp only [List.length_cons, List.length_nil]; omega) (Ext.tr HX.out (Ext.tr hb1 (Ext.alloc _ _))) ?_; intro v2 w2 hown2 hg2 hbl2; have hK2 := Blk.grownT (hkb.below (Ext.tr hb1 (Ext.alloc _ _))) hg2 (HO.out.ext (Ext.tr hb1 (Ext.alloc w1 (.cells #[.slice a1 L.length c1] intsR.ty)))).row (by decide)))
          go_roundw
          case rel => exact ⟨⟨n + 1, _, by omega, rfl, HFN, hown2, hbl2⟩, Lib.hid hK2⟩
          case measure => (simp [intOf] <;> omega)
        · have HFN := Lib.hid (formF_no HF.out he N hlt)
          have hL0 := oneL_zero he
          rw [hL0] at HOA
          generalize oneE seed s n k = E at *
          have HE := Lib.hid (HFS.out.trans HFN.out)
          clear hL0
          go_wp2_with (first
            | (refine wpList_load_row rfl 23 _ rfl w.heap.size rfl _ (keyA seed) (0, 0) _ hkb under_key rfl (by rw [keyA_size, HK.out]; exact info_key) ?_)
            | (go_at_call 8; refine HOA.out.mono ?_; rintro e w1 ⟨v1, rfl, -, hb1⟩; have hb1 : Ext wr w1 := hb1))
          go_ret2
          rw [HE.out]
          exact ⟨_, rfl, OwR.nil _ _ _, Ext.tr HX.out hb1⟩
      · obtain rfl : N = n := by omega
        have HE := Lib.hid (HFS.out.trans HF.out)
        go_wp2_with fail
        go_ret2
        rw [HE.out]
        exact ⟨_, rfl, HO.out, HX.out⟩
  · have HFS := Lib.hid (show formS seed s n k = ([], 1) by unfold formS; rw [if_neg hn1])
    have HN := Lib.hid hn1
    clear hn hn1
    go_enter Tryd.func12, Tryd.ntmps12
    go_wp2_with fail
    all_goals (first | (exfalso; have := HN.out; omega) | (go_ret2; rw [HFS.out]; exact ⟨_, rfl, OwR.nil _ _ _, hb0.out⟩))
end Go.Proofs.YtmbgcjfmfkddpaaDoor
