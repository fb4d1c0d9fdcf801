/-
  One chain: both programs.
-/
import Derived.Test.YtmbgcjfmfkddpaaDoorOrdr
import Derived.Test.YtmbgcjfmfkddpaaDoorNam
namespace Go.Proofs.YtmbgcjfmfkddpaaDoor
set_option linter.unusedVariables false
set_option linter.unusedSimpArgs false
open Go Go.RowKit

def chainW : List UInt8 := [99, 104, 97, 105, 110, 32]
def chainS (c : Int) : List UInt8 := chainW ++ decI c
def oneO (seed : List UInt8) (servers : Nat) (c : Int) : Option (List Int) := drawO seed (chainS c) servers
/-- What One hands back. -/
def OneV (w : World) (v : Value) (k : Nat) : Option (List Int) → Prop
  | some l => SlR intR 0 w v (l.take k)
  | none => v = .slice none 0 0
theorem SlR.take {α : Type} {R : Rp α} {B : Nat} {w : World} {a : Option Addr} {n c : Nat} {l : List α} (h : SlR R B w (.slice a n c) l) (k c' : Nat) (hk : k ≤ l.length) (hkc : k ≤ c') (hcc : c' ≤ c) : SlR R B w (.slice a k c') (l.take k) := by
  have hlen : (l.take k).length = k := by rw [List.length_take]; omega
  obtain ⟨chs, h1, ⟨hl, a', c1, he, hc, hm, hnc, hb⟩, hz⟩ := h
  injection he with e1 e2 e3
  subst e1; subst e3
  have hcl := h1.1
  have hf : ∀ (L : List (List Value)) (m : Nat), (∀ x ∈ L, x.length = R.sz) → (L.take m).flatten = L.flatten.take (m * R.sz) := fun L => by
    induction L with
    | nil => intro m _; simp
    | cons x L ih =>
      intro m hx
      cases m with
      | zero => simp
      | succ m =>
        have hx0 := hx x (by simp)
        rw [List.take_succ_cons, List.flatten_cons, List.flatten_cons, ih m (fun y hy => hx y (by simp [hy])), List.take_append, List.take_of_length_le (l := x) (by rw [hx0, Nat.succ_mul]; omega), hx0, show (m + 1) * R.sz - R.sz = m * R.sz from by rw [Nat.succ_mul]; omega]
  refine ⟨chs.take k, ⟨by rw [List.length_take, List.length_take, hcl], fun i ch b hi hb2 => ?_⟩, ?_, ?_⟩
  · rw [List.getElem?_take] at hi hb2
    split at hi
    · rename_i hik
      rw [if_pos hik] at hb2
      exact h1.2 i ch b hi hb2
    · cases hi
  · rw [hlen, hf chs k h1.lens]
    refine ⟨by rw [List.length_take, hl, Nat.min_eq_left (Nat.mul_le_mul_right _ hk)], _, c', rfl, by omega, Nat.le_trans hcc hm, fun e => by have := hnc e; omega, fun h0 => ?_⟩
    obtain ⟨b, o, e, hcell⟩ := hb (by omega)
    refine ⟨b, o, e, fun j u hj => hcell j u ?_⟩
    rw [List.getElem?_take] at hj
    split at hj
    · exact hj
    · cases hj
  · intro h0 b hb2
    exact hz (by omega) b (by cases a <;> exact hb2)
theorem ordF_len (seed name : List UInt8) : ∀ (i : Nat) (l : List Int) (pos : Int) (r : List Int), (ordF seed name i l pos).1 = some r → r.length = l.length
  | 0, l, pos, r, h => by unfold ordF at h; cases h; rfl
  | i + 1, l, pos, r, h => by
    unfold ordF at h
    split at h
    · cases h
    · rw [ordF_len seed name i _ _ r h, length_swL]
theorem drawO_len {seed name : List UInt8} {n : Nat} {r : List Int} (h : drawO seed name n = some r) : r.length = n := by
  have := ordF_len seed name _ _ _ r h
  rwa [length_idL] at this
theorem length_chainS (c : Int) (h : inI c) : (chainS c).length ≤ 10000 := by
  have := length_decI c h
  unfold chainS chainW; rw [List.length_append]
  simp only [List.length_cons, List.length_nil]; omega
theorem decOk (c : Int) (hc : inI c) (w : World) : ∀ u, Ext w u → Calls Tryd.prog 19 #[.int .i64 c] u fun e u' => e = .returned (strL (decI c)) ∧ Ext u u' := fun u _ => by
  refine (Dec_any c u hc).mono ?_
  rintro e u' ⟨rfl, rfl⟩
  exact ⟨rfl, Ext.refl _⟩
set_option maxRecDepth 100000 in
set_option maxHeartbeats 2000000 in
theorem One_any (seed : List UInt8) (servers k : Nat) (c : Int) (w : World) (h32 : seed.length = 32) (h1 : 1 ≤ servers) (h60 : servers ≤ 60) (hk1 : 1 ≤ k) (hk20 : k ≤ 20) (hks : k ≤ servers) (hc : 0 ≤ c) (hci : inI c) (hit : ItoaOk w c) :
    Calls Tryd.prog 7 #[.agg (keyA seed), .int .i64 (servers : Int), .int .i64 c, .int .i64 (k : Int)] w fun e w' => ∃ v, e = .returned (.tuple #[v, .int .i64 (errO (oneO seed servers c))]) ∧ OneV w' v k (oneO seed servers c) ∧ Below w.heap.size w w' := by
  have HK := Lib.hid h32
  have HIT := Lib.hid hit
  have hn := length_chainS c hci
  have hb0 := Lib.hid (show Ext w (w.alloc (.cells (keyA seed) 23)) from Ext.alloc _ _)
  have hk0 := Lib.hid (Blk.new w (keyA seed) 23)
  have HCS := Lib.hid (show chainW ++ decI c = chainS c from rfl)
  have hdl := length_decI c hci
  have ha1 := fun W => run_addL [99, 104, 97, 105, 110, 32] (decI c) (by decide) (by omega) W
  have HOF := Lib.hid fun (W u : World) (g : Nat) (e : Ext W u) (hg : W.heap.size ≤ g) (hB : BB g seed (chainS c) 0 u) => POf_any g seed (chainS c) servers u W e hg hB h32 hn h1 h60
  obtain ⟨D, hD⟩ : ∃ D, oneO seed servers c = D := ⟨_, rfl⟩
  have HD := Lib.hid hD
  rw [show drawO seed (chainS c) servers = D from hD] at HOF
  rw [hD]
  clear hD
  generalize chainS c = CS at *
  go_enter Tryd.func7, Tryd.ntmps7
  go_wp2_with fail
  have hstab := Stab.blk w.heap.size (keyA seed) 23
  have hk : HoldT (fun u => Blk u w.heap.size (keyA seed) 23) w _ := HoldT.drew hstab ⟨hk0.out, hb0.out⟩
  try change Code.wp _ _ _ (Act.mk _ _) _
  haveI hne_ : Nonempty (InC (fun u => Blk u w.heap.size (keyA seed) 23)) := ⟨⟨_, (hk).1⟩⟩
  refine wp_region_tr (C := fun w_ => ∃ e_ : InC (fun u => Blk u w.heap.size (keyA seed) 23), w_ = e_.u) (.step [0, 1, 2] (.alt 3 (.step [4] (.alt 5 (.step [] (.alt 6 (.fin [7, 8, 9, 10, 11]) .nil)) .nil)) .nil)) (by kernel_rfl) (by kernel_rfl) (fun _ _ _ _ hd_ h_ => ⟨hd_.symm.trans h_.1, h_.2⟩) ⟨⟨World.drew _, (hk).1⟩, rfl⟩ ?_
  have hk_ := hk
  repeat' (first
    | ((with_reducible refine wpTr_fin ?_)
       simp only [pickOps, List.flatMap_cons, List.flatMap_nil, List.drop_succ_cons, List.drop_zero, List.take_succ_cons, List.take_zero, List.cons_append, List.nil_append, List.append_nil]
       repeat (first | ((refine wpQuiet_load_row rfl 23 _ rfl w.heap.size rfl _ (keyA seed) (0, 0) _ (fun w_ hw_ => by obtain ⟨e_, rfl⟩ := hw_; exact e_.has) under_key rfl (by rw [keyA_size, HK.out]; exact info_key) ?_; simp only [Act.put, List.setIfInBounds_toArray, List.set_cons_succ, List.set_cons_zero])) | go_big_quiet_step (exact rfl))
       refine wpQuiet_nil ?_)
    | ((with_reducible refine wpTr_step ?_); simp only [pickOps, List.flatMap_cons, List.flatMap_nil, List.drop_succ_cons, List.drop_zero, List.take_succ_cons, List.take_zero, List.cons_append, List.nil_append, List.append_nil]; repeat (first | ((refine wpQuiet_load_row rfl 23 _ rfl w.heap.size rfl _ (keyA seed) (0, 0) _ (fun w_ hw_ => by obtain ⟨e_, rfl⟩ := hw_; exact e_.has) under_key rfl (by rw [keyA_size, HK.out]; exact info_key) ?_; simp only [Act.put, List.setIfInBounds_toArray, List.set_cons_succ, List.set_cons_zero])) | go_big_quiet_step (exact rfl))
       refine wpQuiet_nil ?_)
    | (with_reducible refine wpTr_one ?_)
    | (with_reducible refine wpTr_alt ?_ ?_)
    | (simp only [pickOps, List.flatMap_cons, List.flatMap_nil, List.drop_succ_cons, List.drop_zero, List.take_succ_cons, List.take_zero, List.cons_append, List.nil_append, List.append_nil]
       go_wp2_with (first
    | (go_at_call 16; refine (HIT.out _ hk_.up).mono ?_; rintro e y1 ⟨rfl, hb1⟩; have e2 : Ext _ y1 := hb1; have hk2 := HoldT.step hstab hk_ hb1)
    | (go_at_call 15; rw [show strL (99 :: 104 :: 97 :: 105 :: 110 :: 32 :: decI c) = strL CS from congrArg strL HCS.out]; refine (BNew_any seed CS _ HK.out).mono ?_; rintro e y2 ⟨g, rfl, hst, hgl, hb2⟩; have e3 : Ext _ y2 := hb2; have hk3 := HoldT.step hstab hk_ hb2)
    | (go_at_call 14; refine (HOF.out _ _ g e3 hgl hst).mono ?_; rintro e y3 ⟨v3, rfl, hv3, hb3⟩; have hk4 := HoldT.step hstab hk2 hb3))
       refine phPost_hold (by first | with_reducible assumption | exact HoldT.alloc hstab (by with_reducible assumption) _ | exact HoldT.alloc hstab (HoldT.alloc hstab (by with_reducible assumption) _) _) ?_
       intro hk_))
  have hx3 := Ext.tr hk2.up hb3
  rcases D with _ | l
  · obtain rfl : v3 = .slice none 0 0 := hv3
    go_wp2_with fail
    go_ret2
    exact ⟨_, rfl, rfl, hx3⟩
  · have hv : OwR intR y1.heap.size y1.heap.size y3 v3 l := hv3
    have hll : l.length = servers := drawO_len HD.out
    obtain ⟨a, cc, rfl, hcc, -⟩ := hv.form
    have HS3 := Lib.hid (show SlR intR 0 y3 _ l from (owR_flat (B := 0) (OwR.flat hv)).sl)
    clear hv hv3
    rw [hll] at hcc ⊢
    go_wp2_with fail
    go_ret2
    exact ⟨_, rfl, HS3.out.take k k (by omega) (Nat.le_refl _) (by omega), hx3⟩
set_option maxRecDepth 100000 in
set_option maxHeartbeats 2000000 in
theorem Oner_any (seed : List UInt8) (servers k : Nat) (c : Int) (w : World) (h32 : seed.length = 32) (h1 : 1 ≤ servers) (h60 : servers ≤ 60) (hk1 : 1 ≤ k) (hk20 : k ≤ 20) (hks : k ≤ servers) (hc : 0 ≤ c) (hci : inI c) (hdo : 0 ≤ c) :
    Calls Tryd.prog 8 #[.agg (keyA seed), .int .i64 (servers : Int), .int .i64 c, .int .i64 (k : Int)] w fun e w' => ∃ v, e = .returned (.tuple #[v, .int .i64 (errO (oneO seed servers c))]) ∧ OneV w' v k (oneO seed servers c) ∧ Below w.heap.size w w' := by
  have HK := Lib.hid h32
  have HIT := Lib.hid (decOk c hci w)
  have hn := length_chainS c hci
  have hb0 := Lib.hid (show Ext w (w.alloc (.cells (keyA seed) 23)) from Ext.alloc _ _)
  have hk0 := Lib.hid (Blk.new w (keyA seed) 23)
  have HCS := Lib.hid (show chainW ++ decI c = chainS c from rfl)
  have hdl := length_decI c hci
  have ha1 := fun W => run_addL [99, 104, 97, 105, 110, 32] (decI c) (by decide) (by omega) W
  have HOF := Lib.hid fun (W u : World) (g : Nat) (e : Ext W u) (hg : W.heap.size ≤ g) (hB : StrB g seed (chainS c) 0 u) => Orderr_any g seed (chainS c) servers u W e hg hB h32 hn h1 h60
  obtain ⟨D, hD⟩ : ∃ D, oneO seed servers c = D := ⟨_, rfl⟩
  have HD := Lib.hid hD
  rw [show drawO seed (chainS c) servers = D from hD] at HOF
  rw [hD]
  clear hD
  generalize chainS c = CS at *
  go_enter Tryd.func8, Tryd.ntmps8
  go_wp2_with fail
  have hstab := Stab.blk w.heap.size (keyA seed) 23
  have hk : HoldT (fun u => Blk u w.heap.size (keyA seed) 23) w _ := HoldT.drew hstab ⟨hk0.out, hb0.out⟩
  try change Code.wp _ _ _ (Act.mk _ _) _
  haveI hne_ : Nonempty (InC (fun u => Blk u w.heap.size (keyA seed) 23)) := ⟨⟨_, (hk).1⟩⟩
  refine wp_region_tr (C := fun w_ => ∃ e_ : InC (fun u => Blk u w.heap.size (keyA seed) 23), w_ = e_.u) (.step [0, 1, 2] (.alt 3 (.step [4] (.alt 5 (.step [] (.alt 6 (.fin [7, 8, 9, 10, 11]) .nil)) .nil)) .nil)) (by kernel_rfl) (by kernel_rfl) (fun _ _ _ _ hd_ h_ => ⟨hd_.symm.trans h_.1, h_.2⟩) ⟨⟨World.drew _, (hk).1⟩, rfl⟩ ?_
  have hk_ := hk
  repeat' (first
    | ((with_reducible refine wpTr_fin ?_)
       simp only [pickOps, List.flatMap_cons, List.flatMap_nil, List.drop_succ_cons, List.drop_zero, List.take_succ_cons, List.take_zero, List.cons_append, List.nil_append, List.append_nil]
       repeat (first | ((refine wpQuiet_load_row rfl 23 _ rfl w.heap.size rfl _ (keyA seed) (0, 0) _ (fun w_ hw_ => by obtain ⟨e_, rfl⟩ := hw_; exact e_.has) under_key rfl (by rw [keyA_size, HK.out]; exact info_key) ?_; simp only [Act.put, List.setIfInBounds_toArray, List.set_cons_succ, List.set_cons_zero])) | go_big_quiet_step (exact rfl))
       refine wpQuiet_nil ?_)
    | ((with_reducible refine wpTr_step ?_); simp only [pickOps, List.flatMap_cons, List.flatMap_nil, List.drop_succ_cons, List.drop_zero, List.take_succ_cons, List.take_zero, List.cons_append, List.nil_append, List.append_nil]; repeat (first | ((refine wpQuiet_load_row rfl 23 _ rfl w.heap.size rfl _ (keyA seed) (0, 0) _ (fun w_ hw_ => by obtain ⟨e_, rfl⟩ := hw_; exact e_.has) under_key rfl (by rw [keyA_size, HK.out]; exact info_key) ?_; simp only [Act.put, List.setIfInBounds_toArray, List.set_cons_succ, List.set_cons_zero])) | go_big_quiet_step (exact rfl))
       refine wpQuiet_nil ?_)
    | (with_reducible refine wpTr_one ?_)
    | (with_reducible refine wpTr_alt ?_ ?_)
    | (simp only [pickOps, List.flatMap_cons, List.flatMap_nil, List.drop_succ_cons, List.drop_zero, List.take_succ_cons, List.take_zero, List.cons_append, List.nil_append, List.append_nil]
       go_wp2_with (first
    | (go_at_call 19; refine (HIT.out _ hk_.up).mono ?_; rintro e y1 ⟨rfl, hb1⟩; have e2 : Ext _ y1 := hb1; have hk2 := HoldT.step hstab hk_ hb1)
    | (go_at_call 18; rw [show strL (99 :: 104 :: 97 :: 105 :: 110 :: 32 :: decI c) = strL CS from congrArg strL HCS.out]; refine (NewStreamr_any seed CS _ HK.out).mono ?_; rintro e y2 ⟨g, rfl, hst, hgl, hb2⟩; have e3 : Ext _ y2 := hb2; have hk3 := HoldT.step hstab hk_ hb2)
    | (go_at_call 17; refine (HOF.out _ _ g e3 hgl hst).mono ?_; rintro e y3 ⟨v3, rfl, hv3, hb3⟩; have hk4 := HoldT.step hstab hk2 hb3))
       refine phPost_hold (by first | with_reducible assumption | exact HoldT.alloc hstab (by with_reducible assumption) _ | exact HoldT.alloc hstab (HoldT.alloc hstab (by with_reducible assumption) _) _) ?_
       intro hk_))
  have hx3 := Ext.tr hk2.up hb3
  rcases D with _ | l
  · obtain rfl : v3 = .slice none 0 0 := hv3
    go_wp2_with fail
    go_ret2
    exact ⟨_, rfl, rfl, hx3⟩
  · have hv : OwR intR y1.heap.size y1.heap.size y3 v3 l := hv3
    have hll : l.length = servers := drawO_len HD.out
    obtain ⟨a, cc, rfl, hcc, -⟩ := hv.form
    have HS3 := Lib.hid (show SlR intR 0 y3 _ l from (owR_flat (B := 0) (OwR.flat hv)).sl)
    clear hv hv3
    rw [hll] at hcc ⊢
    have HT := Lib.hid (HS3.out.take k cc (by omega) (by omega) (Nat.le_refl _))
    have HLT := Lib.hid (show (l.take k).length = k from by rw [List.length_take]; omega)
    go_wp2_with (at_builtin; refine appI (W := y3) (B := 0) rfl _ _ rfl (Nat.zero_le _) (.slice none 0 0) [] rfl (OwR.nil _ _ _) (.slice a k cc) (l.take k) rfl HT.out (by rw [HLT.out]; simp only [List.length_nil]; omega) (Ext.refl _) ?_; intro v5 w5 hown5 hg5 hb5; rw [List.nil_append] at hown5)
    go_ret2
    exact ⟨_, rfl, hown5.sl, Ext.tr hx3 hb5⟩
/-- What One takes. -/
def OneOk (servers c k : Int) : Prop := 1 ≤ servers ∧ servers ≤ 1000 ∧ 1 ≤ k ∧ k ≤ 20 ∧ k ≤ servers ∧ 0 ≤ c
set_option maxRecDepth 100000 in
set_option maxHeartbeats 2000000 in
theorem One_bad (key : Array Value) (servers c k : Int) (w : World) (h : ¬ OneOk servers c k) :
    Calls Tryd.prog 7 #[.agg key, .int .i64 servers, .int .i64 c, .int .i64 k] w fun e w' => e = .returned (.tuple #[.slice none 0 0, .int .i64 1]) ∧ Below w.heap.size w w' := by
  unfold OneOk at h
  have hb0 := Lib.hid (show Ext w (w.alloc (.cells key 23)) from Ext.alloc _ _)
  have HH := Lib.hid h
  clear h
  go_enter Tryd.func7, Tryd.ntmps7
  go_wp2_with fail
  all_goals (first | (exfalso; have := HH.out; omega) | (go_ret2; exact ⟨rfl, hb0.out⟩))
set_option maxRecDepth 100000 in
set_option maxHeartbeats 2000000 in
theorem Oner_bad (key : Array Value) (servers c k : Int) (w : World) (h : ¬ OneOk servers c k) :
    Calls Tryd.prog 8 #[.agg key, .int .i64 servers, .int .i64 c, .int .i64 k] w fun e w' => e = .returned (.tuple #[.slice none 0 0, .int .i64 1]) ∧ Below w.heap.size w w' := by
  unfold OneOk at h
  have hb0 := Lib.hid (show Ext w (w.alloc (.cells key 23)) from Ext.alloc _ _)
  have HH := Lib.hid h
  clear h
  go_enter Tryd.func8, Tryd.ntmps8
  go_wp2_with fail
  all_goals (first | (exfalso; have := HH.out; omega) | (go_ret2; exact ⟨rfl, hb0.out⟩))
end Go.Proofs.YtmbgcjfmfkddpaaDoor
