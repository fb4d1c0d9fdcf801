/-
  Streams: the program.
-/
import Derived.Test.YtbgnfioggmkdeaaGreatDoorSet
import Derived.Test.YtbgnfioggmkdeaaGreatDoorPr
import Derived.Test.YtbgnfioggmkdeaaGreatDoorUtl
namespace Go.Proofs.YtbgnfioggmkdeaaGreatDoor
set_option linter.unusedVariables false
set_option linter.unusedSimpArgs false
open Go Go.RowKit

def bstrC (seed name : List UInt8) (i : Int) (sum : List UInt8) : Array Value := (seed.map BV ++ ([strL name, .int .u64 i] ++ sum.map BV)).toArray
abbrev BStr (g : Nat) (seed name : List UInt8) (i : Int) (sum : List UInt8) (u : World) : Prop := Blk u g (bstrC seed name i sum) 222
theorem bstrC_size (seed name : List UInt8) (i : Int) (sum : List UInt8) (h : seed.length = 32) (hs : sum.length = 32) : (bstrC seed name i sum).size = 66 := by simp [bstrC, h, hs]
theorem bs_name {u : World} {g : Nat} {seed name sum : List UInt8} {i : Int} (h : BStr g seed name i sum u) (h32 : seed.length = 32) : u.cell? ⟨g, 32, none⟩ = some (strL name) := by
  rw [h.cell, bstrC, List.getElem?_toArray, List.getElem?_append_right (by simp; omega)]; simp [h32]
theorem bs_i {u : World} {g : Nat} {seed name sum : List UInt8} {i : Int} (h : BStr g seed name i sum u) (h32 : seed.length = 32) : u.cell? ⟨g, 33, none⟩ = some (.int .u64 i) := by
  rw [h.cell, bstrC, List.getElem?_toArray, List.getElem?_append_right (by simp; omega)]; simp [h32]
theorem bs_seed {u : World} {g : Nat} {seed name sum : List UInt8} {i : Int} (h : BStr g seed name i sum u) (h32 : seed.length = 32) : SeesB u (.slice (some ⟨g, 0, none⟩) 32 32) seed := by
  refine ⟨by simp, some ⟨g, 0, none⟩, 32, by rw [h32], by omega, by decide, (fun h => nomatch h), fun _ => ⟨g, 0, rfl, fun j v hj => ?_⟩⟩
  have hjl := (List.getElem?_eq_some_iff.1 hj).1
  rw [Nat.zero_add, h.cell, bstrC, List.getElem?_toArray, List.getElem?_append_left hjl]; exact hj
theorem bs_sum {u : World} {g : Nat} {seed name sum : List UInt8} {i : Int} (h : BStr g seed name i sum u) (h32 : seed.length = 32) (hs : sum.length = 32) : SeesB u (.slice (some ⟨g, 34, none⟩) 32 32) sum := by
  refine ⟨by simp, some ⟨g, 34, none⟩, 32, by rw [hs], by omega, by decide, (fun h => nomatch h), fun _ => ⟨g, 34, rfl, fun j v hj => ?_⟩⟩
  rw [h.cell, bstrC, List.getElem?_toArray, List.getElem?_append_right (by simp; omega), List.length_map, h32, show 34 + j - 32 = j + 1 + 1 from by omega]
  exact hj
theorem bstrC_set (seed name sum : List UInt8) (i j : Int) (h32 : seed.length = 32) : (bstrC seed name i sum).setIfInBounds 33 (.int .u64 j) = bstrC seed name j sum := by
  unfold bstrC
  rw [List.setIfInBounds_toArray, List.set_append_right _ _ (by simp; omega)]
  simp [h32]
theorem bstrC_put (seed name sum S : List UInt8) (i : Int) (h32 : seed.length = 32) (hs : sum.length = 32) (hS : S.length = 32) :
    ((bstrC seed name i sum).toList.take 34 ++ (keyA S).toList ++ (bstrC seed name i sum).toList.drop (34 + (keyA S).size)).toArray = bstrC seed name i S := by
  have e1 : (bstrC seed name i sum).toList = (seed.map BV ++ [strL name, .int .u64 i]) ++ sum.map BV := by simp [bstrC]
  have hl : (seed.map BV ++ [strL name, Value.int .u64 i]).length = 34 := by simp [h32]
  rw [e1, keyA_size, hS, List.take_left' hl, List.drop_eq_nil_of_le (by simp [h32, hs]), List.append_nil]
  simp [bstrC, keyA]
theorem run_buildBStrm (seed name : List UInt8) (h32 : seed.length = 32) (W : World) : (Instr.build 222 #[(0, .agg (keyA seed)), (1, strL name)]).run Tryz.prog W = .ok (.agg (bstrC seed name 0 (List.replicate 32 0))) W := by
  have hs : (keyA seed).size = 32 := by rw [keyA_size, h32]
  have hf : ∀ base : List Value, base.length = 66 → Array.foldl (fun (cs : Array Value) (x : Value × Nat) => cs.setIfInBounds x.snd x.fst) base.toArray (keyA seed).zipIdx 0 32 = (seed.map BV ++ base.drop 32).toArray := fun base hb => by
    have h1 := fill_at (seed.map BV) base 0 (by simp; omega)
    rw [Nat.zero_add, List.length_map, h32, List.take_zero, List.nil_append] at h1
    rw [← h1]
    unfold keyA
    have hz : ((List.map BV seed).toArray.zipIdx).size = 32 := by simp [h32]
    have h2 := Array.foldl_toList (f := fun (cs : Array Value) (x : Value × Nat) => cs.setIfInBounds x.snd x.fst) (init := base.toArray) (xs := (List.map BV seed).toArray.zipIdx)
    rw [hz] at h2
    rw [← h2, Array.toList_zipIdx]
  simp [go_sem, hs]
  rw [hf _ rfl]
  simp [bstrC, h32] <;> rfl
theorem run_boxBS (cs : Array Value) (W : World) : (Instr.box 222 (.agg cs)).run Tryz.prog W = .ok (.pointer (some ⟨W.heap.size, 0, none⟩)) (W.alloc (.cells cs 222)) := by
  simp [go_sem]
theorem grownBy_tr {w u x : World} {r : Option Nat} (h1 : w.grownBy u r) (h2 : u.grownBy x r) : w.grownBy x r :=
  ⟨h2.os.trans h1.os, h2.tape.trans h1.tape, h2.output.trans h1.output, Nat.le_trans h1.size h2.size, fun k hk hne => (h2.block k (Nat.lt_of_lt_of_le hk h1.size) hne).trans (h1.block k hk hne)⟩
/-- A stream that has drawn i words. -/
def BB (g : Nat) (seed name : List UInt8) (i : Int) (u : World) : Prop := ∃ sum : List UInt8, sum.length = 32 ∧ (i % 4 ≠ 0 → sum = parts [seed, name, put64 (i / 4).toNat]) ∧ BStr g seed name i sum u
theorem BB.blk {g : Nat} {seed name : List UInt8} {i : Int} {u : World} (h : BB g seed name i u) : ∃ cs, Blk u g cs 222 := by
  obtain ⟨sum, _, _, h⟩ := h; exact ⟨_, h⟩
theorem BB.below {g : Nat} {seed name : List UInt8} {i : Int} {u u' : World} (h : BB g seed name i u) (hb : Below u.heap.size u u') : BB g seed name i u' := by
  obtain ⟨sum, h1, h2, h⟩ := h; exact ⟨sum, h1, h2, h.below hb⟩
theorem BB.grownBy {g : Nat} {seed name : List UInt8} {i : Int} {u u' : World} {r : Option Nat} (h : BB g seed name i u) (hg : u.grownBy u' r) (hn : some g ≠ r) : BB g seed name i u' := by
  obtain ⟨sum, h1, h2, h⟩ := h; exact ⟨sum, h1, h2, Blk.grownBy h hg hn⟩
set_option maxRecDepth 100000 in
set_option maxHeartbeats 1000000 in
theorem BNew_any (seed name : List UInt8) (w : World) (h32 : seed.length = 32) :
    Calls Tryz.prog 115 #[.agg (keyA seed), strL name] w fun e w' => ∃ g, e = .returned (.pointer (some ⟨g, 0, none⟩)) ∧ BB g seed name 0 w' ∧ w.heap.size ≤ g ∧ Below w.heap.size w w' := by
  have HK := Lib.hid h32; clear h32
  go_enter Tryz.func115, Tryz.ntmps115
  go_wp2_with (first
    | (refine wpList_boxB rfl 222 _ rfl (bstrC seed name 0 (List.replicate 32 0)) rfl (run_boxBS _ _) ?_; intro x1 B1 hb1 hB1 e1)
    | (refine wpList_build2 rfl 222 0 1 _ _ rfl (.agg (keyA seed)) (strL name) (.agg (bstrC seed name 0 (List.replicate 32 0))) rfl rfl (run_buildBStrm seed name HK.out _) ?_)
    | (refine wpList_load_row rfl 24 _ rfl w.heap.size rfl _ _ (0, 0) _ (Blk.new w _ _) under_key rfl (by rw [keyA_size, HK.out]; exact info_key) ?_))
  go_ret
  exact ⟨B1, rfl, ⟨List.replicate 32 0, List.length_replicate, fun h => absurd rfl h, hb1⟩, by simp only [World.size_alloc] at hB1; omega, (Ext.alloc w _).tr e1⟩

set_option maxRecDepth 100000 in
set_option maxHeartbeats 4000000 in
theorem BWord_any (g : Nat) (seed name : List UInt8) (i : Int) (w : World) (hB : BB g seed name i w) (h32 : seed.length = 32) (hn : name.length ≤ 10000) (hi0 : 0 ≤ i) (hi : i ≤ 1000000000) :
    Calls Tryz.prog 118 #[.pointer (some ⟨g, 0, none⟩)] w fun e w' => e = .returned (.int .u64 (wordN seed name i)) ∧ BB g seed name (i + 1) w' ∧ w.grownBy w' (some g) := by
  have HK := Lib.hid h32
  obtain ⟨sum, hs32, hsum, hB⟩ := hB
  obtain ⟨S, hS⟩ : ∃ S, parts [seed, name, put64 (i / 4).toNat] = S := ⟨_, rfl⟩
  have HW := Lib.hid (show wordN seed name i = beN ((S.drop (8 * (i % 4)).toNat).take 8) by rw [← hS]; rfl)
  have hSL : S.length = 32 := by rw [← hS]; exact length_parts _
  have HS := Lib.hid hS.symm; have HSL := Lib.hid hSL
  obtain ⟨W0, W1⟩ := wordN_in seed name i
  generalize wordN seed name i = WD at *
  have hci := bs_i hB h32
  by_cases h4 : i % 4 = 0
  · have HFL : Hid ((flatP [seed, name, put64 (i / 4).toNat]).length ≤ 70368744177000) := by
      show _ ≤ _
      simp only [flatP, List.flatMap_cons, List.flatMap_nil, List.length_append, length_put64, List.length_nil, h32]
      omega
    have HW0 := Lib.hid (show WD = ((beN ((S.drop (0 : Int).toNat).take 8) : Nat) : Int) by have := HW.out; rw [h4] at this; exact this)
    clear hS hSL hsum
    have hstab : Stab (fun u => ∃ s : List UInt8, s.length = 32 ∧ BStr g seed name i s u) := fun _ _ ⟨s, h1, h2⟩ hb => ⟨s, h1, h2.below hb⟩
    have hk : HoldT (fun u => ∃ s : List UInt8, s.length = 32 ∧ BStr g seed name i s u) w w.drew := ⟨⟨sum, hs32, hB.drew⟩, Below.drew (Below.refl _ _)⟩
    have hS0 : ∀ e : InC (fun u => ∃ s : List UInt8, s.length = 32 ∧ BStr g seed name i s u), e.u.cell? ⟨g, 32, none⟩ = some (strL name) := fun e => by obtain ⟨s, _, h2⟩ := e.has; exact bs_name h2 HK.out
    have hS1 : ∀ e : InC (fun u => ∃ s : List UInt8, s.length = 32 ∧ BStr g seed name i s u), e.u.cell? ⟨g, 33, none⟩ = some (.int .u64 i) := fun e => by obtain ⟨s, _, h2⟩ := e.has; exact bs_i h2 HK.out
    have hSD := fun (u : World) (h : ∃ s : List UInt8, s.length = 32 ∧ BStr g seed name i s u) => (show SeesB u (.slice (some ⟨g, 0, none⟩) 32 32) seed from by obtain ⟨s, _, h2⟩ := h; exact bs_seed h2 HK.out)
    have HSD := Lib.hid hSD
    clear h32 hSD
    go_enter Tryz.func118, Tryz.ntmps118
    go_wp2_with fail
    try change Code.wp _ _ _ (Act.mk _ _) _
    haveI hne_ : Nonempty (InC (fun u => ∃ s : List UInt8, s.length = 32 ∧ BStr g seed name i s u)) := ⟨⟨_, (hk).1⟩⟩
    refine wp_region_tr (C := fun w_ => ∃ e_ : InC (fun u => ∃ s : List UInt8, s.length = 32 ∧ BStr g seed name i s u), w_ = e_.u) (.step [0, 1, 2, 3, 4, 5, 6, 7, 8, 10, 11, 12, 13, 14] (.alt 9 (.step [] (.alt 15 (.step [] (.alt 16 (.step [] (.alt 17 (.step [18, 19] (.alt 20 (.fin []) .nil)) .nil)) .nil)) .nil)) (.alt 15 (.step [] (.alt 9 (.step [] (.alt 16 (.step [] (.alt 17 (.step [18, 19] (.alt 20 (.fin []) .nil)) .nil)) .nil)) .nil)) .nil))) (by kernel_rfl) (by kernel_rfl) (fun _ _ _ _ hd_ h_ => ⟨hd_.symm.trans h_.1, h_.2⟩) ⟨⟨World.drew _, (hk).1⟩, rfl⟩ ?_
    have hk_ := hk
    repeat' (first
      | ((with_reducible refine wpTr_fin ?_)
         simp only [pickOps, List.flatMap_cons, List.flatMap_nil, List.drop_succ_cons, List.drop_zero, List.take_succ_cons, List.take_zero, List.cons_append, List.nil_append, List.append_nil]
         repeat (go_big_quiet_step (exact rfl))
         refine wpQuiet_nil ?_)
      | ((with_reducible refine wpTr_step ?_); simp only [pickOps, List.flatMap_cons, List.flatMap_nil, List.drop_succ_cons, List.drop_zero, List.take_succ_cons, List.take_zero, List.cons_append, List.nil_append, List.append_nil]; repeat (go_big_quiet_step (exact rfl))
         refine wpQuiet_nil ?_)
      | (with_reducible refine wpTr_one ?_)
      | (with_reducible refine wpTr_alt ?_ ?_)
      | (simp only [pickOps, List.flatMap_cons, List.flatMap_nil, List.drop_succ_cons, List.drop_zero, List.take_succ_cons, List.take_zero, List.cons_append, List.nil_append, List.append_nil]
         go_wp2_with (first
      | (refine wpList_strB rfl _ rfl name rfl (by omega) ?_; intro x2 v2 hs2 ho2 e2; have hk2 := HoldT.step hstab hk_ e2)
      | (go_at_call 110; refine (Put64_any _ _ [] (i / 4) (Sees.nil _ _) (by omega) (by omega) (by decide)).mono ?_; rintro e x3 ⟨v3, rfl, hown3, hb3⟩; rw [List.nil_append] at hown3; have e3 : Ext _ x3 := hb3; have hk3 := HoldT.step hstab hk_ e3)
      | (refine wpList_lit3 rfl _ _ _ rfl _ _ _ seed name (put64 (i / 4).toNat) rfl rfl rfl rfl ho2 (owns_one hown3) (HSD.out _ hk_.has) (exB hs2) (exB (sees_of_owns hown3)) ?_; intro x5 B5 hbb e5; have hk5 := HoldT.step hstab hk_ e5)
      | (go_at_call 157; refine (Parts_any _ _ [seed, name, put64 (i / 4).toNat] (exBB hbb) HFL.out).mono ?_; rintro e x6 ⟨rfl, hb6⟩; rw [← HS.out]; have e6 : Ext _ x6 := hb6; have hk6 := HoldT.step hstab hk_ e6)
      | (obtain ⟨s7, hs7, hb7⟩ := hk_.has; refine wpList_store_in rfl 24 _ _ rfl g 34 (keyA S) (bstrC seed name i s7) (bstrC seed name i S) _ rfl rfl hb7 (by rw [keyA_size, HSL.out, bstrC_size _ _ _ _ HK.out hs7]; decide) (by rw [keyA_size, HSL.out]; exact info_key) (keyA_one _) (bstrC_put _ _ _ _ _ HK.out hs7 HSL.out) ?_; intro x7 hg7 hz7 hZ
         have hG := grownBy_tr ((show Ext w _ from hk_.up).g (some g)) hg7
         have hk7 : HoldT (fun u => ∃ s : List UInt8, s.length = 32 ∧ BStr g seed name i s u) x7 x7 := ⟨⟨S, HSL.out, hZ⟩, Below.refl _ _⟩))
         refine phPost_hold (by first | with_reducible assumption | exact HoldT.alloc hstab (by with_reducible assumption) _ | exact HoldT.alloc hstab (HoldT.alloc hstab (by with_reducible assumption) _) _) ?_
         intro hk_))
    all_goals (
      have hci := bs_i hZ HK.out
      have hfi := Blk.free hZ 33
      have hZ2 := Blk.set hZ 33 (.int .u64 (i + 1))
      rw [bstrC_set seed name S i (i + 1) HK.out] at hZ2
      have hgr := grownBy_set hG 33 (.int .u64 (i + 1))
      have hS2 := bs_sum hZ2 HK.out HSL.out
      have h8 : 8 * (i % 4) ≤ 24 := by omega
      go_wp2_with (go_at_call 158; refine (Get64_ok _ _ S (0) hS2 (by omega) (by rw [HSL.out]; omega)).mono ?_; rintro e y1 ⟨rfl, rfl⟩; rw [← HW0.out])
      go_ret
      exact ⟨rfl, ⟨S, HSL.out, fun h4 => by rw [HS.out, show (i + 1) / 4 = i / 4 from by omega], hZ2⟩, hgr⟩)
  · obtain rfl : S = sum := ((hsum h4).trans hS).symm
    have h40 : (i % 4 == 0) = false := by rw [beq_eq_false_iff_ne]; exact h4
    have hZ := hB
    have hG : w.grownBy w (some g) := ⟨rfl, rfl, rfl, Nat.le_refl _, fun _ _ _ => rfl⟩
    clear hS hSL hsum h32
    go_enter Tryz.func118, Tryz.ntmps118
    have hci := bs_i hZ HK.out
    have hfi := Blk.free hZ 33
    have hZ2 := Blk.set hZ 33 (.int .u64 (i + 1))
    rw [bstrC_set seed name S i (i + 1) HK.out] at hZ2
    have hgr := grownBy_set hG 33 (.int .u64 (i + 1))
    have hS2 := bs_sum hZ2 HK.out HSL.out
    have h8 : 8 * (i % 4) ≤ 24 := by omega
    go_wp2_with (go_at_call 158; refine (Get64_ok _ _ S (8 * (i % 4)) hS2 (by omega) (by rw [HSL.out]; omega)).mono ?_; rintro e y1 ⟨rfl, rfl⟩; rw [← HW.out])
    go_ret
    exact ⟨rfl, ⟨S, HSL.out, fun h4 => by rw [HS.out, show (i + 1) / 4 = i / 4 from by omega], hZ2⟩, hgr⟩
end Go.Proofs.YtbgnfioggmkdeaaGreatDoor
