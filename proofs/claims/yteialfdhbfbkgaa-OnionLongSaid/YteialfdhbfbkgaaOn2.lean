/-
  Onions wrapped: both programs.
-/
import Derived.Test.YteialfdhbfbkgaaOn1
namespace Go.Proofs.Yteialfdhbfbkgaa
set_option linter.unusedVariables false
set_option linter.unusedSimpArgs false
open Go Go.RowKit

structure Pub where
  (base blind mix inner c1 s1 c2 s2 c3 s3 : Int)
def Pub.cells (p : Pub) : List Value := [.int .u64 p.base, .int .u64 p.blind, .int .u64 p.mix, .int .u64 p.inner, .int .u64 p.c1, .int .u64 p.s1, .int .u64 p.c2, .int .u64 p.s2, .int .u64 p.c3, .int .u64 p.s3]
def Pub.ok (p : Pub) : Prop := in64 p.base ∧ in64 p.blind ∧ in64 p.mix ∧ in64 p.inner ∧ in64 p.c1 ∧ in64 p.s1 ∧ in64 p.c2 ∧ in64 p.s2 ∧ in64 p.c3 ∧ in64 p.s3
theorem Pub.length_cells (p : Pub) : p.cells.length = 10 := rfl
abbrev SeesP (w : World) (v : Value) (ps : List Pub) : Prop := Sees w 10 v ps.length (ps.flatMap Pub.cells)
theorem flatMap_at {α β : Type} {f : α → List β} {k : Nat} (hk : ∀ a, (f a).length = k) : ∀ (l : List α) (i j : Nat) (a : α), l[i]? = some a → j < k → (l.flatMap f)[i * k + j]? = (f a)[j]?
  | [], i, j, a, h, _ => by simp at h
  | x :: l, 0, j, a, h, hj => by
    cases h
    rw [Nat.zero_mul, Nat.zero_add, List.flatMap_cons, List.getElem?_append_left (by rw [hk]; exact hj)]
  | x :: l, i + 1, j, a, h, hj => by
    rw [List.flatMap_cons, List.getElem?_append_right (by rw [hk, Nat.succ_mul]; omega), hk, show (i + 1) * k + j - k = i * k + j from by rw [Nat.succ_mul]; omega]
    exact flatMap_at hk l i j a (by simpa using h) hj
theorem seesP_open {w : World} {v : Value} {ps : List Pub} (h : SeesP w v ps) (hn : 0 < ps.length) : ∃ b o c, v = .slice (some ⟨b, o, none⟩) ps.length c ∧ ps.length ≤ c ∧ c ≤ 9223372036854775807 ∧
    ∀ (i j : Nat) (p : Pub) (u : Value), ps[i]? = some p → p.cells[j]? = some u → w.cell? ⟨b, o + (i * 10 + j), none⟩ = some u := by
  obtain ⟨hl, a, c, rfl, hc, hm, hnc, hb⟩ := h
  obtain ⟨b, o, rfl, hcell⟩ := hb hn
  refine ⟨b, o, c, rfl, hc, by unfold maxLen at hm; omega, fun i j p u hp hu => hcell _ u ?_⟩
  have hj : j < 10 := by have := (List.getElem?_eq_some_iff.1 hu).1; rw [p.length_cells] at this; exact this
  rw [flatMap_at Pub.length_cells ps i j p hp hj]; exact hu

def turnK (k : List UInt8) (t : Bool) : List UInt8 := if t then k.set 0 (k.getD 0 0 ^^^ 1) else k
theorem length_turnK (k : List UInt8) (t : Bool) : (turnK k t).length = k.length := by unfold turnK; split <;> simp
/-- The box behind the last n places; at: the place whose key is turned. -/
def spoilL (ps : List Pub) (x : Int) (inside : List UInt8) (at_ : Int) : Nat → List UInt8
  | 0 => inside
  | n + 1 => sealL (turnK (hopK (timesP (((ps[ps.length - 1 - n]?).map Pub.mix).getD 0) x)) (decide (((ps.length - 1 - n : Nat) : Int) = at_))) (put64 (ps.length - 1 - n)) (spoilL ps x inside at_ n)
theorem length_spoilL (ps : List Pub) (x : Int) (inside : List UInt8) (at_ : Int) (n : Nat) : (spoilL ps x inside at_ n).length = inside.length + 16 * n := by
  induction n with
  | zero => simp [spoilL]
  | succ n ih => rw [spoilL, length_sealL, ih]; omega
def boxL (ps : List Pub) (x : Int) (inside : List UInt8) (at_ : Int) : List UInt8 := spoilL ps x inside at_ ps.length
theorem length_boxL (ps : List Pub) (x : Int) (inside : List UInt8) (at_ : Int) : (boxL ps x inside at_).length = inside.length + 16 * ps.length := length_spoilL _ _ _ _ _
/-- A call that hands back an entry whose box is the call's own. -/
def RetE (x : Int) (box : List UInt8) (w : World) (e : Ending) (w' : World) : Prop := ∃ v', e = .returned (.agg #[.int .u64 x, v']) ∧ OwnB w' w.heap.size v' box ∧ Below w.heap.size w w'
def SpRel (w : World) (ps : List Pub) (x : Int) (inside : List UInt8) (at_ : Int) (box i : Value) (wr : World) : Prop :=
  ∃ n : Nat, n ≤ ps.length ∧ i = .int .i64 ((ps.length : Int) - 1 - n) ∧ OwnB wr w.heap.size box (spoilL ps x inside at_ n) ∧ Blk wr w.heap.size #[.int .u64 0, .slice none 0 0] 33 ∧ Below w.heap.size w wr
theorem info_entry : (Try.prog.info? 33).map (·.size) = some 2 := by kernel_rfl

theorem keyA_set (l : List UInt8) (i : Nat) (x : UInt8) : (keyA l).setIfInBounds i (BV x) = keyA (l.set i x) := by
  unfold keyA; rw [List.setIfInBounds_toArray, List.map_set]
abbrev KE (B : Nat) (key : List UInt8) (u : World) : Prop := Blk u B (keyA key) 23
theorem stabKE (B : Nat) (key : List UInt8) : Stab (KE B key) := Stab.blk _ _ _

set_option maxRecDepth 100000 in
set_option maxHeartbeats 2000000 in
theorem Spoiled_any (ps : List Pub) (x at_ : Int) (inside : List UInt8) (vl v : Value) (w : World) (hps : SeesP w vl ps) (hok : ∀ p ∈ ps, p.ok) (hx : in64 x) (hv : SeesB w v inside)
    (hl : inside.length ≤ 10000000000000) (hpl : ps.length ≤ 100000000) (hat : -9223372036854775808 ≤ at_ ∧ at_ ≤ 9223372036854775807) :
    Calls Try.prog 46 #[vl, .int .u64 x, v, .int .i64 at_] w (RetE (timesP 37 x) (boxL ps x inside at_) w) := by
  obtain ⟨x0, x1⟩ := hx; obtain ⟨at0, at1⟩ := hat
  obtain ⟨a0, c0, rfl, hac0, hc0⟩ := sees_form hv
  have HP := Lib.hid hps
  obtain ⟨a1, c1, rfl, hac1, hc1⟩ := sees_form hps
  clear hps
  have hR0 := Lib.hid (Blk.new w #[.int .u64 0, .slice none 0 0] 33)
  have hb0 := Lib.hid (show Below w.heap.size w (w.alloc (.cells #[.int .u64 0, .slice none 0 0] 33)) by go_grown)
  have HOK := Lib.hid hok; clear hok
  obtain ⟨B0, hB0⟩ : ∃ B0, B0 = w.heap.size + 1 := ⟨_, rfl⟩
  go_enter Try.func46, Try.ntmps46
  go_wp2_with (at_builtin; refine appB (W := w) rfl _ _ rfl (.slice none 0 0) [] rfl (ownB_nil _ _) _ inside rfl (hv.below hb0.out (by decide)) (by simp only [List.length_nil]; omega) hb0.out ?_; intro v1 w1 hown1 hgr1 hb1; rw [List.nil_append] at hown1; have hR1 := hR0.out.grownBy hgr1 (fun e => by cases e); clear hgr1)
  go_loopw [9, 10, 11] (fun box i _ wr => SpRel w ps x inside at_ box i wr) (fun _ i _ _ => (intOf i + 1).toNat)
  case atStart => exact ⟨0, by omega, by go_num, hown1, hR1, hb1⟩
  case round =>
    clear hown1 hR1 hb1
    obtain ⟨n, hn, rfl, hown, hR, hbel⟩ := hrel
    obtain ⟨a2, c2, rfl, hac2, hc2⟩ := owns_form hown
    have hlen := length_spoilL ps x inside at_ n
    by_cases hlt : n < ps.length
    · obtain ⟨P, hPe⟩ : ∃ P : Nat, P + n + 1 = ps.length := ⟨ps.length - 1 - n, by omega⟩
      have hP1 : ps.length - 1 - n = P := by omega
      rw [show (ps.length : Int) - 1 - n = (P : Int) from by omega]
      have hPl : P < ps.length := by omega
      obtain ⟨b, o, c, hve, hcl, hcm, hcell⟩ := seesP_open (HP.out.below hbel (by decide)) (by omega)
      obtain ⟨rfl, rfl⟩ : a1 = some ⟨b, o, none⟩ ∧ c1 = c := by injection hve with e1 _ e3; exact ⟨e1, e3⟩
      have hcm2 : wr.cell? ⟨b, o + P * 10 + 2, none⟩ = some (.int .u64 ps[P].mix) := by rw [Nat.add_assoc]; exact hcell P 2 ps[P] _ (List.getElem?_eq_getElem hPl) rfl
      clear hcell hve
      obtain ⟨m0, m1⟩ : in64 ps[P].mix := (HOK.out _ (List.getElem_mem hPl)).2.2.1
      have hsp : spoilL ps x inside at_ (n + 1) = sealL (turnK (hopK (timesP ps[P].mix x)) (decide ((P : Int) = at_))) (put64 P) (spoilL ps x inside at_ n) := by
        rw [spoilL, hP1, List.getElem?_eq_getElem hPl]; rfl
      have HSP := Lib.hid hsp; clear hsp
      generalize ps[P].mix = mx at *
      obtain ⟨t0, t1⟩ := timesP_pos mx x
      have hKL := length_hopK (timesP mx x)
      generalize hKe : hopK (timesP mx x) = K at *
      have HKe := Lib.hid hKe; have HKL := Lib.hid hKL
      clear hKe hKL
      generalize hBX : spoilL ps x inside at_ n = bx at *
      clear hBX
      have HLEN := Lib.hid hlen; clear hlen
      have hb8 : Hid (bx.length ≤ 20000000000000) := Lib.hid (by rw [HLEN.out]; omega)
      have hcx := fun h0 : UInt8 => (show bits .xor .u8 (h0.toNat : Int) 1 = ((h0 ^^^ 1).toNat : Int) from xor_u8 h0 1)
      by_cases hat : (P : Int) = at_
      · have hbe : ((P : Int) == at_) = true := by rw [beq_iff_eq]; exact hat
        have HK2 := Lib.hid (show turnK K (decide ((P : Int) = at_)) = K.set 0 (K.getD 0 0 ^^^ 1) by unfold turnK; rw [decide_eq_true hat]; rfl)
        clear hat
        go_wp2_with (first
          | (go_at_call 50; refine (Times_any _ _ _ (by omega) (by omega) (by omega) (by omega)).mono ?_; rintro e w' ⟨rfl, rfl⟩)
          | (go_at_call 76; refine (HopKey_any _ _ ⟨by omega, by omega⟩).mono ?_; rintro e x5 ⟨rfl, hb5⟩; rw [HKe.out]; have e5 : Ext _ x5 := hb5)
          | (refine wpList_allocB rfl _ rfl _ run_allocKey ?_; intro x6 B hh hB e6)
          | (refine wpList_store_row rfl 23 _ _ rfl B (keyA K) _ _ rfl rfl hh (by rw [keyA_size, keyA_size, HKL.out]; rfl) (by rw [keyA_size, HKL.out]; exact info_key) (keyA_one _) ?_; intro x7 hg7 hs7 hR7
             have hup7 : Below wr.heap.size wr x7 := (e5.tr e6 : Below _ _ _).grown hg7 (e5.tr e6).size (fun k hk => by cases hk; exact Nat.le_trans e5.size hB)
             have hc7 : x7.cell? ⟨B, 0, none⟩ = some (BV (K.getD 0 0)) := by rw [hR7.cell, keyA, List.getElem?_toArray, List.getElem?_map, List.getD_eq_getElem?_getD, List.getElem?_eq_getElem (by rw [HKL.out]; decide)]; rfl
             have hf7 := hR7.free 0
             clear hg7 hs7))
        have hB' : wr.heap.size ≤ B := Nat.le_trans e5.size hB
        have hR8 := hR7.set 0 (BV (K.getD 0 0 ^^^ 1))
        rw [keyA_set, ← HK2.out] at hR8
        have hup8 := Below.setCell hup7 (p := ⟨B, 0, none⟩) hB' (BV (K.getD 0 0 ^^^ 1))
        have hKL2 := length_turnK K (decide ((P : Int) = at_))
        rw [HKL.out] at hKL2
        generalize turnK K (decide ((P : Int) = at_)) = K2 at *
        have HKL2 := Lib.hid hKL2; clear hKL2
        have hstab := stabKE B K2
        have hk := HoldT.drew hstab (show HoldT (KE B K2) wr _ from ⟨hR8, hup8⟩)
        try change Code.wp _ _ _ (Act.mk _ _) _
        haveI hne_ : Nonempty (InC (KE B K2)) := ⟨⟨_, (hk).1⟩⟩
        refine wp_region_tr (C := fun w_ => ∃ e_ : InC (KE B K2), w_ = e_.u) (.step [0, 1, 3] (.alt 2 (.step [] (.alt 4 (.fin [5]) .nil)) .nil)) (by kernel_rfl) (by kernel_rfl) (fun _ _ _ _ hd_ h_ => ⟨hd_.symm.trans h_.1, h_.2⟩) ⟨⟨World.drew _, (hk).1⟩, rfl⟩ ?_
        have hk_ := hk
        refine wpTr_step ?_
        simp only [pickOps, List.flatMap_cons, List.flatMap_nil, List.drop_succ_cons, List.drop_zero, List.take_succ_cons, List.take_zero, List.cons_append, List.nil_append, List.append_nil]
        iterate 3 (first | ((refine wpQuiet_load_row rfl 23 _ rfl B rfl _ (keyA K2) (0, 0) _ (fun w_ hw_ => by obtain ⟨e_, rfl⟩ := hw_; exact e_.has) under_key rfl (by rw [keyA_size, HKL2.out]; exact info_key) ?_; simp only [Act.put, List.setIfInBounds_toArray, List.set_cons_succ, List.set_cons_zero])) | go_big_quiet_step (exact rfl))
        refine wpQuiet_nil ?_
        refine wpTr_one ?_
        simp only [pickOps, List.flatMap_cons, List.flatMap_nil, List.drop_succ_cons, List.drop_zero, List.take_succ_cons, List.take_zero, List.cons_append, List.nil_append, List.append_nil]
        go_wp2_with (first
          | (go_at_call 78; refine (Beside_any P _ (by omega)).mono ?_; rintro e y1 ⟨v4, rfl, hown4, hb4⟩; obtain ⟨a4, c4, rfl, hac4, hc4⟩ := owns_form hown4; have hk4 := HoldT.step hstab hk_ hb4)
          | (go_at_call 77; refine (Seal_any K2 (put64 P) bx _ _ _ HKL2.out (sees_of_owns hown4) ((sees_of_owns hown).below hk_.up (by decide)) (by rw [length_put64]; decide) hb8.out).mono ?_; rintro e y2 ⟨v5, rfl, hown5, hb5⟩; rw [← HSP.out] at hown5; obtain ⟨a5, c5, rfl, hac5, hc5⟩ := owns_form hown5; have hk5 := HoldT.step hstab hk_ hb5))
        refine phPost_hold (by first | with_reducible assumption | exact HoldT.alloc hstab (by with_reducible assumption) _ | exact HoldT.alloc hstab (HoldT.alloc hstab (by with_reducible assumption) _) _) ?_
        intro hk_
        refine wpTr_step ?_
        simp only [pickOps, List.flatMap_nil]
        refine wpQuiet_nil ?_
        refine wpTr_one ?_
        simp only [pickOps, List.flatMap_cons, List.flatMap_nil, List.drop_succ_cons, List.drop_zero, List.take_succ_cons, List.take_zero, List.cons_append, List.nil_append, List.append_nil]
        go_wp2_with (first
          | (go_at_call 78; refine (Beside_any P _ (by omega)).mono ?_; rintro e y1 ⟨v4, rfl, hown4, hb4⟩; obtain ⟨a4, c4, rfl, hac4, hc4⟩ := owns_form hown4; have hk4 := HoldT.step hstab hk_ hb4)
          | (go_at_call 77; refine (Seal_any K2 (put64 P) bx _ _ _ HKL2.out (sees_of_owns hown4) ((sees_of_owns hown).below hk_.up (by decide)) (by rw [length_put64]; decide) hb8.out).mono ?_; rintro e y2 ⟨v5, rfl, hown5, hb5⟩; rw [← HSP.out] at hown5; obtain ⟨a5, c5, rfl, hac5, hc5⟩ := owns_form hown5; have hk5 := HoldT.step hstab hk_ hb5))
        refine phPost_hold (by first | with_reducible assumption | exact HoldT.alloc hstab (by with_reducible assumption) _ | exact HoldT.alloc hstab (HoldT.alloc hstab (by with_reducible assumption) _) _) ?_
        intro hk_
        refine wpTr_fin ?_
        simp only [pickOps, List.flatMap_cons, List.flatMap_nil, List.drop_succ_cons, List.drop_zero, List.take_succ_cons, List.take_zero, List.cons_append, List.nil_append, List.append_nil]
        iterate 1 (first | ((refine wpQuiet_load_row rfl 23 _ rfl B rfl _ (keyA K2) (0, 0) _ (fun w_ hw_ => by obtain ⟨e_, rfl⟩ := hw_; exact e_.has) under_key rfl (by rw [keyA_size, HKL2.out]; exact info_key) ?_; simp only [Act.put, List.setIfInBounds_toArray, List.set_cons_succ, List.set_cons_zero])) | go_big_quiet_step (exact rfl))
        refine wpQuiet_nil ?_
        go_wp2_with fail
        exact ⟨⟨n + 1, by omega, congrArg (Value.int .i64) (by omega), owns_mono hown5 (Nat.le_trans hbel.size hk4.up.size), hR.below hk_.up, hbel.trans (hk_.up.mono hbel.size)⟩, by simp only [intOf]; omega⟩
      · have hbe : ((P : Int) == at_) = false := by rw [beq_eq_false_iff_ne]; exact hat
        have HK2 := Lib.hid (show turnK K (decide ((P : Int) = at_)) = K by unfold turnK; rw [decide_eq_false hat]; rfl)
        clear hat
        go_wp2_with (first
          | (go_at_call 50; refine (Times_any _ _ _ (by omega) (by omega) (by omega) (by omega)).mono ?_; rintro e w' ⟨rfl, rfl⟩)
          | (go_at_call 76; refine (HopKey_any _ _ ⟨by omega, by omega⟩).mono ?_; rintro e x5 ⟨rfl, hb5⟩; rw [HKe.out]; have e5 : Ext _ x5 := hb5)
          | (refine wpList_allocB rfl _ rfl _ run_allocKey ?_; intro x6 B hh hB e6)
          | (refine wpList_store_row rfl 23 _ _ rfl B (keyA K) _ _ rfl rfl hh (by rw [keyA_size, keyA_size, HKL.out]; rfl) (by rw [keyA_size, HKL.out]; exact info_key) (keyA_one _) ?_; intro x7 hg7 hs7 hR8
             have hup8 : Below wr.heap.size wr x7 := (e5.tr e6 : Below _ _ _).grown hg7 (e5.tr e6).size (fun k hk => by cases hk; exact Nat.le_trans e5.size hB)
             clear hg7 hs7))
        have hB' : wr.heap.size ≤ B := Nat.le_trans e5.size hB
        rw [← HK2.out] at hR8
        have hKL2 := length_turnK K (decide ((P : Int) = at_))
        rw [HKL.out] at hKL2
        generalize turnK K (decide ((P : Int) = at_)) = K2 at *
        have HKL2 := Lib.hid hKL2; clear hKL2
        have hstab := stabKE B K2
        have hk := HoldT.drew hstab (show HoldT (KE B K2) wr _ from ⟨hR8, hup8⟩)
        try change Code.wp _ _ _ (Act.mk _ _) _
        haveI hne_ : Nonempty (InC (KE B K2)) := ⟨⟨_, (hk).1⟩⟩
        refine wp_region_tr (C := fun w_ => ∃ e_ : InC (KE B K2), w_ = e_.u) (.step [0, 1, 3] (.alt 2 (.step [] (.alt 4 (.fin [5]) .nil)) .nil)) (by kernel_rfl) (by kernel_rfl) (fun _ _ _ _ hd_ h_ => ⟨hd_.symm.trans h_.1, h_.2⟩) ⟨⟨World.drew _, (hk).1⟩, rfl⟩ ?_
        have hk_ := hk
        refine wpTr_step ?_
        simp only [pickOps, List.flatMap_cons, List.flatMap_nil, List.drop_succ_cons, List.drop_zero, List.take_succ_cons, List.take_zero, List.cons_append, List.nil_append, List.append_nil]
        iterate 3 (first | ((refine wpQuiet_load_row rfl 23 _ rfl B rfl _ (keyA K2) (0, 0) _ (fun w_ hw_ => by obtain ⟨e_, rfl⟩ := hw_; exact e_.has) under_key rfl (by rw [keyA_size, HKL2.out]; exact info_key) ?_; simp only [Act.put, List.setIfInBounds_toArray, List.set_cons_succ, List.set_cons_zero])) | go_big_quiet_step (exact rfl))
        refine wpQuiet_nil ?_
        refine wpTr_one ?_
        simp only [pickOps, List.flatMap_cons, List.flatMap_nil, List.drop_succ_cons, List.drop_zero, List.take_succ_cons, List.take_zero, List.cons_append, List.nil_append, List.append_nil]
        go_wp2_with (first
          | (go_at_call 78; refine (Beside_any P _ (by omega)).mono ?_; rintro e y1 ⟨v4, rfl, hown4, hb4⟩; obtain ⟨a4, c4, rfl, hac4, hc4⟩ := owns_form hown4; have hk4 := HoldT.step hstab hk_ hb4)
          | (go_at_call 77; refine (Seal_any K2 (put64 P) bx _ _ _ HKL2.out (sees_of_owns hown4) ((sees_of_owns hown).below hk_.up (by decide)) (by rw [length_put64]; decide) hb8.out).mono ?_; rintro e y2 ⟨v5, rfl, hown5, hb5⟩; rw [← HSP.out] at hown5; obtain ⟨a5, c5, rfl, hac5, hc5⟩ := owns_form hown5; have hk5 := HoldT.step hstab hk_ hb5))
        refine phPost_hold (by first | with_reducible assumption | exact HoldT.alloc hstab (by with_reducible assumption) _ | exact HoldT.alloc hstab (HoldT.alloc hstab (by with_reducible assumption) _) _) ?_
        intro hk_
        refine wpTr_step ?_
        simp only [pickOps, List.flatMap_nil]
        refine wpQuiet_nil ?_
        refine wpTr_one ?_
        simp only [pickOps, List.flatMap_cons, List.flatMap_nil, List.drop_succ_cons, List.drop_zero, List.take_succ_cons, List.take_zero, List.cons_append, List.nil_append, List.append_nil]
        go_wp2_with (first
          | (go_at_call 78; refine (Beside_any P _ (by omega)).mono ?_; rintro e y1 ⟨v4, rfl, hown4, hb4⟩; obtain ⟨a4, c4, rfl, hac4, hc4⟩ := owns_form hown4; have hk4 := HoldT.step hstab hk_ hb4)
          | (go_at_call 77; refine (Seal_any K2 (put64 P) bx _ _ _ HKL2.out (sees_of_owns hown4) ((sees_of_owns hown).below hk_.up (by decide)) (by rw [length_put64]; decide) hb8.out).mono ?_; rintro e y2 ⟨v5, rfl, hown5, hb5⟩; rw [← HSP.out] at hown5; obtain ⟨a5, c5, rfl, hac5, hc5⟩ := owns_form hown5; have hk5 := HoldT.step hstab hk_ hb5))
        refine phPost_hold (by first | with_reducible assumption | exact HoldT.alloc hstab (by with_reducible assumption) _ | exact HoldT.alloc hstab (HoldT.alloc hstab (by with_reducible assumption) _) _) ?_
        intro hk_
        refine wpTr_fin ?_
        simp only [pickOps, List.flatMap_cons, List.flatMap_nil, List.drop_succ_cons, List.drop_zero, List.take_succ_cons, List.take_zero, List.cons_append, List.nil_append, List.append_nil]
        iterate 1 (first | ((refine wpQuiet_load_row rfl 23 _ rfl B rfl _ (keyA K2) (0, 0) _ (fun w_ hw_ => by obtain ⟨e_, rfl⟩ := hw_; exact e_.has) under_key rfl (by rw [keyA_size, HKL2.out]; exact info_key) ?_; simp only [Act.put, List.setIfInBounds_toArray, List.set_cons_succ, List.set_cons_zero])) | go_big_quiet_step (exact rfl))
        refine wpQuiet_nil ?_
        go_wp2_with fail
        exact ⟨⟨n + 1, by omega, congrArg (Value.int .i64) (by omega), owns_mono hown5 (Nat.le_trans hbel.size hk4.up.size), hR.below hk_.up, hbel.trans (hk_.up.mono hbel.size)⟩, by simp only [intOf]; omega⟩
    · obtain rfl : n = ps.length := by omega
      rw [show (ps.length : Int) - 1 - ps.length = -1 from by omega]
      go_wp2_with (first
        | (go_at_call 68; refine (Base_any _ _ (by omega) (by omega)).mono ?_; rintro e w' ⟨rfl, rfl⟩)
        | (refine wpList_store_row rfl 33 _ _ rfl w.heap.size #[.int .u64 (timesP 37 x), .slice a2 _ c2] _ _ rfl rfl hR rfl (by exact info_entry) (fun u hu => by simp at hu; rcases hu with rfl | rfl <;> rfl) ?_; intro w7 hg7 hs7 hR7))
      refine bodyPost_ret (results_cell_row Try.results46 _ _ w.heap.size _ _ (0, 0) _ rfl hR7 Try.underlying33 rfl info_entry) rfl ⟨_, rfl, ?_, hbel.grown hg7 hbel.size (fun k hk => by cases hk; exact Nat.le_refl _)⟩
      rw [← hlen]
      refine hown.kept hg7 (Or.inr (fun e => ?_))
      rcases hown.2 with ⟨h', _⟩ | ⟨g', cap, cur, h', _, hh', _⟩
      · rw [h'] at e; cases e
      · rw [h'] at e
        have : g' = w.heap.size := Option.some.inj e
        subst this
        unfold Blk at hR
        rw [hR] at hh'
        injection hh' with e1
        injection e1 with _ e2 _
        exact absurd e2 (by decide)
set_option maxRecDepth 100000 in
set_option maxHeartbeats 2000000 in
theorem Spoil_any (ps : List Pub) (x at_ : Int) (inside : List UInt8) (vl v : Value) (w : World) (hps : SeesP w vl ps) (hok : ∀ p ∈ ps, p.ok) (hx : in64 x) (hv : SeesB w v inside)
    (hl : inside.length ≤ 10000000000000) (hpl : ps.length ≤ 100000000) (hat : -9223372036854775808 ≤ at_ ∧ at_ ≤ 9223372036854775807) :
    Calls Try.prog 47 #[vl, .int .u64 x, v, .int .i64 at_] w (RetE (timesP 37 x) (boxL ps x inside at_) w) := by
  obtain ⟨x0, x1⟩ := hx; obtain ⟨at0, at1⟩ := hat
  obtain ⟨a0, c0, rfl, hac0, hc0⟩ := sees_form hv
  have HP := Lib.hid hps
  obtain ⟨a1, c1, rfl, hac1, hc1⟩ := sees_form hps
  clear hps
  have hR0 := Lib.hid (Blk.new w #[.int .u64 0, .slice none 0 0] 33)
  have hb0 := Lib.hid (show Below w.heap.size w (w.alloc (.cells #[.int .u64 0, .slice none 0 0] 33)) by go_grown)
  have HOK := Lib.hid hok; clear hok
  obtain ⟨B0, hB0⟩ : ∃ B0, B0 = w.heap.size + 1 := ⟨_, rfl⟩
  go_enter Try.func47, Try.ntmps47
  go_wp2_with (at_builtin; refine appB (W := w) rfl _ _ rfl (.slice none 0 0) [] rfl (ownB_nil _ _) _ inside rfl (hv.below hb0.out (by decide)) (by simp only [List.length_nil]; omega) hb0.out ?_; intro v1 w1 hown1 hgr1 hb1; rw [List.nil_append] at hown1; have hR1 := hR0.out.grownBy hgr1 (fun e => by cases e); clear hgr1)
  go_loopw [9, 10, 11] (fun box i _ wr => SpRel w ps x inside at_ box i wr) (fun _ i _ _ => (intOf i + 1).toNat)
  case atStart => exact ⟨0, by omega, by go_num, hown1, hR1, hb1⟩
  case round =>
    clear hown1 hR1 hb1
    obtain ⟨n, hn, rfl, hown, hR, hbel⟩ := hrel
    obtain ⟨a2, c2, rfl, hac2, hc2⟩ := owns_form hown
    have hlen := length_spoilL ps x inside at_ n
    by_cases hlt : n < ps.length
    · obtain ⟨P, hPe⟩ : ∃ P : Nat, P + n + 1 = ps.length := ⟨ps.length - 1 - n, by omega⟩
      have hP1 : ps.length - 1 - n = P := by omega
      rw [show (ps.length : Int) - 1 - n = (P : Int) from by omega]
      have hPl : P < ps.length := by omega
      obtain ⟨b, o, c, hve, hcl, hcm, hcell⟩ := seesP_open (HP.out.below hbel (by decide)) (by omega)
      obtain ⟨rfl, rfl⟩ : a1 = some ⟨b, o, none⟩ ∧ c1 = c := by injection hve with e1 _ e3; exact ⟨e1, e3⟩
      have hcm2 : wr.cell? ⟨b, o + P * 10 + 2, none⟩ = some (.int .u64 ps[P].mix) := by rw [Nat.add_assoc]; exact hcell P 2 ps[P] _ (List.getElem?_eq_getElem hPl) rfl
      clear hcell hve
      obtain ⟨m0, m1⟩ : in64 ps[P].mix := (HOK.out _ (List.getElem_mem hPl)).2.2.1
      have hsp : spoilL ps x inside at_ (n + 1) = sealL (turnK (hopK (timesP ps[P].mix x)) (decide ((P : Int) = at_))) (put64 P) (spoilL ps x inside at_ n) := by
        rw [spoilL, hP1, List.getElem?_eq_getElem hPl]; rfl
      have HSP := Lib.hid hsp; clear hsp
      generalize ps[P].mix = mx at *
      obtain ⟨t0, t1⟩ := timesP_pos mx x
      have hKL := length_hopK (timesP mx x)
      generalize hKe : hopK (timesP mx x) = K at *
      have HKe := Lib.hid hKe; have HKL := Lib.hid hKL
      clear hKe hKL
      generalize hBX : spoilL ps x inside at_ n = bx at *
      clear hBX
      have HLEN := Lib.hid hlen; clear hlen
      have hb8 : Hid (bx.length ≤ 20000000000000) := Lib.hid (by rw [HLEN.out]; omega)
      have hcx := fun h0 : UInt8 => (show bits .xor .u8 (h0.toNat : Int) 1 = ((h0 ^^^ 1).toNat : Int) from xor_u8 h0 1)
      by_cases hat : (P : Int) = at_
      · have hbe : ((P : Int) == at_) = true := by rw [beq_iff_eq]; exact hat
        have HK2 := Lib.hid (show turnK K (decide ((P : Int) = at_)) = K.set 0 (K.getD 0 0 ^^^ 1) by unfold turnK; rw [decide_eq_true hat]; rfl)
        clear hat
        go_wp2_with (first
          | (go_at_call 21; refine (Timesr_any _ _ _ (by omega) (by omega) (by omega) (by omega)).mono ?_; rintro e w' ⟨rfl, rfl⟩)
          | (go_at_call 79; refine (HopKeyr_any _ _ ⟨by omega, by omega⟩).mono ?_; rintro e x5 ⟨rfl, hb5⟩; rw [HKe.out]; have e5 : Ext _ x5 := hb5)
          | (refine wpList_allocB rfl _ rfl _ run_allocKey ?_; intro x6 B hh hB e6)
          | (refine wpList_store_row rfl 23 _ _ rfl B (keyA K) _ _ rfl rfl hh (by rw [keyA_size, keyA_size, HKL.out]; rfl) (by rw [keyA_size, HKL.out]; exact info_key) (keyA_one _) ?_; intro x7 hg7 hs7 hR7
             have hup7 : Below wr.heap.size wr x7 := (e5.tr e6 : Below _ _ _).grown hg7 (e5.tr e6).size (fun k hk => by cases hk; exact Nat.le_trans e5.size hB)
             have hc7 : x7.cell? ⟨B, 0, none⟩ = some (BV (K.getD 0 0)) := by rw [hR7.cell, keyA, List.getElem?_toArray, List.getElem?_map, List.getD_eq_getElem?_getD, List.getElem?_eq_getElem (by rw [HKL.out]; decide)]; rfl
             have hf7 := hR7.free 0
             clear hg7 hs7))
        have hB' : wr.heap.size ≤ B := Nat.le_trans e5.size hB
        have hR8 := hR7.set 0 (BV (K.getD 0 0 ^^^ 1))
        rw [keyA_set, ← HK2.out] at hR8
        have hup8 := Below.setCell hup7 (p := ⟨B, 0, none⟩) hB' (BV (K.getD 0 0 ^^^ 1))
        have hKL2 := length_turnK K (decide ((P : Int) = at_))
        rw [HKL.out] at hKL2
        generalize turnK K (decide ((P : Int) = at_)) = K2 at *
        have HKL2 := Lib.hid hKL2; clear hKL2
        have hstab := stabKE B K2
        have hk := HoldT.drew hstab (show HoldT (KE B K2) wr _ from ⟨hR8, hup8⟩)
        try change Code.wp _ _ _ (Act.mk _ _) _
        haveI hne_ : Nonempty (InC (KE B K2)) := ⟨⟨_, (hk).1⟩⟩
        refine wp_region_tr (C := fun w_ => ∃ e_ : InC (KE B K2), w_ = e_.u) (.step [0, 1, 3] (.alt 2 (.step [] (.alt 4 (.fin [5]) .nil)) .nil)) (by kernel_rfl) (by kernel_rfl) (fun _ _ _ _ hd_ h_ => ⟨hd_.symm.trans h_.1, h_.2⟩) ⟨⟨World.drew _, (hk).1⟩, rfl⟩ ?_
        have hk_ := hk
        refine wpTr_step ?_
        simp only [pickOps, List.flatMap_cons, List.flatMap_nil, List.drop_succ_cons, List.drop_zero, List.take_succ_cons, List.take_zero, List.cons_append, List.nil_append, List.append_nil]
        iterate 3 (first | ((refine wpQuiet_load_row rfl 23 _ rfl B rfl _ (keyA K2) (0, 0) _ (fun w_ hw_ => by obtain ⟨e_, rfl⟩ := hw_; exact e_.has) under_key rfl (by rw [keyA_size, HKL2.out]; exact info_key) ?_; simp only [Act.put, List.setIfInBounds_toArray, List.set_cons_succ, List.set_cons_zero])) | go_big_quiet_step (exact rfl))
        refine wpQuiet_nil ?_
        refine wpTr_one ?_
        simp only [pickOps, List.flatMap_cons, List.flatMap_nil, List.drop_succ_cons, List.drop_zero, List.take_succ_cons, List.take_zero, List.cons_append, List.nil_append, List.append_nil]
        go_wp2_with (first
          | (go_at_call 81; refine (place_any P _ (by omega)).mono ?_; rintro e y1 ⟨v4, rfl, hown4, hb4⟩; obtain ⟨a4, c4, rfl, hac4, hc4⟩ := owns_form hown4; have hk4 := HoldT.step hstab hk_ hb4)
          | (go_at_call 80; refine (Sealr_any K2 (put64 P) bx _ _ _ HKL2.out (sees_of_owns hown4) ((sees_of_owns hown).below hk_.up (by decide)) (by rw [length_put64]; decide) hb8.out).mono ?_; rintro e y2 ⟨v5, rfl, hown5, hb5⟩; rw [← HSP.out] at hown5; obtain ⟨a5, c5, rfl, hac5, hc5⟩ := owns_form hown5; have hk5 := HoldT.step hstab hk_ hb5))
        refine phPost_hold (by first | with_reducible assumption | exact HoldT.alloc hstab (by with_reducible assumption) _ | exact HoldT.alloc hstab (HoldT.alloc hstab (by with_reducible assumption) _) _) ?_
        intro hk_
        refine wpTr_step ?_
        simp only [pickOps, List.flatMap_nil]
        refine wpQuiet_nil ?_
        refine wpTr_one ?_
        simp only [pickOps, List.flatMap_cons, List.flatMap_nil, List.drop_succ_cons, List.drop_zero, List.take_succ_cons, List.take_zero, List.cons_append, List.nil_append, List.append_nil]
        go_wp2_with (first
          | (go_at_call 81; refine (place_any P _ (by omega)).mono ?_; rintro e y1 ⟨v4, rfl, hown4, hb4⟩; obtain ⟨a4, c4, rfl, hac4, hc4⟩ := owns_form hown4; have hk4 := HoldT.step hstab hk_ hb4)
          | (go_at_call 80; refine (Sealr_any K2 (put64 P) bx _ _ _ HKL2.out (sees_of_owns hown4) ((sees_of_owns hown).below hk_.up (by decide)) (by rw [length_put64]; decide) hb8.out).mono ?_; rintro e y2 ⟨v5, rfl, hown5, hb5⟩; rw [← HSP.out] at hown5; obtain ⟨a5, c5, rfl, hac5, hc5⟩ := owns_form hown5; have hk5 := HoldT.step hstab hk_ hb5))
        refine phPost_hold (by first | with_reducible assumption | exact HoldT.alloc hstab (by with_reducible assumption) _ | exact HoldT.alloc hstab (HoldT.alloc hstab (by with_reducible assumption) _) _) ?_
        intro hk_
        refine wpTr_fin ?_
        simp only [pickOps, List.flatMap_cons, List.flatMap_nil, List.drop_succ_cons, List.drop_zero, List.take_succ_cons, List.take_zero, List.cons_append, List.nil_append, List.append_nil]
        iterate 1 (first | ((refine wpQuiet_load_row rfl 23 _ rfl B rfl _ (keyA K2) (0, 0) _ (fun w_ hw_ => by obtain ⟨e_, rfl⟩ := hw_; exact e_.has) under_key rfl (by rw [keyA_size, HKL2.out]; exact info_key) ?_; simp only [Act.put, List.setIfInBounds_toArray, List.set_cons_succ, List.set_cons_zero])) | go_big_quiet_step (exact rfl))
        refine wpQuiet_nil ?_
        go_wp2_with fail
        exact ⟨⟨n + 1, by omega, congrArg (Value.int .i64) (by omega), owns_mono hown5 (Nat.le_trans hbel.size hk4.up.size), hR.below hk_.up, hbel.trans (hk_.up.mono hbel.size)⟩, by simp only [intOf]; omega⟩
      · have hbe : ((P : Int) == at_) = false := by rw [beq_eq_false_iff_ne]; exact hat
        have HK2 := Lib.hid (show turnK K (decide ((P : Int) = at_)) = K by unfold turnK; rw [decide_eq_false hat]; rfl)
        clear hat
        go_wp2_with (first
          | (go_at_call 21; refine (Timesr_any _ _ _ (by omega) (by omega) (by omega) (by omega)).mono ?_; rintro e w' ⟨rfl, rfl⟩)
          | (go_at_call 79; refine (HopKeyr_any _ _ ⟨by omega, by omega⟩).mono ?_; rintro e x5 ⟨rfl, hb5⟩; rw [HKe.out]; have e5 : Ext _ x5 := hb5)
          | (refine wpList_allocB rfl _ rfl _ run_allocKey ?_; intro x6 B hh hB e6)
          | (refine wpList_store_row rfl 23 _ _ rfl B (keyA K) _ _ rfl rfl hh (by rw [keyA_size, keyA_size, HKL.out]; rfl) (by rw [keyA_size, HKL.out]; exact info_key) (keyA_one _) ?_; intro x7 hg7 hs7 hR8
             have hup8 : Below wr.heap.size wr x7 := (e5.tr e6 : Below _ _ _).grown hg7 (e5.tr e6).size (fun k hk => by cases hk; exact Nat.le_trans e5.size hB)
             clear hg7 hs7))
        have hB' : wr.heap.size ≤ B := Nat.le_trans e5.size hB
        rw [← HK2.out] at hR8
        have hKL2 := length_turnK K (decide ((P : Int) = at_))
        rw [HKL.out] at hKL2
        generalize turnK K (decide ((P : Int) = at_)) = K2 at *
        have HKL2 := Lib.hid hKL2; clear hKL2
        have hstab := stabKE B K2
        have hk := HoldT.drew hstab (show HoldT (KE B K2) wr _ from ⟨hR8, hup8⟩)
        try change Code.wp _ _ _ (Act.mk _ _) _
        haveI hne_ : Nonempty (InC (KE B K2)) := ⟨⟨_, (hk).1⟩⟩
        refine wp_region_tr (C := fun w_ => ∃ e_ : InC (KE B K2), w_ = e_.u) (.step [0, 1, 3] (.alt 2 (.step [] (.alt 4 (.fin [5]) .nil)) .nil)) (by kernel_rfl) (by kernel_rfl) (fun _ _ _ _ hd_ h_ => ⟨hd_.symm.trans h_.1, h_.2⟩) ⟨⟨World.drew _, (hk).1⟩, rfl⟩ ?_
        have hk_ := hk
        refine wpTr_step ?_
        simp only [pickOps, List.flatMap_cons, List.flatMap_nil, List.drop_succ_cons, List.drop_zero, List.take_succ_cons, List.take_zero, List.cons_append, List.nil_append, List.append_nil]
        iterate 3 (first | ((refine wpQuiet_load_row rfl 23 _ rfl B rfl _ (keyA K2) (0, 0) _ (fun w_ hw_ => by obtain ⟨e_, rfl⟩ := hw_; exact e_.has) under_key rfl (by rw [keyA_size, HKL2.out]; exact info_key) ?_; simp only [Act.put, List.setIfInBounds_toArray, List.set_cons_succ, List.set_cons_zero])) | go_big_quiet_step (exact rfl))
        refine wpQuiet_nil ?_
        refine wpTr_one ?_
        simp only [pickOps, List.flatMap_cons, List.flatMap_nil, List.drop_succ_cons, List.drop_zero, List.take_succ_cons, List.take_zero, List.cons_append, List.nil_append, List.append_nil]
        go_wp2_with (first
          | (go_at_call 81; refine (place_any P _ (by omega)).mono ?_; rintro e y1 ⟨v4, rfl, hown4, hb4⟩; obtain ⟨a4, c4, rfl, hac4, hc4⟩ := owns_form hown4; have hk4 := HoldT.step hstab hk_ hb4)
          | (go_at_call 80; refine (Sealr_any K2 (put64 P) bx _ _ _ HKL2.out (sees_of_owns hown4) ((sees_of_owns hown).below hk_.up (by decide)) (by rw [length_put64]; decide) hb8.out).mono ?_; rintro e y2 ⟨v5, rfl, hown5, hb5⟩; rw [← HSP.out] at hown5; obtain ⟨a5, c5, rfl, hac5, hc5⟩ := owns_form hown5; have hk5 := HoldT.step hstab hk_ hb5))
        refine phPost_hold (by first | with_reducible assumption | exact HoldT.alloc hstab (by with_reducible assumption) _ | exact HoldT.alloc hstab (HoldT.alloc hstab (by with_reducible assumption) _) _) ?_
        intro hk_
        refine wpTr_step ?_
        simp only [pickOps, List.flatMap_nil]
        refine wpQuiet_nil ?_
        refine wpTr_one ?_
        simp only [pickOps, List.flatMap_cons, List.flatMap_nil, List.drop_succ_cons, List.drop_zero, List.take_succ_cons, List.take_zero, List.cons_append, List.nil_append, List.append_nil]
        go_wp2_with (first
          | (go_at_call 81; refine (place_any P _ (by omega)).mono ?_; rintro e y1 ⟨v4, rfl, hown4, hb4⟩; obtain ⟨a4, c4, rfl, hac4, hc4⟩ := owns_form hown4; have hk4 := HoldT.step hstab hk_ hb4)
          | (go_at_call 80; refine (Sealr_any K2 (put64 P) bx _ _ _ HKL2.out (sees_of_owns hown4) ((sees_of_owns hown).below hk_.up (by decide)) (by rw [length_put64]; decide) hb8.out).mono ?_; rintro e y2 ⟨v5, rfl, hown5, hb5⟩; rw [← HSP.out] at hown5; obtain ⟨a5, c5, rfl, hac5, hc5⟩ := owns_form hown5; have hk5 := HoldT.step hstab hk_ hb5))
        refine phPost_hold (by first | with_reducible assumption | exact HoldT.alloc hstab (by with_reducible assumption) _ | exact HoldT.alloc hstab (HoldT.alloc hstab (by with_reducible assumption) _) _) ?_
        intro hk_
        refine wpTr_fin ?_
        simp only [pickOps, List.flatMap_cons, List.flatMap_nil, List.drop_succ_cons, List.drop_zero, List.take_succ_cons, List.take_zero, List.cons_append, List.nil_append, List.append_nil]
        iterate 1 (first | ((refine wpQuiet_load_row rfl 23 _ rfl B rfl _ (keyA K2) (0, 0) _ (fun w_ hw_ => by obtain ⟨e_, rfl⟩ := hw_; exact e_.has) under_key rfl (by rw [keyA_size, HKL2.out]; exact info_key) ?_; simp only [Act.put, List.setIfInBounds_toArray, List.set_cons_succ, List.set_cons_zero])) | go_big_quiet_step (exact rfl))
        refine wpQuiet_nil ?_
        go_wp2_with fail
        exact ⟨⟨n + 1, by omega, congrArg (Value.int .i64) (by omega), owns_mono hown5 (Nat.le_trans hbel.size hk4.up.size), hR.below hk_.up, hbel.trans (hk_.up.mono hbel.size)⟩, by simp only [intOf]; omega⟩
    · obtain rfl : n = ps.length := by omega
      rw [show (ps.length : Int) - 1 - ps.length = -1 from by omega]
      go_wp2_with (first
        | (go_at_call 41; refine (Baser_any _ _ (by omega) (by omega)).mono ?_; rintro e w' ⟨rfl, rfl⟩)
        | (refine wpList_store_row rfl 33 _ _ rfl w.heap.size #[.int .u64 (timesP 37 x), .slice a2 _ c2] _ _ rfl rfl hR rfl (by exact info_entry) (fun u hu => by simp at hu; rcases hu with rfl | rfl <;> rfl) ?_; intro w7 hg7 hs7 hR7))
      refine bodyPost_ret (results_cell_row Try.results47 _ _ w.heap.size _ _ (0, 0) _ rfl hR7 Try.underlying33 rfl info_entry) rfl ⟨_, rfl, ?_, hbel.grown hg7 hbel.size (fun k hk => by cases hk; exact Nat.le_refl _)⟩
      rw [← hlen]
      refine hown.kept hg7 (Or.inr (fun e => ?_))
      rcases hown.2 with ⟨h', _⟩ | ⟨g', cap, cur, h', _, hh', _⟩
      · rw [h'] at e; cases e
      · rw [h'] at e
        have : g' = w.heap.size := Option.some.inj e
        subst this
        unfold Blk at hR
        rw [hR] at hh'
        injection hh' with e1
        injection e1 with _ e2 _
        exact absurd e2 (by decide)
end Go.Proofs.Yteialfdhbfbkgaa
