/-
  OnionPeels: walked.
-/
import Derived.Test.YteialfdhbfbkgaaWr1
import Derived.Test.YteialfdhbfbkgaaPeel
import Derived.Test.YteialfdhbfbkgaaRop2
namespace Go.Proofs.Yteialfdhbfbkgaa
set_option linter.unusedVariables false
set_option linter.unusedSimpArgs false
open Go Go.RowKit

theorem run_allocEnt (w : World) : (Instr.alloc 33 true (.tuple #[])).run Try.prog w = .ok (.pointer (some ⟨w.heap.size, 0, none⟩)) (w.alloc (.cells #[.int .u64 0, .slice none 0 0] 33)) := by simp [go_sem]
theorem exP {w w' : World} {v : Value} {l : List Pub} (h : SeesP w v l) (e : Ext w w' := by first | with_reducible exact Ext.refl _ | solve_by_elim (maxDepth := 30) [Ext.tr]) : SeesP w' v l := h.below e (by decide)
/-- The chain's keys, of the call's own. -/
def ChC (B : Nat) (v u : Value) (ss : List Sec) (ps : List Pub) (x : World) : Prop := OwnS x B v ss ∧ OwnP x B u ps
theorem stabChC (B : Nat) (v u : Value) (ss : List Sec) (ps : List Pub) : Stab (ChC B v u ss ps) := fun _ _ h hb => ⟨owns_below h.1 hb, owns_below h.2 hb⟩
theorem ChC.grown {B : Nat} {v u : Value} {ss : List Sec} {ps : List Pub} {x y : World} {r : Option Nat} (h : ChC B v u ss ps x) (hg : x.grownBy y r) (hr : RowT x r 33) : ChC B v u ss ps y :=
  ⟨own_grown h.1 hg hr (by decide), own_grown h.2 hg hr (by decide)⟩
def PeelRel (w : World) (N BE : Nat) (v u : Value) (ss : List Sec) (ps : List Pub) (X : Nat → Int) (BX : Nat → List UInt8) (i : Value) (wr : World) : Prop :=
  ∃ (n : Nat) (vb : Value), 1 ≤ n ∧ n ≤ N ∧ i = .int .i64 n ∧ Blk wr BE #[.int .u64 (X n), vb] 33 ∧ OwnB wr w.heap.size vb (BX n) ∧ ChC w.heap.size v u ss ps wr ∧ Below w.heap.size w wr

/-- And the entry on its way. -/
def PlC (B BE : Nat) (v u : Value) (ss : List Sec) (ps : List Pub) (X : Int) (vb : Value) (x : World) : Prop := ChC B v u ss ps x ∧ Blk x BE #[.int .u64 X, vb] 33
theorem stabPlC (B BE : Nat) (v u : Value) (ss : List Sec) (ps : List Pub) (X : Int) (vb : Value) : Stab (PlC B BE v u ss ps X vb) := Stab.and (stabChC _ _ _ _ _) (Stab.blk _ _ _)

set_option maxRecDepth 100000 in
set_option maxHeartbeats 4000000 in
theorem OnionPeels_any (seed : List UInt8) (k x : Int) (inside : List UInt8) (v : Value) (w : World) (h32 : seed.length = 32) (hk : inI k) (hx : in64 x) (hv : SeesB w v inside) :
    Calls Try.prog 5 #[.agg (keyA seed), .int .i64 k, .int .u64 x, v] w fun e w' => e = .returned (.bool true) ∧ Below w.heap.size w w' := by
  have HK := Lib.hid h32; clear h32
  have HKI := Lib.hid hk
  obtain ⟨a0, c0, rfl, hac0, hc0⟩ := sees_form hv
  obtain ⟨k0, k1⟩ := hk
  have hk0 := Lib.hid (Blk.new w (keyA seed) 23)
  have hb0 := Lib.hid (show Below w.heap.size w (w.alloc (.cells (keyA seed) 23)) by go_grown)
  have HV := Lib.hid hv; clear hv
  by_cases hr : 1 ≤ k ∧ k ≤ 6
  · have HD := Lib.hid (decide_eq_true hr)
    by_cases hlen : inside.length ≤ 200
    · obtain ⟨N, rfl⟩ : ∃ N : Nat, k = N := ⟨k.toNat, by omega⟩
      have hN : N ≤ 6 := by omega
      have hN1 : 1 ≤ N := by omega
      have hd : ¬ (200 : Int) < (inside.length : Int) := by omega
      have hR := fun w' => LChain_any seed N w' HK.out HKI.out
      unfold RetC at hR
      rw [Int.toNat_natCast] at hR
      have hO : ∀ p ∈ keysP seed 3 4 N, p.ok := chainN_ok _ _ _
      have hLP := length_keysP seed 3 4 N
      unfold keysP at hR hO hLP
      have hso := keysSL_ok seed 3 4 N
      have hLS := length_keysSL seed 3 4 N
      generalize keysSL seed 3 4 N = ss at *
      generalize keysDL seed 3 4 N = dd at *
      have hstep := fun (i : Nat) (s : Sec) (h : ss[i]? = some s) => peel_step ss dd x inside i s h hso hx (by omega)
      have hbl := fun (i : Nat) (p : Pub) (h : (chainL ss dd)[i]? = some p) => blind_at ss dd x i p h
      have hxin : ∀ i, in64 (xAt ss dd x i) := fun i => ⟨(timesP_pos _ _).1, Int.lt_trans (timesP_pos _ _).2 (by decide)⟩
      have hbl2 : ∀ i, (boxAt (chainL ss dd) x inside i).length ≤ 1000 := fun i => by rw [length_boxAt]; omega
      have hend : boxAt (chainL ss dd) x inside N = inside := by rw [← hLP]; exact boxAt_end _ _ _
      have hW : ∀ (w' : World) (u i : Value), SeesP w' u (chainL ss dd) → SeesB w' i inside → Calls Try.prog 18 #[u, .int .u64 x, i] w' (RetE (xAt ss dd x 0) (boxAt (chainL ss dd) x inside 0) w') :=
        fun w' u i h1 h2 => Wrap_any (chainL ss dd) x inside u i w' h1 hO hx h2 (by omega) (by omega)
      generalize hXd : xAt ss dd x = X at *
      generalize hBXd : boxAt (chainL ss dd) x inside = BX at *
      clear hXd hBXd
      generalize chainL ss dd = ps at *
      have hT : ∀ (b : Int) (w' : World), in64 b → Calls Try.prog 21 #[.int .u64 b, .int .u64 x] w' fun e w'' => e = .returned (.int .u64 (timesP b x)) ∧ w' = w'' := fun b w' hb => Timesr_any b x w' hb.1 hb.2 hx.1 hx.2
      have hOp : ∀ (i : Nat) (s : Sec) (w' : World) (u : Value), ss[i]? = some s → SeesB w' u (BX i) → Calls Try.prog 20 #[.agg (SecC s.blind s.mix s.inner), .int .i64 i, .agg #[.int .u64 (X i), u]] w' (RetOE (some (X (i + 1), BX (i + 1))) w') := fun i s w' u hs hu => by
        rw [← hstep i s hs]
        exact OpenHop_any s.blind s.mix s.inner i (X i) (BX i) u w' (hso s (List.mem_of_getElem? hs)).1 (hso s (List.mem_of_getElem? hs)).2.1 (hxin i) hu (Nat.le_trans (hbl2 i) (by decide))
      have HR := Lib.hid hR; have HO := Lib.hid hO; have HLP := Lib.hid hLP; have HLS := Lib.hid hLS; have HW := Lib.hid hW; have HT := Lib.hid hT; have HOp := Lib.hid hOp; have HBL := Lib.hid hbl; have HEND := Lib.hid hend; have HXIN := Lib.hid hxin; have HBL2 := Lib.hid hbl2
      clear hR hO hLP hLS hW hT hOp hbl hend hstep hxin hbl2
      go_enter Try.func5, Try.ntmps5
      go_wp2_with (first
        | (go_at_call 15; refine (alive18_any _).mono ?_; rintro e w1 ⟨rfl, hb1⟩; have hkey1 := hk0.out.below hb1; have hbel1 := hb0.out.trans (hb1.mono hb0.out.size))
        | (refine wpList_load_row rfl 23 _ rfl w.heap.size rfl _ (keyA seed) (0, 0) _ hkey1 under_key rfl (by rw [keyA_size, HK.out]; exact info_key) ?_)
        | (go_at_call 16; refine (HR.out _).mono ?_; rintro e w2 ⟨v2, u2, rfl, hok2, hb2⟩; rw [HD.out]
           have hC2 : ChC w.heap.size v2 u2 ss ps w2 := ⟨owns_mono (hok2 hr).1 hbel1.size, owns_mono (hok2 hr).2 hbel1.size⟩
           clear hok2
           have hbel2 := hbel1.trans (hb2.mono hbel1.size)))
      obtain ⟨s0, hs0⟩ : ∃ s, ss[0]? = some s := ⟨_, List.getElem?_eq_getElem (by rw [HLS.out]; exact hN1)⟩
      obtain ⟨p0, hp0⟩ : ∃ p, ps[0]? = some p := ⟨_, List.getElem?_eq_getElem (by rw [HLP.out]; exact hN1)⟩
      have hSS : SeesS w2 v2 ss := sees_of_owns hC2.1
      have hPP : SeesP w2 u2 ps := sees_of_owns hC2.2
      have HC2 := Lib.hid hC2; clear hC2
      obtain ⟨bS, oS, cS, rfl, -, -, -⟩ := seesS_open hSS (by rw [HLS.out]; exact hN1)
      obtain ⟨bP, oP, cP, rfl, -, -, -⟩ := seesP_open hPP (by rw [HLP.out]; exact hN1)
      clear hSS hPP
      rw [HLS.out, HLP.out] at HC2 ⊢
      have hstab := stabChC w.heap.size (.slice (some ⟨bS, oS, none⟩) N cS) (.slice (some ⟨bP, oP, none⟩) N cP) ss ps
      have hk : HoldT (ChC w.heap.size (.slice (some ⟨bS, oS, none⟩) N cS) (.slice (some ⟨bP, oP, none⟩) N cP) ss ps) w w2.drew := HoldT.drew hstab ⟨HC2.out, hbel2⟩
      have HS0 := Lib.hid hs0; have HP0 := Lib.hid hp0; clear hs0 hp0
      have HW0 := Lib.hid (fun (w' : World) => HW.out w' (.slice (some ⟨bP, oP, none⟩) N cP))
      try change Code.wp _ _ _ (Act.mk _ _) _
      haveI hne_ : Nonempty (InC (ChC w.heap.size (.slice (some ⟨bS, oS, none⟩) N cS) (.slice (some ⟨bP, oP, none⟩) N cP) ss ps)) := ⟨⟨_, (hk).1⟩⟩
      refine wp_region_tr (C := fun w_ => ∃ e_ : InC (ChC w.heap.size (.slice (some ⟨bS, oS, none⟩) N cS) (.slice (some ⟨bP, oP, none⟩) N cP) ss ps), w_ = e_.u) (.step [0, 1, 2, 3, 4, 5] (.alt 6 (.step [] (.alt 7 (.step [8, 9, 10] (.alt 11 (.step [] (.alt 12 (.fin [13]) .nil)) .nil)) (.alt 11 (.step [] (.alt 7 (.step [8, 9, 10] (.alt 12 (.fin [13]) .nil)) .nil)) .nil))) (.alt 11 (.step [] (.alt 6 (.step [] (.alt 7 (.step [8, 9, 10] (.alt 12 (.fin [13]) .nil)) .nil)) .nil)) .nil))) (by kernel_rfl) (by kernel_rfl) (fun _ _ _ _ hd_ h_ => ⟨hd_.symm.trans h_.1, h_.2⟩) ⟨⟨World.drew _, (hk).1⟩, rfl⟩ ?_
      have hk_ := hk
      repeat' (first
        | ((with_reducible refine wpTr_fin ?_)
           simp only [pickOps, List.flatMap_cons, List.flatMap_nil, List.drop_succ_cons, List.drop_zero, List.take_succ_cons, List.take_zero, List.cons_append, List.nil_append, List.append_nil]
           repeat (first | ((refine wpQuiet_load_mid rfl 40 _ rfl bS oS rfl s0.cells _ (fun w_ hw_ => by obtain ⟨e_, rfl⟩ := hw_; have := seesS_at (sees_of_owns e_.has.1) (by rw [HLS.out]; exact hN1) 0 s0 HS0.out; simpa using this) Try.underlying40 rfl info_sec ?_; simp only [Act.put, List.setIfInBounds_toArray, List.set_cons_succ, List.set_cons_zero])) | go_big_quiet_step (exact rfl))
           refine wpQuiet_nil ?_)
        | ((with_reducible refine wpTr_step ?_); simp only [pickOps, List.flatMap_cons, List.flatMap_nil, List.drop_succ_cons, List.drop_zero, List.take_succ_cons, List.take_zero, List.cons_append, List.nil_append, List.append_nil]; repeat (first | ((refine wpQuiet_load_mid rfl 40 _ rfl bS oS rfl s0.cells _ (fun w_ hw_ => by obtain ⟨e_, rfl⟩ := hw_; have := seesS_at (sees_of_owns e_.has.1) (by rw [HLS.out]; exact hN1) 0 s0 HS0.out; simpa using this) Try.underlying40 rfl info_sec ?_; simp only [Act.put, List.setIfInBounds_toArray, List.set_cons_succ, List.set_cons_zero])) | go_big_quiet_step (exact rfl))
           refine wpQuiet_nil ?_)
        | (with_reducible refine wpTr_one ?_)
        | (with_reducible refine wpTr_alt ?_ ?_)
        | (simp only [pickOps, List.flatMap_cons, List.flatMap_nil, List.drop_succ_cons, List.drop_zero, List.take_succ_cons, List.take_zero, List.cons_append, List.nil_append, List.append_nil]
           go_wp2_with (first
        | (go_at_call 18; refine (HW0.out _ _ (sees_of_owns hk_.has.2) (HV.out.below hk_.up (by decide))).mono ?_; rintro e y1 ⟨v3, rfl, hown3, hb3⟩; obtain ⟨a3, c3, rfl, -, -⟩ := owns_form hown3; have e3 : Ext _ y1 := hb3; have hk3 := HoldT.step hstab hk_ hb3)
        | (go_at_call 20; refine (HOp.out 0 s0 _ _ HS0.out (exB (sees_of_owns hown3))).mono ?_; rintro e y2 ⟨v4, rfl, hown4, hb4⟩; simp only [Option.getD_some] at hown4; obtain ⟨a4, c4, rfl, -, -⟩ := owns_form hown4; have e4 : Ext _ y2 := hb4; have hown4' := owns_mono hown4 hk_.up.size; have hk4 := HoldT.step hstab hk_ hb4)
        | (refine wpList_allocB rfl _ rfl _ run_allocEnt ?_; intro y5 BE hh hBE e5; have hBE5 : w.heap.size ≤ BE := Nat.le_trans hk_.up.size hBE; have hk5 := HoldT.step hstab hk_ e5)
        | (refine wpList_store_row rfl 33 _ _ rfl BE #[.int .u64 (X 1), .slice a4 (BX 1).length c4] _ _ rfl rfl (exK hh) rfl info_entry (by intro v hv; simp at hv; rcases hv with rfl | rfl <;> rfl) ?_; intro y6 hg6 hs6 hR6
           have hown6 := own_grown (owns_below hown4' (show Ext y2 _ from (by first | with_reducible exact Ext.refl _ | solve_by_elim (maxDepth := 8) [Ext.tr]))) hg6 (RowT.blk (exK hh)) (by decide)
           have hk6 : HoldT (ChC w.heap.size (.slice (some ⟨bS, oS, none⟩) N cS) (.slice (some ⟨bP, oP, none⟩) N cP) ss ps) w y6 := ⟨hk_.has.grown hg6 (RowT.blk (exK hh)), hk_.up.grown hg6 hk_.up.size (fun k hk => by cases hk; exact hBE5)⟩))
           refine phPost_hold (by first | with_reducible assumption | exact HoldT.alloc hstab (by with_reducible assumption) _ | exact HoldT.alloc hstab (HoldT.alloc hstab (by with_reducible assumption) _) _) ?_
           intro hk_))
      all_goals (
        have hCC := Stab.and (stabChC w.heap.size (.slice (some ⟨bS, oS, none⟩) N cS) (.slice (some ⟨bP, oP, none⟩) N cP) ss ps) (Stab.blk BE #[.int .u64 (X 1), .slice a4 (BX 1).length c4] 33)
        have hkz : HoldT (fun u => ChC w.heap.size (.slice (some ⟨bS, oS, none⟩) N cS) (.slice (some ⟨bP, oP, none⟩) N cP) ss ps u ∧ Blk u BE #[.int .u64 (X 1), .slice a4 (BX 1).length c4] 33) w y6.drew := HoldT.drew hCC ⟨⟨hk_.has, hR6⟩, hk_.up⟩
        have hcA : ∀ e : InC (fun u => ChC w.heap.size (.slice (some ⟨bS, oS, none⟩) N cS) (.slice (some ⟨bP, oP, none⟩) N cP) ss ps u ∧ Blk u BE #[.int .u64 (X 1), .slice a4 (BX 1).length c4] 33), e.u.cell? ⟨BE, 0, none⟩ = some (.int .u64 (X 1)) := fun e => by rw [e.has.2.cell]; rfl
        have hcB : ∀ e : InC (fun u => ChC w.heap.size (.slice (some ⟨bS, oS, none⟩) N cS) (.slice (some ⟨bP, oP, none⟩) N cP) ss ps u ∧ Blk u BE #[.int .u64 (X 1), .slice a4 (BX 1).length c4] 33), e.u.cell? ⟨bP, oP + 1, none⟩ = some (.int .u64 p0.blind) := fun e => by
          have := seesP_at (sees_of_owns e.has.1.2) (by rw [HLP.out]; exact hN1) 0 p0 HP0.out 1 (.int .u64 p0.blind) rfl
          simpa using this
        have HPB := Lib.hid (HO.out p0 (List.mem_of_getElem? HP0.out)).2.1
        have HB0 := Lib.hid (HBL.out 0 p0 HP0.out)
        have HBE := Lib.hid hBE5
        clear hg6 hs6
        go_wp2_with fail
        try change Code.wp _ _ _ (Act.mk _ _) _
        haveI hne_ : Nonempty (InC (fun u => ChC w.heap.size (.slice (some ⟨bS, oS, none⟩) N cS) (.slice (some ⟨bP, oP, none⟩) N cP) ss ps u ∧ Blk u BE #[.int .u64 (X 1), .slice a4 (BX 1).length c4] 33)) := ⟨⟨_, (hkz).1⟩⟩
        refine wp_region_tr (C := fun w_ => ∃ e_ : InC (fun u => ChC w.heap.size (.slice (some ⟨bS, oS, none⟩) N cS) (.slice (some ⟨bP, oP, none⟩) N cP) ss ps u ∧ Blk u BE #[.int .u64 (X 1), .slice a4 (BX 1).length c4] 33), w_ = e_.u) (.step [0, 1, 2, 3, 4, 5, 6, 7, 8, 9] (.alt 10 (.step [11] (.alt 12 (.fin []) .nil)) .nil)) (by kernel_rfl) (by kernel_rfl) (fun _ _ _ _ hd_ h_ => ⟨hd_.symm.trans h_.1, h_.2⟩) ⟨⟨World.drew _, (hkz).1⟩, rfl⟩ ?_
        have hk_ := hkz
        repeat' (first
          | ((with_reducible refine wpTr_fin ?_)
             simp only [pickOps, List.flatMap_cons, List.flatMap_nil, List.drop_succ_cons, List.drop_zero, List.take_succ_cons, List.take_zero, List.cons_append, List.nil_append, List.append_nil]
             repeat (go_big_quiet_step (exact rfl))
             refine wpQuiet_nil ?_)
          | ((with_reducible refine wpTr_step ?_); simp only [pickOps, List.flatMap_cons, List.flatMap_nil, List.drop_succ_cons, List.drop_zero, List.take_succ_cons, List.take_zero, List.cons_append, List.nil_append, List.append_nil]; repeat (go_big_quiet_step (exact rfl))
             refine wpQuiet_nil ?_)
          | (with_reducible refine wpTr_one ?_)
          | (with_reducible refine wpTr_alt ?_ ?_)
          | (simp only [pickOps, List.flatMap_cons, List.flatMap_nil, List.drop_succ_cons, List.drop_zero, List.take_succ_cons, List.take_zero, List.cons_append, List.nil_append, List.append_nil]
             go_wp2_with (first
          | (go_at_call 21; refine (HT.out p0.blind _ HPB.out).mono ?_; rintro e w' ⟨rfl, rfl⟩; rw [HB0.out]))
             refine phPost_hold (by first | with_reducible assumption | exact HoldT.alloc hstab (by with_reducible assumption) _ | exact HoldT.alloc hstab (HoldT.alloc hstab (by with_reducible assumption) _) _) ?_
             intro hk_))
        have hC6 := hk_.has.1
        have hR6' := hk_.has.2
        have hup6 := hk_.up
        have hown6' := owns_below hown6 (show Ext y6 _ from Ext.drew y6)
        go_wp2_with fail
        go_loopw [8, 14, 15] (fun _ _ i wr => PeelRel w N BE (.slice (some ⟨bS, oS, none⟩) N cS) (.slice (some ⟨bP, oP, none⟩) N cP) ss ps X BX i wr) (fun _ _ i _ => N - (intOf i).toNat)
        case atStart => exact ⟨1, _, Nat.le_refl _, hN1, rfl, hR6', hown6', hC6, hup6⟩
        case round =>
          clear hC6 hR6' hup6 hown6' hown6 hR6 hk6
          obtain ⟨n, vb, h1n, hnN, rfl, hblk, hownb, hC, hup⟩ := hrel
          obtain ⟨ab, cb, rfl, -, -⟩ := owns_form hownb
          by_cases hlt : n < N
          · obtain ⟨sn, hsn⟩ : ∃ s, ss[n]? = some s := ⟨_, List.getElem?_eq_getElem (by rw [HLS.out]; exact hlt)⟩
            obtain ⟨pn, hpn⟩ : ∃ p, ps[n]? = some p := ⟨_, List.getElem?_eq_getElem (by rw [HLP.out]; exact hlt)⟩
            have HSN := Lib.hid hsn; have HPN := Lib.hid hpn; clear hsn hpn
            have hk2 : HoldT (ChC w.heap.size (.slice (some ⟨bS, oS, none⟩) N cS) (.slice (some ⟨bP, oP, none⟩) N cP) ss ps) w wr.drew := HoldT.drew hstab ⟨hC, hup⟩
            have e0 := Ext.drew wr
            have HOn := Lib.hid (HOp.out n sn)
            go_wp2_with fail
            try change Code.wp _ _ _ (Act.mk _ _) _
            haveI hne_ : Nonempty (InC (ChC w.heap.size (.slice (some ⟨bS, oS, none⟩) N cS) (.slice (some ⟨bP, oP, none⟩) N cP) ss ps)) := ⟨⟨_, (hk2).1⟩⟩
            refine wp_region_tr (C := fun w_ => ∃ e_ : InC (ChC w.heap.size (.slice (some ⟨bS, oS, none⟩) N cS) (.slice (some ⟨bP, oP, none⟩) N cP) ss ps), w_ = e_.u) (.step [0, 1, 2, 3, 4] (.alt 5 (.step [] (.alt 6 (.step [7, 8, 9] (.alt 10 (.fin [11]) .nil)) .nil)) .nil)) (by kernel_rfl) (by kernel_rfl) (fun _ _ _ _ hd_ h_ => ⟨hd_.symm.trans h_.1, h_.2⟩) ⟨⟨World.drew _, (hk2).1⟩, rfl⟩ ?_
            have hk_ := hk2
            repeat' (first
              | ((with_reducible refine wpTr_fin ?_)
                 simp only [pickOps, List.flatMap_cons, List.flatMap_nil, List.drop_succ_cons, List.drop_zero, List.take_succ_cons, List.take_zero, List.cons_append, List.nil_append, List.append_nil]
                 repeat (first | ((refine wpQuiet_load_mid rfl 40 _ rfl bS (oS + n * 3) rfl sn.cells _ (fun w_ hw_ => by obtain ⟨e_, rfl⟩ := hw_; exact seesS_at (sees_of_owns e_.has.1) (by rw [HLS.out]; exact hN1) n sn HSN.out) Try.underlying40 rfl info_sec ?_; simp only [Act.put, List.setIfInBounds_toArray, List.set_cons_succ, List.set_cons_zero])) | go_big_quiet_step (exact rfl))
                 refine wpQuiet_nil ?_)
              | ((with_reducible refine wpTr_step ?_); simp only [pickOps, List.flatMap_cons, List.flatMap_nil, List.drop_succ_cons, List.drop_zero, List.take_succ_cons, List.take_zero, List.cons_append, List.nil_append, List.append_nil]; repeat (first | ((refine wpQuiet_load_mid rfl 40 _ rfl bS (oS + n * 3) rfl sn.cells _ (fun w_ hw_ => by obtain ⟨e_, rfl⟩ := hw_; exact seesS_at (sees_of_owns e_.has.1) (by rw [HLS.out]; exact hN1) n sn HSN.out) Try.underlying40 rfl info_sec ?_; simp only [Act.put, List.setIfInBounds_toArray, List.set_cons_succ, List.set_cons_zero])) | go_big_quiet_step (exact rfl))
                 refine wpQuiet_nil ?_)
              | (with_reducible refine wpTr_one ?_)
              | (with_reducible refine wpTr_alt ?_ ?_)
              | (simp only [pickOps, List.flatMap_cons, List.flatMap_nil, List.drop_succ_cons, List.drop_zero, List.take_succ_cons, List.take_zero, List.cons_append, List.nil_append, List.append_nil]
                 go_wp2_with (first
              | (refine wpList_load_row rfl 33 _ rfl BE rfl _ #[.int .u64 (X n), .slice ab (BX n).length cb] (0, 0) _ (exK hblk) Try.underlying33 rfl info_entry ?_)
              | (go_at_call 20; refine (HOn.out _ _ HSN.out (exB (sees_of_owns hownb))).mono ?_; rintro e y2 ⟨v4, rfl, hown4, hb4⟩; simp only [Option.getD_some] at hown4; obtain ⟨a4, c4, rfl, -, -⟩ := owns_form hown4; have e4 : Ext _ y2 := hb4; have hown4' := owns_mono hown4 hk_.up.size; have hk4 := HoldT.step hstab hk_ hb4)
              | (refine wpList_store_row rfl 33 _ _ rfl BE #[.int .u64 (X (n + 1)), .slice a4 (BX (n + 1)).length c4] _ _ rfl rfl (exK hblk) rfl info_entry (by intro v hv; simp at hv; rcases hv with rfl | rfl <;> rfl) ?_; intro y6 hg6 hs6 hR6
                 have hown6 := own_grown hown4' hg6 (RowT.blk (exK hblk)) (by decide)
                 have hk6 : HoldT (ChC w.heap.size (.slice (some ⟨bS, oS, none⟩) N cS) (.slice (some ⟨bP, oP, none⟩) N cP) ss ps) w y6 := ⟨hk_.has.grown hg6 (RowT.blk (exK hblk)), hk_.up.grown hg6 hk_.up.size (fun k hk => by cases hk; exact HBE.out)⟩
                 clear hg6 hs6))
                 refine phPost_hold (by first | with_reducible assumption | exact HoldT.alloc hstab (by with_reducible assumption) _ | exact HoldT.alloc hstab (HoldT.alloc hstab (by with_reducible assumption) _) _) ?_
                 intro hk_))
            have hst3 := stabPlC w.heap.size BE (.slice (some ⟨bS, oS, none⟩) N cS) (.slice (some ⟨bP, oP, none⟩) N cP) ss ps (X (n + 1)) (.slice a4 (BX (n + 1)).length c4)
            have hk3 : HoldT (PlC w.heap.size BE (.slice (some ⟨bS, oS, none⟩) N cS) (.slice (some ⟨bP, oP, none⟩) N cP) ss ps (X (n + 1)) (.slice a4 (BX (n + 1)).length c4)) w y6.drew := HoldT.drew hst3 ⟨⟨hk_.has, hR6⟩, hk_.up⟩
            have hcC : ∀ e : InC (PlC w.heap.size BE (.slice (some ⟨bS, oS, none⟩) N cS) (.slice (some ⟨bP, oP, none⟩) N cP) ss ps (X (n + 1)) (.slice a4 (BX (n + 1)).length c4)), e.u.cell? ⟨BE, 0, none⟩ = some (.int .u64 (X (n + 1))) := fun e => by rw [e.has.2.cell]; rfl
            have hcD : ∀ e : InC (PlC w.heap.size BE (.slice (some ⟨bS, oS, none⟩) N cS) (.slice (some ⟨bP, oP, none⟩) N cP) ss ps (X (n + 1)) (.slice a4 (BX (n + 1)).length c4)), e.u.cell? ⟨bP, oP + n * 10 + 1, none⟩ = some (.int .u64 pn.blind) := fun e =>
              seesP_at (sees_of_owns e.has.1.2) (by rw [HLP.out]; exact hN1) n pn HPN.out 1 (.int .u64 pn.blind) rfl
            have HPBn := Lib.hid (HO.out pn (List.mem_of_getElem? HPN.out)).2.1
            have HBn := Lib.hid (HBL.out n pn HPN.out)
            have e6 := Ext.drew y6
            go_wp2_with fail
            try change Code.wp _ _ _ (Act.mk _ _) _
            haveI hne_ : Nonempty (InC (PlC w.heap.size BE (.slice (some ⟨bS, oS, none⟩) N cS) (.slice (some ⟨bP, oP, none⟩) N cP) ss ps (X (n + 1)) (.slice a4 (BX (n + 1)).length c4))) := ⟨⟨_, (hk3).1⟩⟩
            refine wp_region_tr (C := fun w_ => ∃ e_ : InC (PlC w.heap.size BE (.slice (some ⟨bS, oS, none⟩) N cS) (.slice (some ⟨bP, oP, none⟩) N cP) ss ps (X (n + 1)) (.slice a4 (BX (n + 1)).length c4)), w_ = e_.u) (.step [0, 1, 2, 3, 4, 5, 6, 7, 8, 9, 10] (.alt 11 (.step [12] (.alt 13 (.fin []) .nil)) .nil)) (by kernel_rfl) (by kernel_rfl) (fun _ _ _ _ hd_ h_ => ⟨hd_.symm.trans h_.1, h_.2⟩) ⟨⟨World.drew _, (hk3).1⟩, rfl⟩ ?_
            have hk_ := hk3
            repeat' (first
              | ((with_reducible refine wpTr_fin ?_)
                 simp only [pickOps, List.flatMap_cons, List.flatMap_nil, List.drop_succ_cons, List.drop_zero, List.take_succ_cons, List.take_zero, List.cons_append, List.nil_append, List.append_nil]
                 repeat (go_big_quiet_step (exact rfl))
                 refine wpQuiet_nil ?_)
              | ((with_reducible refine wpTr_step ?_); simp only [pickOps, List.flatMap_cons, List.flatMap_nil, List.drop_succ_cons, List.drop_zero, List.take_succ_cons, List.take_zero, List.cons_append, List.nil_append, List.append_nil]; repeat (go_big_quiet_step (exact rfl))
                 refine wpQuiet_nil ?_)
              | (with_reducible refine wpTr_one ?_)
              | (with_reducible refine wpTr_alt ?_ ?_)
              | (simp only [pickOps, List.flatMap_cons, List.flatMap_nil, List.drop_succ_cons, List.drop_zero, List.take_succ_cons, List.take_zero, List.cons_append, List.nil_append, List.append_nil]
                 go_wp2_with (first
              | (go_at_call 21; refine (HT.out pn.blind _ HPBn.out).mono ?_; rintro e w' ⟨rfl, rfl⟩; rw [HBn.out]))
                 refine phPost_hold (by first | with_reducible assumption | exact HoldT.alloc hstab (by with_reducible assumption) _ | exact HoldT.alloc hstab (HoldT.alloc hstab (by with_reducible assumption) _) _) ?_
                 intro hk_))
            have hown7 := owns_below hown6 (show Ext y6 _ from e6)
            go_wp2_with fail
            go_roundw
            case rel => exact ⟨n + 1, _, by omega, by omega, by go_num, hk_.has.2, hown7, hk_.has.1, hk_.up⟩
            case measure => simp [intOf]; omega
          · obtain rfl : n = N := by omega
            have hce : wr.cell? ⟨BE, 1, none⟩ = some (.slice ab (BX n).length cb) := by rw [hblk.cell]; rfl
            rw [HEND.out] at hownb hce
            have hcv1 := conv_str _ _ _ (sees_of_owns hownb)
            have hcv2 := conv_str _ _ _ (HV.out.below hup (by decide))
            go_wp2_with fail
            go_ret
            exact ⟨by simp, hup⟩)
    · have hd : (200 : Int) < (inside.length : Int) := by omega
      go_enter Try.func5, Try.ntmps5
      go_wp2_with (first
        | (go_at_call 15; refine (alive18_any _).mono ?_; rintro e w1 ⟨rfl, hb1⟩; have hkey1 := hk0.out.below hb1; have hbel1 := hb0.out.trans (hb1.mono hb0.out.size))
        | (refine wpList_load_row rfl 23 _ rfl w.heap.size rfl _ (keyA seed) (0, 0) _ hkey1 under_key rfl (by rw [keyA_size, HK.out]; exact info_key) ?_)
        | (go_at_call 16; refine (LChain_any seed k _ HK.out HKI.out).mono ?_; rintro e w2 ⟨v2, u2, rfl, hok2, hb2⟩; rw [HD.out]; have hbel2 := hbel1.trans (hb2.mono hbel1.size)))
      go_ret
      exact ⟨rfl, hbel2⟩
  · have HD := Lib.hid (decide_eq_false hr)
    go_enter Try.func5, Try.ntmps5
    go_wp2_with (first
      | (go_at_call 15; refine (alive18_any _).mono ?_; rintro e w1 ⟨rfl, hb1⟩; have hkey1 := hk0.out.below hb1; have hbel1 := hb0.out.trans (hb1.mono hb0.out.size))
      | (refine wpList_load_row rfl 23 _ rfl w.heap.size rfl _ (keyA seed) (0, 0) _ hkey1 under_key rfl (by rw [keyA_size, HK.out]; exact info_key) ?_)
      | (go_at_call 16; refine (LChain_any seed k _ HK.out HKI.out).mono ?_; rintro e w2 ⟨v2, u2, rfl, hok2, hb2⟩; rw [HD.out]; have hbel2 := hbel1.trans (hb2.mono hbel1.size)))
    go_ret
    exact ⟨rfl, hbel2⟩
end Go.Proofs.Yteialfdhbfbkgaa
