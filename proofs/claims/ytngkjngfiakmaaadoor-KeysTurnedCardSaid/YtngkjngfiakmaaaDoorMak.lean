/-
  A server's secrets made: the program.
-/
import Derived.Test.YtngkjngfiakmaaaDoorNam
import Derived.Test.YtngkjngfiakmaaaDoorKc
import Derived.Great.BuildSlice
namespace Go.Proofs.YtngkjngfiakmaaaDoor
set_option linter.unusedVariables false
set_option linter.unusedSimpArgs false
open Go Go.RowKit

theorem wpList_litI {ops : Array Oper} {rest : List Oper} {o : Oper} {a : Act} {w : World} {Q : Exit → Act → World → Prop} (hgd : o.guard = none) (x y z : Operand) (ho : o.op = .buildSlice 58 3 #[(0, x), (1, y), (2, z)])
    (a1 a2 a3 : Int) (hx : a.eval x = IV a1) (hy : a.eval y = IV a2) (hz : a.eval z = IV a3)
    (h : ∀ w' B, SeesI w' (.slice (some ⟨B, 0, none⟩) 3 3) [a1, a2, a3] → Ext w w' → wpList Tryd.prog ops Q rest (a.put o.dst (.slice (some ⟨B, 0, none⟩) 3 3)) w') : wpList Tryd.prog ops Q (o :: rest) a w := by
  have hrun : (Instr.buildSlice 58 3 #[(0, IV a1), (1, IV a2), (2, IV a3)]).run Tryd.prog w = .ok (.slice (some ⟨w.heap.size, 0, none⟩) 3 3) (w.alloc (.cells #[IV a1, IV a2, IV a3] 3)) := by simp [go_sem]
  refine wpList_plain hgd fun K hK => ?_
  unfold Oper.wp
  simp only [execOp, ho, List.map_toArray, List.map_cons, List.map_nil, hx, hy, hz, Sem.run_bind, hrun, Result.andThen_ok, Sem.run_pure]
  exact hK _ _ (h _ _ (sees_new w 1 #[IV a1, IV a2, IV a3] _ 3 rfl (by decide)) (Ext.alloc _ _))
theorem info_bptr : (Tryd.prog.info? 51).map (·.size) = some 1 := by kernel_rfl
theorem run_allocBP (w : World) : (Instr.alloc 51 true (.tuple #[])).run Tryd.prog w = .ok (.pointer (some ⟨w.heap.size, 0, none⟩)) (w.alloc (.cells #[.pointer none] 51)) := by simp [go_sem]
theorem wpList_store1 {P : Program} {ops : Array Oper} {rest : List Oper} {op : Oper} {a : Act} {w : World} {Q : Exit → Act → World → Prop} (hgd : op.guard = none) (ty : TypeId) (x y : Operand) (ho : op.op = .store ty x y) (hd : op.dst = none)
    (g : Nat) (v old : Value) (t : TypeId) (hx : a.eval x = .pointer (some ⟨g, 0, none⟩)) (hy : a.eval y = v) (h1 : v.oneCell' = true) (hb : Blk w g #[old] t) (hi : (P.info? ty).map (·.size) = some 1)
    (h : ∀ w', w.grownBy w' (some g) → w'.heap.size = w.heap.size → Blk w' g #[v] t → wpList P ops Q rest a w') : wpList P ops Q (op :: rest) a w :=
  wpList_store_oneTo hgd ty x y ho hd g v hx hy h1 t old hb hi (h _ ⟨rfl, rfl, rfl, by simp [World.setRow], fun k _ hne => setRow_other w g k _ (fun e => hne (by rw [e]))⟩ (by simp [World.setRow]) (setRow_heap w g _ _ t _ hb))
theorem exI {w w' : World} {v : Value} {l : List Int} (h : SeesI w v l) (e : Ext w w' := by first | with_reducible exact Ext.refl _ | solve_by_elim (maxDepth := 30) [Ext.tr]) : SeesI w' v l := h.below e (by decide)
theorem exS {w w' : World} {g : Nat} {seed name : List UInt8} {i : Int} (h : BB g seed name i w) (e : Ext w w' := by first | with_reducible exact Ext.refl _ | solve_by_elim (maxDepth := 30) [Ext.tr]) : BB g seed name i w' := h.below e
theorem BB.ne {g A : Nat} {seed name : List UInt8} {i : Int} {w : World} {cs : Array Value} (h : BB g seed name i w) (hA : Blk w A cs 51) : A ≠ g := fun e => by
  obtain ⟨cs', hb⟩ := h.blk
  subst e
  exact (RowT.blk hA).ne (RowT.blk hb) (by decide) A rfl rfl
theorem BB.neH {S : World → Prop} {w u : World} {g A : Nat} {seed name : List UInt8} {i : Int} {cs : Array Value} (hk : HoldT S w u) (h : BB g seed name i u) (hA : Blk u A cs 51) : A ≠ g := h.ne hA
theorem BB.grownH {g : Nat} {seed name : List UInt8} {i : Int} {u u' : World} {r : Option Nat} (hg : u.grownBy u' r) (h : BB g seed name i u) (hn : some g ≠ r) : BB g seed name i u' := h.grownBy hg hn
/-- What the loop keeps. -/
def MakRel (w : World) (seed nm : List UInt8) (A g C : Nat) (k0 k1 k2 : Int) (KS : List Int) (l i : Value) (wr : World) : Prop :=
  ∃ k : Nat, k ≤ 3 ∧ i = .int .i64 k ∧ OwnU wr w.heap.size l (KS.take k) ∧ BB g seed nm (3 + k) wr ∧ Blk wr A #[.pointer (some ⟨g, 0, none⟩)] 51 ∧
    Blk wr C (SecC k0 k1 k2) 27 ∧ Blk wr (w.heap.size + 1) (SecC 0 0 0) 27 ∧ Below w.heap.size w wr
set_option maxRecDepth 100000 in
set_option maxHeartbeats 3000000 in
theorem Make_any (seed : List UInt8) (r c p : Int) (w : World) (h32 : seed.length = 32) (hr : inI r) (hc : inI c) (hp : inI p) (hit : ∀ n ∈ [r, c, p], ItoaOk w n) :
    Calls Tryd.prog 10 #[.agg (keyA seed), .int .i64 r, .int .i64 c, .int .i64 p] w (RetM (makeS seed r c p) (makeD seed r c p) w) := by
  have HK := Lib.hid h32; clear h32
  have hnl := length_namesL keysS [r, c, p] (by intro n hn; simp at hn; rcases hn with rfl | rfl | rfl <;> assumption)
  have HIN := Lib.hid (show ∀ n ∈ [r, c, p], inI n by intro n hn; simp at hn; rcases hn with rfl | rfl | rfl <;> assumption)
  have HIT := Lib.hid hit
  have hk0 := Lib.hid ((Blk.new w (keyA seed) 23).alloc (.cells #[.int .u64 0, .int .u64 0, .int .u64 0] 27))
  have hs0 := Lib.hid (Blk.new2 w (.cells (keyA seed) 23) #[.int .u64 0, .int .u64 0, .int .u64 0] 27)
  have hb0 := Lib.hid (show Below w.heap.size w ((w.alloc (.cells (keyA seed) 23)).alloc (.cells #[.int .u64 0, .int .u64 0, .int .u64 0] 27)) by go_grown)
  have hmf : ∀ (fn : Fn) (first cap : Array Value) (w : World), (Instr.makeFunc fn first cap).run Tryd.prog w = .ok (.func fn first cap) w := fun _ _ _ _ => rfl
  clear hit
  go_enter Tryd.func10, Tryd.ntmps10
  go_wp2_with fail
  have HNM := Lib.hid hnl; clear hnl
  obtain ⟨nm, hnm⟩ : ∃ nm, namesL keysS [r, c, p] = nm := ⟨_, rfl⟩
  have HN := Lib.hid hnm
  rw [hnm] at HNM
  clear hnm
  have hstab := (Stab.and (Stab.blk w.heap.size (keyA seed) 23) (Stab.blk (w.heap.size + 1) #[.int .u64 0, .int .u64 0, .int .u64 0] 27))
  have hk : HoldT (fun u => Blk u w.heap.size (keyA seed) 23 ∧ Blk u (w.heap.size + 1) #[.int .u64 0, .int .u64 0, .int .u64 0] 27) w _ := HoldT.drew hstab ⟨⟨hk0.out, hs0.out⟩, hb0.out⟩
  try change Code.wp _ _ _ (Act.mk _ _) _
  haveI hne_ : Nonempty (InC (fun u => Blk u w.heap.size (keyA seed) 23 ∧ Blk u (w.heap.size + 1) #[.int .u64 0, .int .u64 0, .int .u64 0] 27)) := ⟨⟨_, (hk).1⟩⟩
  refine wp_region_tr (C := fun w_ => ∃ e_ : InC (fun u => Blk u w.heap.size (keyA seed) 23 ∧ Blk u (w.heap.size + 1) #[.int .u64 0, .int .u64 0, .int .u64 0] 27), w_ = e_.u) (.step [0, 1, 2, 3] (.alt 4 (.step [] (.alt 5 (.step [] (.alt 6 (.step [] (.alt 7 (.step [] (.alt 8 (.fin []) .nil)) .nil)) (.alt 7 (.step [] (.alt 6 (.step [] (.alt 8 (.fin []) .nil)) .nil)) .nil))) (.alt 7 (.step [] (.alt 5 (.step [] (.alt 6 (.step [] (.alt 8 (.fin []) .nil)) .nil)) .nil)) .nil))) (.alt 7 (.step [] (.alt 4 (.step [] (.alt 5 (.step [] (.alt 6 (.step [] (.alt 8 (.fin []) .nil)) .nil)) .nil)) .nil)) .nil))) (by kernel_rfl) (by kernel_rfl) (fun _ _ _ _ hd_ h_ => ⟨hd_.symm.trans h_.1, h_.2⟩) ⟨⟨World.drew _, (hk).1⟩, rfl⟩ ?_
  have hk_ := hk
  repeat' (first
    | ((with_reducible refine wpTr_fin ?_)
       simp only [pickOps, List.flatMap_cons, List.flatMap_nil, List.drop_succ_cons, List.drop_zero, List.take_succ_cons, List.take_zero, List.cons_append, List.nil_append, List.append_nil]
       repeat (first | ((refine wpQuiet_load_row rfl 23 _ rfl w.heap.size rfl _ (keyA seed) (0, 0) _ (fun w_ hw_ => by obtain ⟨e_, rfl⟩ := hw_; exact e_.has.1) under_key rfl (by rw [keyA_size, HK.out]; exact info_key) ?_; simp only [Act.put, List.setIfInBounds_toArray, List.set_cons_succ, List.set_cons_zero])) | go_big_quiet_step (exact rfl))
       refine wpQuiet_nil ?_)
    | ((with_reducible refine wpTr_step ?_); simp only [pickOps, List.flatMap_cons, List.flatMap_nil, List.drop_succ_cons, List.drop_zero, List.take_succ_cons, List.take_zero, List.cons_append, List.nil_append, List.append_nil]; repeat (first | ((refine wpQuiet_load_row rfl 23 _ rfl w.heap.size rfl _ (keyA seed) (0, 0) _ (fun w_ hw_ => by obtain ⟨e_, rfl⟩ := hw_; exact e_.has.1) under_key rfl (by rw [keyA_size, HK.out]; exact info_key) ?_; simp only [Act.put, List.setIfInBounds_toArray, List.set_cons_succ, List.set_cons_zero])) | go_big_quiet_step (exact rfl))
       refine wpQuiet_nil ?_)
    | (with_reducible refine wpTr_one ?_)
    | (with_reducible refine wpTr_alt ?_ ?_)
    | (simp only [pickOps, List.flatMap_cons, List.flatMap_nil, List.drop_succ_cons, List.drop_zero, List.take_succ_cons, List.take_zero, List.cons_append, List.nil_append, List.append_nil]
       go_wp2_with (first
    | (refine wpList_litI rfl _ _ _ rfl r c p rfl rfl rfl ?_; intro x1 B1 hsl e1; have hk1 := HoldT.step hstab hk_ e1)
    | (go_at_call 26; refine (Named_any keysS [r, c, p] _ _ (exI hsl) HIN.out (fun n hn => (HIT.out n hn).mono hk_.up) (by decide) (by show 3 ≤ 100; decide)).mono ?_; rintro e y1 ⟨rfl, hb1⟩; rw [HN.out]; have e2 : Ext _ y1 := hb1; have hk2 := HoldT.step hstab hk_ hb1)
    | (go_at_call 25; refine (BNew_any seed nm _ HK.out).mono ?_; rintro e y2 ⟨g, rfl, hst, hgl, hb2⟩; have e3 : Ext _ y2 := hb2; have hlg : w.heap.size + 1 < g := Nat.lt_of_lt_of_le (Blk.lt hk_.has.2) hgl; have hk3 := HoldT.step hstab hk_ hb2)
    | (refine wpList_allocB rfl _ rfl _ run_allocBP ?_; intro x4 A hA hA0 e4; have hlA : w.heap.size + 1 < A := Nat.lt_of_lt_of_le (Blk.lt hk_.has.2) hA0; have hk4 := HoldT.step hstab hk_ e4)
    | (refine wpList_store1 rfl 51 _ _ rfl rfl A (.pointer (some ⟨g, 0, none⟩)) (.pointer none) _ rfl rfl rfl (exK hA) info_bptr ?_; intro x5 hg5 hs5 hz
       have hne5 := BB.neH hk_ (exS hst) (exK hA)
       have hst5 := BB.grownH hg5 (exS hst) (some_ne hne5.symm)
       have hk5 : HoldT (fun u => Blk u w.heap.size (keyA seed) 23 ∧ Blk u (w.heap.size + 1) #[.int .u64 0, .int .u64 0, .int .u64 0] 27) w x5 := ⟨⟨hk_.has.1.grownBy hg5 (some_ne (by omega)), hk_.has.2.grownBy hg5 (some_ne (by omega))⟩, hk_.up.grown hg5 hk_.up.size (fun k hk => by cases hk; omega)⟩
       clear hg5 hs5))
       refine phPost_hold (by first | with_reducible assumption | exact HoldT.alloc hstab (by with_reducible assumption) _ | exact HoldT.alloc hstab (HoldT.alloc hstab (by with_reducible assumption) _) _) ?_
       intro hk_))
  all_goals (
    go_wp2_with fail
    have hz5 := hz
    have hr5 := hk_.has.2
    have hu5 := hk_.up
    have hc5 : x5.cell? ⟨A, 0, none⟩ = some (.pointer (some ⟨g, 0, none⟩)) := by rw [hz.cell]; rfl
    have HLN := Lib.hid (Nat.le_trans HNM.out (show 4 + 21 * 3 ≤ 10000 by decide))
    have HW0 := Lib.hid (show wordN seed nm 0 % 2305843009213693950 = keysW seed r c p 0 by unfold keysW; rw [HN.out]; rfl)
    have HW1 := Lib.hid (show wordN seed nm 1 % 2305843009213693950 = keysW seed r c p 1 by unfold keysW; rw [HN.out]; rfl)
    have HW2 := Lib.hid (show wordN seed nm 2 % 2305843009213693950 = keysW seed r c p 2 by unfold keysW; rw [HN.out]; rfl)
    have HS1 := Lib.hid (show makeS seed r c p = ⟨keysW seed r c p 0, keysW seed r c p 1, keysW seed r c p 2⟩ from rfl)
    have HWL := Lib.hid (show ∀ k : Nat, k < 3 → (makeD seed r c p)[k]? = some (wordN seed nm (3 + (k : Int)) % 2305843009213693950) from fun k hk => by
      match k, hk with
      | 0, _ => show some (keysW seed r c p 3) = _; unfold keysW; rw [HN.out]; rfl
      | 1, _ => show some (keysW seed r c p 4) = _; unfold keysW; rw [HN.out]; rfl
      | 2, _ => show some (keysW seed r c p 5) = _; unfold keysW; rw [HN.out]; rfl)
    have HDL := Lib.hid (show (makeD seed r c p).length = 3 from rfl)
    generalize keysW seed r c p 0 = k0 at *
    generalize keysW seed r c p 1 = k1 at *
    generalize keysW seed r c p 2 = k2 at *
    generalize makeS seed r c p = MS at *
    generalize makeD seed r c p = KS at *
    clear hk_ hst hsl hA hz hk
    go_wp2_with (first
      | (go_at_call 27; refine (Make1_any A g seed nm 2 _ hc7 hst7 HK.out HLN.out (by decide) (by decide)).mono ?_; rintro e x8 ⟨rfl, h8, hg8⟩; rw [HW2.out]; have hst8 : BB g seed nm 3 x8 := h8; have hz8 := hz7.grownBy hg8 (some_ne hne5); have hr8 := hr7.grownBy hg8 (some_ne (by omega)); have hu8 := hu7.grown hg8 hu7.size (fun k hk => by cases hk; omega); clear h8 hg8)
      | (go_at_call 27; refine (Make1_any A g seed nm 1 _ hc6 hst6 HK.out HLN.out (by decide) (by decide)).mono ?_; rintro e x7 ⟨rfl, h7, hg7⟩; rw [HW1.out]; have hst7 : BB g seed nm 2 x7 := h7; have hz7 := hz6.grownBy hg7 (some_ne hne5); have hc7 : x7.cell? ⟨A, 0, none⟩ = some (.pointer (some ⟨g, 0, none⟩)) := (by rw [hz7.cell]; rfl); have hr7 := hr6.grownBy hg7 (some_ne (by omega)); have hu7 := hu6.grown hg7 hu6.size (fun k hk => by cases hk; omega); clear h7 hg7 hst6)
      | (go_at_call 27; refine (Make1_any A g seed nm 0 _ hc5 hst5 HK.out HLN.out (by decide) (by decide)).mono ?_; rintro e x6 ⟨rfl, h6, hg6⟩; rw [HW0.out]; have hst6 : BB g seed nm 1 x6 := h6; have hz6 := hz5.grownBy hg6 (some_ne hne5); have hc6 : x6.cell? ⟨A, 0, none⟩ = some (.pointer (some ⟨g, 0, none⟩)) := (by rw [hz6.cell]; rfl); have hr6 := hr5.grownBy hg6 (some_ne (by omega)); have hu6 := hu5.grown hg6 hu5.size (fun k hk => by cases hk; omega); clear h6 hg6 hst5)
      | (refine wpList_allocB rfl _ rfl _ run_allocSec ?_; intro x9 C hC hC0 e9)
      | (refine wpList_store_row rfl 27 _ _ rfl C (SecC k0 k1 k2) _ _ rfl rfl hC rfl info_sec (one_secC _ _ _) ?_; intro x10 hg10 hs10 hR10
         have hgC : C ≠ g := fun e => by have := Blk.lt (show Blk x8 g _ _ from hst8.blk.choose_spec); omega
         have hst10 := (hst8.below e9).grownBy hg10 (some_ne hgC.symm)
         have hz10 := (hz8.below e9).grownBy hg10 (fun e => by cases e; exact absurd (Blk.lt hz8) (by omega))
         have hr10 := (hr8.below e9).grownBy hg10 (fun e => by cases e; exact absurd (Blk.lt hr8) (by omega))
         have hu10 := Below.grown (Ext.tr hu8 e9) hg10 (Below.size (Ext.tr hu8 e9)) (fun k hk => by cases hk; exact Nat.le_trans (Below.size hu8) hC0)))
    have hstart := Lib.hid (show MakRel w seed nm A g C k0 k1 k2 KS (.slice none 0 0) (.int .i64 0) x10 from ⟨0, by omega, rfl, by rw [List.take_zero]; exact ownU_nil _ _, hst10, hz10, hR10, hr10, hu10⟩)
    have hgA : w.heap.size + 1 < C := Nat.lt_of_lt_of_le (Blk.lt hr8) hC0
    clear hst8 hz8 hr8 hu8 hC hC0 e9 hg10 hs10 hR10 hst10 hz10 hr10 hu10 hz5 hc5 hr5 hu5 hz6 hc6 hr6 hu6 hst7 hz7 hc7 hr7 hu7
    go_loopw [13, 29] (fun l i wr => MakRel w seed nm A g C k0 k1 k2 KS l i wr) (fun _ i _ => 3 - (intOf i).toNat)
    case atStart => exact hstart.out
    case round =>
      clear hstart
      obtain ⟨k, hk, rfl, hown, hst, hz, hR, hr, hu⟩ := hrel
      have hlk : (KS.take k).length = k := by rw [List.length_take, HDL.out]; omega
      obtain ⟨a1, c1, rfl, -, -⟩ := owns_form hown
      have HLK := Lib.hid hlk
      have HOW := Lib.hid hown
      clear hlk hown
      by_cases hlt : k < 3
      · have hT := Lib.hid (show KS.take k ++ [wordN seed nm (3 + (k : Int)) % 2305843009213693950] = KS.take (k + 1) by rw [List.take_add_one, HWL.out k hlt]; rfl)
        have hcA : wr.cell? ⟨A, 0, none⟩ = some (.pointer (some ⟨g, 0, none⟩)) := by rw [hz.cell]; rfl
        have HM := Lib.hid (Make1_any A g seed nm (3 + (k : Int)) wr hcA hst HK.out HLN.out (by omega) (by omega))
        have hone := own_ne HOW.out hst.blk.choose_spec (by decide)
        generalize KS.take k = ML at *
        generalize wordN seed nm (3 + (k : Int)) % 2305843009213693950 = WV at *
        have HUU := Lib.hid hu; have HST := Lib.hid hst
        clear hu hst hcA
        go_wp2_with (first
          | (go_at_call 27; refine HM.out.mono ?_; rintro e x1 ⟨rfl, h1, hg1⟩
             have hown1 := HOW.out.kept hg1 (Or.inr hone)
             have hz1 := hz.grownBy hg1 (some_ne hne5)
             have hR1 := hR.grownBy hg1 (some_ne hgC)
             have hr1 := hr.grownBy hg1 (some_ne (by omega))
             have hbel1 := HUU.out.grown hg1 HUU.out.size (fun k hk => by cases hk; omega)
             clear hg1)
          | (at_builtin; refine appU (W := w) rfl _ _ rfl (.slice a1 ML.length c1) ML rfl (hown1.alloc _) _ [WV] rfl (seesU_lit1 _ WV _) (by rw [HLK.out]; simp only [List.length_cons, List.length_nil]; omega) (hbel1.alloc hbel1.size _) ?_; intro v2 w2 hown2 hg2 hb2
             have hz2 := (hz1.alloc (.cells #[.int .u64 WV] 25)).grownBy hg2 (fun e => own_ne hown1 hz1 (by decide) e.symm)
             have hR2 := (hR1.alloc (.cells #[.int .u64 WV] 25)).grownBy hg2 (fun e => own_ne hown1 hR1 (by decide) e.symm)
             have hr2 := (hr1.alloc (.cells #[.int .u64 WV] 25)).grownBy hg2 (fun e => own_ne hown1 hr1 (by decide) e.symm)
             have hs2 := BB.grownH hg2 (h1.below (show Below x1.heap.size x1 (x1.alloc (.cells #[.int .u64 WV] 25)) by go_grown)) (fun e => own_ne hown1 h1.blk.choose_spec (by decide) e.symm)
             clear hg2))
        go_roundw
        case rel => exact ⟨k + 1, by omega, by go_num, by rw [← hT.out]; exact hown2, by rw [show (3 : Int) + ((k + 1 : Nat) : Int) = 3 + (k : Int) + 1 from by omega]; exact hs2, hz2, hR2, hr2, hb2⟩
        case measure => simp [intOf]; omega
      · obtain rfl : k = 3 := by omega
        have hO := HOW.out
        rw [List.take_of_length_le (Nat.le_of_eq HDL.out)] at hO ⊢
        have HRR := Lib.hid hr
        have HUU := Lib.hid hu
        clear hst hz hr hu
        go_wp2_with (first
          | (refine wpList_load_row rfl 27 _ rfl C rfl _ (SecC k0 k1 k2) (0, 0) _ hR Tryd.underlying27 rfl info_sec ?_)
          | (refine wpList_store_row rfl 27 _ _ rfl (w.heap.size + 1) (SecC k0 k1 k2) _ _ rfl rfl HRR.out rfl info_sec (one_secC _ _ _) ?_; intro x7 hg7 hs7 hR7
             have hup7 := HUU.out.grown hg7 HUU.out.size (fun k hk => by cases hk; omega)
             have hO7 := own_grown hO hg7 (RowT.blk HRR.out) (by decide)))
        refine bodyPost_ret (results_row_tmp Tryd.results10 _ _ (w.heap.size + 1) _ _ _ _ rfl rfl hR7 Tryd.underlying27 rfl info_sec) rfl ?_
        rw [HS1.out]
        exact ⟨_, rfl, ⟨sees_of_owns hO7, RowT.own hO7⟩, hup7⟩)
end Go.Proofs.YtngkjngfiakmaaaDoor
