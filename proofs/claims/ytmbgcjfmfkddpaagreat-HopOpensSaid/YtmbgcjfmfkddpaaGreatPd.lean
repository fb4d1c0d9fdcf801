/-
  Proofs of knowledge: their parts, both programs.
  Proofs of knowledge checked: both programs. (Printed by wip/gen_proof2.py.)
  CheckEqual of the program. (Printed by wip/gen_proof2.py.)
  Two proofs compared.
  What a proof made with the secret gives.
-/
import Derived.Test.YtmbgcjfmfkddpaaGreatPc
import Derived.Test.YtmbgcjfmfkddpaaGreatPa
import Derived.Laws.StructEq
namespace Go.Proofs.YtmbgcjfmfkddpaaGreat
set_option linter.unusedVariables false
set_option linter.unusedSimpArgs false
open Go Go.RowKit

def smallP (c s : Int) : Prop := c < 2305843009213693950 ∧ s < 2305843009213693950
instance (c s : Int) : Decidable (smallP c s) := by unfold smallP; infer_instance
def backP (g x c s : Int) : Int := timesP g s * timesP x c % 2305843009213693951
theorem backP_pos (g x c s : Int) : 0 ≤ backP g x c s ∧ backP g x c s < 2305843009213693951 := by unfold backP; omega
def ansP (c secret draw : Int) : Int := subN draw (mulN c secret)
theorem ansP_pos (c secret draw : Int) : 0 ≤ ansP c secret draw ∧ ansP c secret draw < 2305843009213693950 := subN_pos _ _

set_option maxHeartbeats 400000 in
theorem Answer_any (c secret draw : Int) (w : World) (hc0 : 0 ≤ c) (hc : c < 18446744073709551616) (hs0 : 0 ≤ secret) (hs : secret < 18446744073709551616) (hd0 : 0 ≤ draw) (hd : draw < 18446744073709551616) :
    Calls Tryz.prog 50 #[.int .u64 c, .int .u64 secret, .int .u64 draw] w (RetQ (.int .u64 (ansP c secret draw)) w) := by
  obtain ⟨m0, m1⟩ := mulN_pos c secret
  unfold ansP
  generalize hm : mulN c secret = M at *
  have HM := Lib.hid hm; clear hm
  go_enter Tryz.func50, Tryz.ntmps50
  go_wp2_with (first
    | (go_at_call 73; refine (MulS_any _ _ _ (by omega) (by omega) (by omega) (by omega)).mono ?_; rintro e w' ⟨rfl, n1, rfl⟩; rw [HM.out])
    | (go_at_call 72; refine (Sub_any _ _ _ (by omega) (by omega) (by omega) (by omega)).mono ?_; rintro e w' ⟨rfl, rfl⟩))
  go_ret
  exact ⟨rfl, _, rfl⟩
set_option maxHeartbeats 400000 in
theorem Answerr_any (c secret draw : Int) (w : World) (hc0 : 0 ≤ c) (hc : c < 18446744073709551616) (hs0 : 0 ≤ secret) (hs : secret < 18446744073709551616) (hd0 : 0 ≤ draw) (hd : draw < 18446744073709551616) :
    Calls Tryz.prog 94 #[.int .u64 draw, .int .u64 c, .int .u64 secret] w (RetQ (.int .u64 (ansP c secret draw)) w) := by
  obtain ⟨m0, m1⟩ := mulN_pos c secret
  unfold ansP
  generalize hm : mulN c secret = M at *
  have HM := Lib.hid hm; clear hm
  go_enter Tryz.func94, Tryz.ntmps94
  go_wp2_with (first
    | (go_at_call 14; refine (MulN_any _ _ _ (by omega) (by omega) (by omega) (by omega)).mono ?_; rintro e w' ⟨rfl, rfl⟩; rw [HM.out])
    | (go_at_call 106; refine (SubN_any _ _ _ (by omega) (by omega) (by omega) (by omega)).mono ?_; rintro e w' ⟨rfl, rfl⟩))
  go_ret
  exact ⟨rfl, 0, rfl⟩

set_option maxHeartbeats 400000 in
theorem PRight_any (c s : Int) (w : World) :
    Calls Tryz.prog 52 #[.agg #[.int .u64 c, .int .u64 s]] w fun e w' => e = .returned (.bool (decide (smallP c s))) ∧ Below w.heap.size w w' := by
  by_cases h0 : c < 2305843009213693950
  · by_cases h1 : s < 2305843009213693950
    · have hb := Lib.hid (show decide (smallP c s) = true by simp [smallP, h0, h1])
      generalize decide (smallP c s) = b at *
      go_enter Tryz.func52, Tryz.ntmps52
      go_wp2
      go_ret
      exact ⟨ret_bool hb.out.symm, by go_grown⟩
    · have hb := Lib.hid (show decide (smallP c s) = false by simp [smallP, h1])
      generalize decide (smallP c s) = b at *
      go_enter Tryz.func52, Tryz.ntmps52
      go_wp2
      go_ret
      exact ⟨ret_bool hb.out.symm, by go_grown⟩
  · have hb := Lib.hid (show decide (smallP c s) = false by simp [smallP, h0])
    generalize decide (smallP c s) = b at *
    go_enter Tryz.func52, Tryz.ntmps52
    go_wp2
    go_ret
    exact ⟨ret_bool hb.out.symm, by go_grown⟩
set_option maxHeartbeats 400000 in
theorem small_any (c s : Int) (w : World) :
    Calls Tryz.prog 54 #[.agg #[.int .u64 c, .int .u64 s]] w fun e w' => e = .returned (.bool (decide (smallP c s))) ∧ Below w.heap.size w w' := by
  by_cases h0 : c < 2305843009213693950
  · by_cases h1 : s < 2305843009213693950
    · have hb := Lib.hid (show decide (smallP c s) = true by simp [smallP, h0, h1])
      generalize decide (smallP c s) = b at *
      go_enter Tryz.func54, Tryz.ntmps54
      go_wp2
      go_ret
      exact ⟨ret_bool hb.out.symm, by go_grown⟩
    · have hb := Lib.hid (show decide (smallP c s) = false by simp [smallP, h1])
      generalize decide (smallP c s) = b at *
      go_enter Tryz.func54, Tryz.ntmps54
      go_wp2
      go_ret
      exact ⟨ret_bool hb.out.symm, by go_grown⟩
  · have hb := Lib.hid (show decide (smallP c s) = false by simp [smallP, h0])
    generalize decide (smallP c s) = b at *
    go_enter Tryz.func54, Tryz.ntmps54
    go_wp2
    go_ret
    exact ⟨ret_bool hb.out.symm, by go_grown⟩

theorem prodP_two (a b : Int) (ha0 : 0 ≤ a) (ha : a < 2305843009213693951) (hb0 : 0 ≤ b) (hb : b < 2305843009213693951) : prodP [a, b] 1 = a * b % 2305843009213693951 := by
  simp only [prodP]
  by_cases h : a = 0
  · subst h; rw [if_neg (fun h : okP 0 => absurd h.1 (by decide)), Int.zero_mul]; rfl
  · by_cases h2 : b = 0
    · subst h2; rw [if_pos (show okP a from ⟨by omega, by omega⟩), if_neg (fun h : okP 0 => absurd h.1 (by decide)), Int.mul_zero]; rfl
    · rw [if_pos (show okP a from ⟨by omega, by omega⟩), if_pos (show okP b from ⟨by omega, by omega⟩), Int.one_mul, Int.emod_eq_of_lt ha0 ha]
set_option maxHeartbeats 400000 in
theorem Back_any (g x c s : Int) (w : World) (hg : in64 g) (hx : in64 x) (hc : in64 c) (hs : in64 s) :
    Calls Tryz.prog 53 #[.int .u64 g, .int .u64 x, .agg #[.int .u64 c, .int .u64 s]] w fun e w' => e = .returned (.int .u64 (backP g x c s)) ∧ Below w.heap.size w w' := by
  obtain ⟨g0, g1⟩ := hg; obtain ⟨x0, x1⟩ := hx; obtain ⟨c0, c1⟩ := hc; obtain ⟨s0, s1⟩ := hs
  obtain ⟨t0, t1⟩ := timesP_pos g s
  obtain ⟨u0, u1⟩ := timesP_pos x c
  have HB := Lib.hid (show backP g x c s = prodP [timesP g s, timesP x c] 1 by rw [prodP_two _ _ t0 t1 u0 u1]; rfl)
  have HI := Lib.hid (show ∀ z ∈ [timesP g s, timesP x c], in64 z by intro z hz; simp at hz; rcases hz with rfl | rfl <;> exact ⟨by omega, by omega⟩)
  generalize backP g x c s = bk at *
  go_enter Tryz.func53, Tryz.ntmps53
  go_wp2_with fail
  have hS : ∀ e : InC (fun u => Blk u w.heap.size #[.int .u64 c, .int .u64 s] 43), e.u.cell? ⟨w.heap.size, 0, none⟩ = some (.int .u64 c) ∧ e.u.cell? ⟨w.heap.size, 1, none⟩ = some (.int .u64 s) := fun e => ⟨e.has.cell 0, e.has.cell 1⟩
  have hS0 := fun e => (hS e).1
  have hS1 := fun e => (hS e).2
  clear hS
  have hk : Blk (w.alloc (.cells #[.int .u64 c, .int .u64 s] 43)).drew w.heap.size #[.int .u64 c, .int .u64 s] 43 := (Blk.new w _ _).drew
  try change Code.wp _ _ _ (Act.mk _ _) _
  haveI hne_ : Nonempty (InC (fun u => Blk u w.heap.size #[.int .u64 c, .int .u64 s] 43)) := ⟨⟨_, hk⟩⟩
  refine wp_region_ph (C := fun w_ => ∃ e_ : InC (fun u => Blk u w.heap.size #[.int .u64 c, .int .u64 s] 43), w_ = e_.u) [([0, 1, 2, 4, 5, 6], 3), ([], 7), ([], 8), ([], 9)] [10] (by kernel_rfl) (by kernel_rfl) (fun _ _ _ _ hd_ h_ => ⟨hd_.symm.trans h_.1, h_.2⟩) ⟨⟨World.drew _, hk⟩, rfl⟩ ?_
  first | refine wpPh_cons ?_ | refine wpPh_nil ?_
  simp only [pickOps, List.flatMap_cons, List.flatMap_nil, List.drop_succ_cons, List.drop_zero, List.take_succ_cons, List.take_zero, List.cons_append, List.nil_append, List.append_nil]
  iterate 6 (go_big_quiet_step (exact rfl))
  refine wpQuiet_nil ?_
  go_wp2_with (go_at_call 47; refine (Times_any _ _ _ (by omega) (by omega) (by omega) (by omega)).mono ?_; rintro e w' ⟨rfl, rfl⟩)
  refine phPost_normal ⟨⟨⟨_, hk⟩, rfl⟩, ?_⟩
  first | refine wpPh_cons ?_ | refine wpPh_nil ?_
  simp only [pickOps, List.flatMap_cons, List.flatMap_nil, List.drop_succ_cons, List.drop_zero, List.take_succ_cons, List.take_zero, List.cons_append, List.nil_append, List.append_nil]
  refine wpQuiet_nil ?_
  go_wp2_with (go_at_call 47; refine (Times_any _ _ _ (by omega) (by omega) (by omega) (by omega)).mono ?_; rintro e w' ⟨rfl, rfl⟩)
  refine phPost_normal ⟨⟨⟨_, hk⟩, rfl⟩, ?_⟩
  first | refine wpPh_cons ?_ | refine wpPh_nil ?_
  simp only [pickOps, List.flatMap_cons, List.flatMap_nil, List.drop_succ_cons, List.drop_zero, List.take_succ_cons, List.take_zero, List.cons_append, List.nil_append, List.append_nil]
  refine wpQuiet_nil ?_
  go_wp2_with fail
  refine phPost_normal ⟨⟨⟨_, hk.alloc _⟩, rfl⟩, ?_⟩
  first | refine wpPh_cons ?_ | refine wpPh_nil ?_
  simp only [pickOps, List.flatMap_cons, List.flatMap_nil, List.drop_succ_cons, List.drop_zero, List.take_succ_cons, List.take_zero, List.cons_append, List.nil_append, List.append_nil]
  refine wpQuiet_nil ?_
  have hsee : SeesU ((w.alloc (.cells #[.int .u64 c, .int .u64 s] 43)).alloc (.cells #[.int .u64 (timesP g s), .int .u64 (timesP x c)] 24)).drew (.slice (some ⟨w.heap.size + 1, 0, none⟩) 2 2) [timesP g s, timesP x c] :=
    sees_block (Blk.new2 w _ _ _).drew 1 2 rfl (by decide)
  go_wp2_with (go_at_call 51; refine (Product_any _ _ _ hsee HI.out).mono ?_; rintro e w' ⟨rfl, rfl⟩)
  refine phPost_normal ⟨⟨⟨_, hk.alloc _⟩, rfl⟩, ?_⟩
  first | refine wpPh_cons ?_ | refine wpPh_nil ?_
  simp only [pickOps, List.flatMap_cons, List.flatMap_nil, List.drop_succ_cons, List.drop_zero, List.take_succ_cons, List.take_zero, List.cons_append, List.nil_append, List.append_nil]
  iterate 1 (go_big_quiet_step (exact rfl))
  refine wpQuiet_nil ?_
  go_wp2_with fail
  go_ret
  exact ⟨ret_u64 HB.out.symm, by go_grown⟩
set_option maxHeartbeats 400000 in
theorem back_any (g x c s : Int) (w : World) (hg : in64 g) (hx : in64 x) (hc : in64 c) (hs : in64 s) :
    Calls Tryz.prog 56 #[.int .u64 g, .int .u64 x, .agg #[.int .u64 c, .int .u64 s]] w fun e w' => e = .returned (.int .u64 (backP g x c s)) ∧ Below w.heap.size w w' := by
  obtain ⟨g0, g1⟩ := hg; obtain ⟨x0, x1⟩ := hx; obtain ⟨c0, c1⟩ := hc; obtain ⟨s0, s1⟩ := hs
  obtain ⟨t0, t1⟩ := timesP_pos g s
  obtain ⟨u0, u1⟩ := timesP_pos x c
  have HB := Lib.hid (show backP g x c s = timesP g s * timesP x c % 2305843009213693951 from rfl)
  generalize backP g x c s = bk at *
  go_enter Tryz.func56, Tryz.ntmps56
  go_wp2_with fail
  have hS : ∀ e : InC (fun u => Blk u w.heap.size #[.int .u64 c, .int .u64 s] 43), e.u.cell? ⟨w.heap.size, 0, none⟩ = some (.int .u64 c) ∧ e.u.cell? ⟨w.heap.size, 1, none⟩ = some (.int .u64 s) := fun e => ⟨e.has.cell 0, e.has.cell 1⟩
  have hS0 := fun e => (hS e).1
  have hS1 := fun e => (hS e).2
  clear hS
  have hk : Blk (w.alloc (.cells #[.int .u64 c, .int .u64 s] 43)).drew w.heap.size #[.int .u64 c, .int .u64 s] 43 := (Blk.new w _ _).drew
  try change Code.wp _ _ _ (Act.mk _ _) _
  haveI hne_ : Nonempty (InC (fun u => Blk u w.heap.size #[.int .u64 c, .int .u64 s] 43)) := ⟨⟨_, hk⟩⟩
  refine wp_region_ph (C := fun w_ => ∃ e_ : InC (fun u => Blk u w.heap.size #[.int .u64 c, .int .u64 s] 43), w_ = e_.u) [([0, 1, 2, 4, 5, 6], 3), ([], 7), ([], 8)] [9] (by kernel_rfl) (by kernel_rfl) (fun _ _ _ _ hd_ h_ => ⟨hd_.symm.trans h_.1, h_.2⟩) ⟨⟨World.drew _, hk⟩, rfl⟩ ?_
  first | refine wpPh_cons ?_ | refine wpPh_nil ?_
  simp only [pickOps, List.flatMap_cons, List.flatMap_nil, List.drop_succ_cons, List.drop_zero, List.take_succ_cons, List.take_zero, List.cons_append, List.nil_append, List.append_nil]
  iterate 6 (go_big_quiet_step (exact rfl))
  refine wpQuiet_nil ?_
  go_wp2_with (go_at_call 16; refine (Timesr_any _ _ _ (by omega) (by omega) (by omega) (by omega)).mono ?_; rintro e w' ⟨rfl, rfl⟩)
  refine phPost_normal ⟨⟨⟨_, hk⟩, rfl⟩, ?_⟩
  first | refine wpPh_cons ?_ | refine wpPh_nil ?_
  simp only [pickOps, List.flatMap_cons, List.flatMap_nil, List.drop_succ_cons, List.drop_zero, List.take_succ_cons, List.take_zero, List.cons_append, List.nil_append, List.append_nil]
  refine wpQuiet_nil ?_
  go_wp2_with (go_at_call 16; refine (Timesr_any _ _ _ (by omega) (by omega) (by omega) (by omega)).mono ?_; rintro e w' ⟨rfl, rfl⟩)
  refine phPost_normal ⟨⟨⟨_, hk⟩, rfl⟩, ?_⟩
  first | refine wpPh_cons ?_ | refine wpPh_nil ?_
  simp only [pickOps, List.flatMap_cons, List.flatMap_nil, List.drop_succ_cons, List.drop_zero, List.take_succ_cons, List.take_zero, List.cons_append, List.nil_append, List.append_nil]
  refine wpQuiet_nil ?_
  go_wp2_with (go_at_call 18; refine (MulP_any _ _ _ (by omega) (by omega) (by omega) (by omega)).mono ?_; rintro e w' ⟨rfl, rfl⟩)
  refine phPost_normal ⟨⟨⟨_, hk⟩, rfl⟩, ?_⟩
  first | refine wpPh_cons ?_ | refine wpPh_nil ?_
  simp only [pickOps, List.flatMap_cons, List.flatMap_nil, List.drop_succ_cons, List.drop_zero, List.take_succ_cons, List.take_zero, List.cons_append, List.nil_append, List.append_nil]
  iterate 1 (go_big_quiet_step (exact rfl))
  refine wpQuiet_nil ?_
  go_wp2_with fail
  go_ret
  exact ⟨ret_u64 HB.out.symm, by go_grown⟩

def knowS : ByteArray := ⟨#[107, 110, 111, 119]⟩
def equalS : ByteArray := ⟨#[101, 113, 117, 97, 108]⟩
/-- The numbers of a proof. -/
abbrev PV (c s : Int) : Value := .agg #[.int .u64 c, .int .u64 s]
def knowC (g x draw : Int) : Int := chal knowS [g, x, timesP g draw]
def equalC (g x h y draw : Int) : Int := chal equalS [g, x, h, y, timesP g draw, timesP h draw]

theorem info_proof : (Tryz.prog.info? 43).map (·.size) = some 2 := by kernel_rfl
theorem pv_size (c s : Int) : (#[Value.int .u64 c, Value.int .u64 s]).size = 2 := by simp
theorem pv_one (c s : Int) : ∀ v ∈ (#[Value.int .u64 c, Value.int .u64 s]).toList, v.oneCell' = true := by
  intro v hv; simp at hv; rcases hv with rfl | rfl <;> rfl
theorem in64_P {x : Int} (h : 0 ≤ x ∧ x < 2305843009213693951) : in64 x := ⟨h.1, by omega⟩
set_option maxHeartbeats 400000 in
theorem Knowr_any (g x secret draw : Int) (w : World) (hg : in64 g) (hx : in64 x) (hs : in64 secret) (hd : in64 draw) :
    Calls Tryz.prog 79 #[.int .u64 g, .int .u64 x, .int .u64 secret, .int .u64 draw] w fun e w' => e = .returned (PV (knowC g x draw) (ansP (knowC g x draw) secret draw)) ∧ Below w.heap.size w w' := by
  have HI := Lib.hid (show ∀ z ∈ [g, x, timesP g draw], in64 z by intro z hz; simp at hz; rcases hz with rfl | rfl | rfl <;> first | assumption | exact in64_P (timesP_pos _ _))
  obtain ⟨g0, g1⟩ := hg; obtain ⟨x0, x1⟩ := hx; obtain ⟨s0, s1⟩ := hs; obtain ⟨d0, d1⟩ := hd
  have HC := Lib.hid (show knowC g x draw = chal knowS [g, x, timesP g draw] from rfl)
  obtain ⟨c0, c1⟩ : 0 ≤ knowC g x draw ∧ knowC g x draw < 2305843009213693950 := chal_pos _ _
  generalize knowC g x draw = C at *
  go_enter Tryz.func79, Tryz.ntmps79
  go_wp2_with (first
    | (go_at_call 16; refine (Timesr_any _ _ _ (by omega) (by omega) (by omega) (by omega)).mono ?_; rintro e w' ⟨rfl, rfl⟩)
    | (go_at_call 55; refine (Challenger_any _ knowS _ [g, x, timesP g draw] (sees_block (Blk.new2 w _ _ _) 1 3 rfl (by decide)) HI.out (by decide) (by show 3 ≤ 1000000; omega)).mono ?_; rintro e w5 ⟨rfl, hb5⟩; rw [← HC.out])
    | (go_at_call 94; refine (Answerr_any _ _ _ _ (by omega) (by omega) (by omega) (by omega) (by omega) (by omega)).mono ?_; rintro e w' ⟨rfl, n6, rfl⟩)
    | (refine wpList_store_row rfl 43 _ _ rfl w.heap.size #[.int .u64 C, .int .u64 (ansP C secret draw)] _ _ rfl rfl ((((Blk.new w _ _).alloc _).below hb5).drewN n6) (by rw [pv_size, pv_size]) (by rw [pv_size]; exact info_proof) (pv_one _ _) ?_; intro w7 hg7 hs7 hR7))
  have hbel5 : Below w.heap.size w w5 := Below.trans (by go_grown) (hb5.mono (by simp only [World.size_alloc]; omega))
  have hbel7 := (below_drewN hbel5 n6).grown hg7 (below_drewN hbel5 n6).size (fun k hk => by cases hk; exact Nat.le_refl _)
  exact bodyPost_ret (results_cell_row Tryz.results79 _ _ w.heap.size _ _ (0, 0) _ rfl hR7 Tryz.underlying43 rfl (by rw [pv_size]; exact info_proof)) rfl ⟨rfl, hbel7⟩
set_option maxHeartbeats 400000 in
theorem Equal_any (g x h y secret draw : Int) (w : World) (hg : in64 g) (hx : in64 x) (hh : in64 h) (hy : in64 y) (hs : in64 secret) (hd : in64 draw) :
    Calls Tryz.prog 30 #[.int .u64 g, .int .u64 x, .int .u64 h, .int .u64 y, .int .u64 secret, .int .u64 draw] w fun e w' => e = .returned (PV (equalC g x h y draw) (ansP (equalC g x h y draw) secret draw)) ∧ Below w.heap.size w w' := by
  have HI := Lib.hid (show ∀ z ∈ [g, x, h, y, timesP g draw, timesP h draw], in64 z by intro z hz; simp at hz; rcases hz with rfl | rfl | rfl | rfl | rfl | rfl <;> first | assumption | exact in64_P (timesP_pos _ _))
  obtain ⟨g0, g1⟩ := hg; obtain ⟨x0, x1⟩ := hx; obtain ⟨h0, h1⟩ := hh; obtain ⟨y0, y1⟩ := hy; obtain ⟨s0, s1⟩ := hs; obtain ⟨d0, d1⟩ := hd
  have HC := Lib.hid (show equalC g x h y draw = chal equalS [g, x, h, y, timesP g draw, timesP h draw] from rfl)
  obtain ⟨c0, c1⟩ : 0 ≤ equalC g x h y draw ∧ equalC g x h y draw < 2305843009213693950 := chal_pos _ _
  generalize equalC g x h y draw = C at *
  go_enter Tryz.func30, Tryz.ntmps30
  go_wp2_with (first
    | (go_at_call 47; refine (Times_any _ _ _ (by omega) (by omega) (by omega) (by omega)).mono ?_; rintro e w' ⟨rfl, rfl⟩)
    | (go_at_call 49; refine (Challenge_any _ equalS _ [g, x, h, y, timesP g draw, timesP h draw] (sees_block (Blk.new2 w _ _ _) 1 6 rfl (by decide)) HI.out (by decide) (by show 6 ≤ 1000000; omega)).mono ?_; rintro e w5 ⟨rfl, hb5⟩; rw [← HC.out])
    | (go_at_call 50; refine (Answer_any _ _ _ _ (by omega) (by omega) (by omega) (by omega) (by omega) (by omega)).mono ?_; rintro e w' ⟨rfl, n6, rfl⟩)
    | (refine wpList_store_row rfl 43 _ _ rfl w.heap.size #[.int .u64 C, .int .u64 (ansP C secret draw)] _ _ rfl rfl ((((Blk.new w _ _).alloc _).below hb5).drewN n6) (by rw [pv_size, pv_size]) (by rw [pv_size]; exact info_proof) (pv_one _ _) ?_; intro w7 hg7 hs7 hR7))
  have hbel5 : Below w.heap.size w w5 := Below.trans (by go_grown) (hb5.mono (by simp only [World.size_alloc]; omega))
  have hbel7 := (below_drewN hbel5 n6).grown hg7 (below_drewN hbel5 n6).size (fun k hk => by cases hk; exact Nat.le_refl _)
  exact bodyPost_ret (results_cell_row Tryz.results30 _ _ w.heap.size _ _ (0, 0) _ rfl hR7 Tryz.underlying43 rfl (by rw [pv_size]; exact info_proof)) rfl ⟨rfl, hbel7⟩
end Go.Proofs.YtmbgcjfmfkddpaaGreat
namespace Go.Proofs.YtmbgcjfmfkddpaaGreat
set_option linter.unusedVariables false
set_option linter.unusedSimpArgs false
open Go Go.RowKit

/-- The call's first block is as it was laid, and nothing older is touched. -/
def Hold (w w1 : World) (cs : Array Value) (t : TypeId) : Prop := Blk w1 w.heap.size cs t ∧ Below w.heap.size w w1
theorem Hold.start (w : World) (cs : Array Value) (t : TypeId) : Hold w (w.alloc (.cells cs t)) cs t := ⟨Blk.new w _ _, by go_grown⟩
theorem Hold.drew {w w1 : World} {cs : Array Value} {t : TypeId} (h : Hold w w1 cs t) : Hold w w1.drew cs t := ⟨h.1.drew, h.2.drew⟩
theorem Hold.alloc {w w1 : World} {cs : Array Value} {t : TypeId} (h : Hold w w1 cs t) (o : Obj) : Hold w (w1.alloc o) cs t := ⟨h.1.alloc o, h.2.alloc h.2.size o⟩
theorem Hold.step {w w1 w2 : World} {cs : Array Value} {t : TypeId} (h : Hold w w1 cs t) (hb : Below w1.heap.size w1 w2) : Hold w w2 cs t := ⟨h.1.below hb, h.2.trans (hb.mono h.2.size)⟩

def knowOk (g x c s : Int) : Prop := okP g ∧ okP x ∧ smallP c s ∧ chal knowS [g, x, backP g x c s] = c
instance (g x c s : Int) : Decidable (knowOk g x c s) := by unfold knowOk; infer_instance
def equalOk (g x h y c s : Int) : Prop := okP g ∧ okP x ∧ okP h ∧ okP y ∧ smallP c s ∧ chal equalS [g, x, h, y, backP g x c s, backP h y c s] = c
instance (g x h y c s : Int) : Decidable (equalOk g x h y c s) := by unfold equalOk; infer_instance
set_option maxHeartbeats 2000000 in
theorem CheckEqualr_any (g x h y c s : Int) (w : World) (hg : in64 g) (hx : in64 x) (hh : in64 h) (hy : in64 y) (hc : in64 c) (hs : in64 s) :
    Calls Tryz.prog 37 #[.int .u64 g, .int .u64 x, .int .u64 h, .int .u64 y, PV c s] w fun e w' => e = .returned (.bool (decide (equalOk g x h y c s))) ∧ Below w.heap.size w w' := by
  have HI := Lib.hid (show ∀ z ∈ [g, x, h, y, backP g x c s, backP h y c s], in64 z by intro z hz; simp at hz; rcases hz with rfl | rfl | rfl | rfl | rfl | rfl <;> first | assumption | exact in64_P (backP_pos _ _ _ _))
  obtain ⟨g0, g1⟩ := hg; obtain ⟨x0, x1⟩ := hx; obtain ⟨h0, h1⟩ := hh; obtain ⟨y0, y1⟩ := hy; obtain ⟨c0, c1⟩ := hc; obtain ⟨s0, s1⟩ := hs
  have hS0 : ∀ e : InC (fun u => Blk u w.heap.size #[.int .u64 c, .int .u64 s] 43), e.u.cell? ⟨w.heap.size, 0, none⟩ = some (.int .u64 c) := fun e => e.has.cell 0
  have hS1 : ∀ e : InC (fun u => Blk u w.heap.size #[.int .u64 c, .int .u64 s] 43), e.u.cell? ⟨w.heap.size, 1, none⟩ = some (.int .u64 s) := fun e => e.has.cell 1
  have hk := (Hold.start w #[.int .u64 c, .int .u64 s] 43).drew
  by_cases hg : okP g
  · have hd_hg := decide_eq_true hg
    by_cases hx : okP x
    · have hd_hx := decide_eq_true hx
      by_cases hh : okP h
      · have hd_hh := decide_eq_true hh
        by_cases hy : okP y
        · have hd_hy := decide_eq_true hy
          by_cases hp : smallP c s
          · have hd_hp := decide_eq_true hp
            have HF := Lib.hid (show decide (equalOk g x h y c s) = decide (chal equalS [g, x, h, y, backP g x c s, backP h y c s] = c) by simp [equalOk, hg, hx, hh, hy, hp])
            generalize decide (equalOk g x h y c s) = fin at *
            go_enter Tryz.func37, Tryz.ntmps37
            go_wp2_with fail
            try change Code.wp _ _ _ (Act.mk _ _) _
            haveI hne_ : Nonempty (InC (fun u => Blk u w.heap.size #[.int .u64 c, .int .u64 s] 43)) := ⟨⟨_, hk.1⟩⟩
            refine wp_region_ph (C := fun w_ => ∃ e_ : InC (fun u => Blk u w.heap.size #[.int .u64 c, .int .u64 s] 43), w_ = e_.u) [([0], 1), ([2, 3], 4), ([], 5), ([6, 7], 8), ([], 9), ([10, 11], 12), ([], 13), ([14, 15], 16), ([], 17), ([18, 19, 20, 21, 22, 23, 24, 25, 27, 28, 29, 33, 34], 26), ([], 30), ([], 31), ([], 32), ([35], 36)] [37] (by kernel_rfl) (by kernel_rfl) (fun _ _ _ _ hd_ h_ => ⟨hd_.symm.trans h_.1, h_.2⟩) ⟨⟨World.drew _, hk.1⟩, rfl⟩ ?_
            first | refine wpPh_cons ?_ | refine wpPh_nil ?_
            simp only [pickOps, List.flatMap_cons, List.flatMap_nil, List.drop_succ_cons, List.drop_zero, List.take_succ_cons, List.take_zero, List.cons_append, List.nil_append, List.append_nil]
            iterate 1 (go_big_quiet_step (exact rfl))
            refine wpQuiet_nil ?_
            iterate 14 (
              go_wp2_with (first
      | (go_at_call 26; refine (Rightr_any _ _ (by omega) (by omega)).mono ?_; rintro e w' ⟨rfl, rfl⟩; simp only [hd_hg, hd_hx, hd_hh, hd_hy, hd_hp])
      | (go_at_call 54; refine (small_any _ _ _).mono ?_; rintro e w8 ⟨rfl, hb8⟩; simp only [hd_hg, hd_hx, hd_hh, hd_hy, hd_hp]; have hk8 := Hold.step (cs := _) (t := _) (by assumption) hb8)
      | (go_at_call 56; refine (back_any _ _ _ _ _ ⟨by omega, by omega⟩ ⟨by omega, by omega⟩ ⟨by omega, by omega⟩ ⟨by omega, by omega⟩).mono ?_; rintro e w9 ⟨rfl, hb9⟩; have hk9 := Hold.step (by assumption) hb9)
      | (go_at_call 55; refine (Challenger_any _ equalS _ [g, x, h, y, backP g x c s, backP h y c s] (sees_new _ 1 _ _ 6 rfl (by decide)) HI.out (by decide) (by show 6 ≤ 1000000; omega)).mono ?_; rintro e w10 ⟨rfl, hb10⟩; have hk10 := Hold.step (Hold.alloc (by assumption) _) hb10))
              refine phPost_normal ⟨⟨⟨_, (show Hold _ _ _ _ from by first | assumption | exact Hold.alloc (by assumption) _).1⟩, rfl⟩, ?_⟩
              first | refine wpPh_cons ?_ | refine wpPh_nil ?_
              simp only [pickOps, List.flatMap_cons, List.flatMap_nil, List.drop_succ_cons, List.drop_zero, List.take_succ_cons, List.take_zero, List.cons_append, List.nil_append, List.append_nil]
              repeat (go_big_quiet_step (exact rfl))
              refine wpQuiet_nil ?_)
            go_wp2_with fail
            go_ret
            exact ⟨ret_bool (by rw [HF.out]; rfl), (show Hold _ _ _ _ from by assumption).2⟩
          · have hd_hp := decide_eq_false hp
            have HF := Lib.hid (show decide (equalOk g x h y c s) = false by simp [equalOk, hp])
            generalize decide (equalOk g x h y c s) = fin at *
            go_enter Tryz.func37, Tryz.ntmps37
            go_wp2_with fail
            try change Code.wp _ _ _ (Act.mk _ _) _
            haveI hne_ : Nonempty (InC (fun u => Blk u w.heap.size #[.int .u64 c, .int .u64 s] 43)) := ⟨⟨_, hk.1⟩⟩
            refine wp_region_ph (C := fun w_ => ∃ e_ : InC (fun u => Blk u w.heap.size #[.int .u64 c, .int .u64 s] 43), w_ = e_.u) [([0], 1), ([2, 3], 4), ([], 5), ([6, 7], 8), ([], 9), ([10, 11], 12), ([], 13), ([14, 15], 16), ([], 17), ([18, 19, 20, 21, 22, 23, 24, 25, 27, 28, 29, 33, 34], 26), ([], 30), ([], 31), ([], 32), ([35], 36)] [37] (by kernel_rfl) (by kernel_rfl) (fun _ _ _ _ hd_ h_ => ⟨hd_.symm.trans h_.1, h_.2⟩) ⟨⟨World.drew _, hk.1⟩, rfl⟩ ?_
            first | refine wpPh_cons ?_ | refine wpPh_nil ?_
            simp only [pickOps, List.flatMap_cons, List.flatMap_nil, List.drop_succ_cons, List.drop_zero, List.take_succ_cons, List.take_zero, List.cons_append, List.nil_append, List.append_nil]
            iterate 1 (go_big_quiet_step (exact rfl))
            refine wpQuiet_nil ?_
            iterate 14 (
              go_wp2_with (first
      | (go_at_call 26; refine (Rightr_any _ _ (by omega) (by omega)).mono ?_; rintro e w' ⟨rfl, rfl⟩; simp only [hd_hg, hd_hx, hd_hh, hd_hy, hd_hp])
      | (go_at_call 54; refine (small_any _ _ _).mono ?_; rintro e w8 ⟨rfl, hb8⟩; simp only [hd_hg, hd_hx, hd_hh, hd_hy, hd_hp]; have hk8 := Hold.step (cs := _) (t := _) (by assumption) hb8)
      | (go_at_call 56; refine (back_any _ _ _ _ _ ⟨by omega, by omega⟩ ⟨by omega, by omega⟩ ⟨by omega, by omega⟩ ⟨by omega, by omega⟩).mono ?_; rintro e w9 ⟨rfl, hb9⟩; have hk9 := Hold.step (by assumption) hb9)
      | (go_at_call 55; refine (Challenger_any _ equalS _ [g, x, h, y, backP g x c s, backP h y c s] (sees_new _ 1 _ _ 6 rfl (by decide)) HI.out (by decide) (by show 6 ≤ 1000000; omega)).mono ?_; rintro e w10 ⟨rfl, hb10⟩; have hk10 := Hold.step (Hold.alloc (by assumption) _) hb10))
              refine phPost_normal ⟨⟨⟨_, (show Hold _ _ _ _ from by first | assumption | exact Hold.alloc (by assumption) _).1⟩, rfl⟩, ?_⟩
              first | refine wpPh_cons ?_ | refine wpPh_nil ?_
              simp only [pickOps, List.flatMap_cons, List.flatMap_nil, List.drop_succ_cons, List.drop_zero, List.take_succ_cons, List.take_zero, List.cons_append, List.nil_append, List.append_nil]
              repeat (go_big_quiet_step (exact rfl))
              refine wpQuiet_nil ?_)
            go_wp2_with fail
            go_ret
            exact ⟨ret_bool HF.out.symm, (show Hold _ _ _ _ from by assumption).2⟩
        · have hd_hy := decide_eq_false hy
          have HF := Lib.hid (show decide (equalOk g x h y c s) = false by simp [equalOk, hy])
          generalize decide (equalOk g x h y c s) = fin at *
          go_enter Tryz.func37, Tryz.ntmps37
          go_wp2_with fail
          try change Code.wp _ _ _ (Act.mk _ _) _
          haveI hne_ : Nonempty (InC (fun u => Blk u w.heap.size #[.int .u64 c, .int .u64 s] 43)) := ⟨⟨_, hk.1⟩⟩
          refine wp_region_ph (C := fun w_ => ∃ e_ : InC (fun u => Blk u w.heap.size #[.int .u64 c, .int .u64 s] 43), w_ = e_.u) [([0], 1), ([2, 3], 4), ([], 5), ([6, 7], 8), ([], 9), ([10, 11], 12), ([], 13), ([14, 15], 16), ([], 17), ([18, 19, 20, 21, 22, 23, 24, 25, 27, 28, 29, 33, 34], 26), ([], 30), ([], 31), ([], 32), ([35], 36)] [37] (by kernel_rfl) (by kernel_rfl) (fun _ _ _ _ hd_ h_ => ⟨hd_.symm.trans h_.1, h_.2⟩) ⟨⟨World.drew _, hk.1⟩, rfl⟩ ?_
          first | refine wpPh_cons ?_ | refine wpPh_nil ?_
          simp only [pickOps, List.flatMap_cons, List.flatMap_nil, List.drop_succ_cons, List.drop_zero, List.take_succ_cons, List.take_zero, List.cons_append, List.nil_append, List.append_nil]
          iterate 1 (go_big_quiet_step (exact rfl))
          refine wpQuiet_nil ?_
          iterate 14 (
            go_wp2_with (first
      | (go_at_call 26; refine (Rightr_any _ _ (by omega) (by omega)).mono ?_; rintro e w' ⟨rfl, rfl⟩; simp only [hd_hg, hd_hx, hd_hh, hd_hy])
      | (go_at_call 54; refine (small_any _ _ _).mono ?_; rintro e w8 ⟨rfl, hb8⟩; simp only [hd_hg, hd_hx, hd_hh, hd_hy]; have hk8 := Hold.step (cs := _) (t := _) (by assumption) hb8)
      | (go_at_call 56; refine (back_any _ _ _ _ _ ⟨by omega, by omega⟩ ⟨by omega, by omega⟩ ⟨by omega, by omega⟩ ⟨by omega, by omega⟩).mono ?_; rintro e w9 ⟨rfl, hb9⟩; have hk9 := Hold.step (by assumption) hb9)
      | (go_at_call 55; refine (Challenger_any _ equalS _ [g, x, h, y, backP g x c s, backP h y c s] (sees_new _ 1 _ _ 6 rfl (by decide)) HI.out (by decide) (by show 6 ≤ 1000000; omega)).mono ?_; rintro e w10 ⟨rfl, hb10⟩; have hk10 := Hold.step (Hold.alloc (by assumption) _) hb10))
            refine phPost_normal ⟨⟨⟨_, (show Hold _ _ _ _ from by first | assumption | exact Hold.alloc (by assumption) _).1⟩, rfl⟩, ?_⟩
            first | refine wpPh_cons ?_ | refine wpPh_nil ?_
            simp only [pickOps, List.flatMap_cons, List.flatMap_nil, List.drop_succ_cons, List.drop_zero, List.take_succ_cons, List.take_zero, List.cons_append, List.nil_append, List.append_nil]
            repeat (go_big_quiet_step (exact rfl))
            refine wpQuiet_nil ?_)
          go_wp2_with fail
          go_ret
          exact ⟨ret_bool HF.out.symm, (show Hold _ _ _ _ from by assumption).2⟩
      · have hd_hh := decide_eq_false hh
        have HF := Lib.hid (show decide (equalOk g x h y c s) = false by simp [equalOk, hh])
        generalize decide (equalOk g x h y c s) = fin at *
        go_enter Tryz.func37, Tryz.ntmps37
        go_wp2_with fail
        try change Code.wp _ _ _ (Act.mk _ _) _
        haveI hne_ : Nonempty (InC (fun u => Blk u w.heap.size #[.int .u64 c, .int .u64 s] 43)) := ⟨⟨_, hk.1⟩⟩
        refine wp_region_ph (C := fun w_ => ∃ e_ : InC (fun u => Blk u w.heap.size #[.int .u64 c, .int .u64 s] 43), w_ = e_.u) [([0], 1), ([2, 3], 4), ([], 5), ([6, 7], 8), ([], 9), ([10, 11], 12), ([], 13), ([14, 15], 16), ([], 17), ([18, 19, 20, 21, 22, 23, 24, 25, 27, 28, 29, 33, 34], 26), ([], 30), ([], 31), ([], 32), ([35], 36)] [37] (by kernel_rfl) (by kernel_rfl) (fun _ _ _ _ hd_ h_ => ⟨hd_.symm.trans h_.1, h_.2⟩) ⟨⟨World.drew _, hk.1⟩, rfl⟩ ?_
        first | refine wpPh_cons ?_ | refine wpPh_nil ?_
        simp only [pickOps, List.flatMap_cons, List.flatMap_nil, List.drop_succ_cons, List.drop_zero, List.take_succ_cons, List.take_zero, List.cons_append, List.nil_append, List.append_nil]
        iterate 1 (go_big_quiet_step (exact rfl))
        refine wpQuiet_nil ?_
        iterate 14 (
          go_wp2_with (first
      | (go_at_call 26; refine (Rightr_any _ _ (by omega) (by omega)).mono ?_; rintro e w' ⟨rfl, rfl⟩; simp only [hd_hg, hd_hx, hd_hh])
      | (go_at_call 54; refine (small_any _ _ _).mono ?_; rintro e w8 ⟨rfl, hb8⟩; simp only [hd_hg, hd_hx, hd_hh]; have hk8 := Hold.step (cs := _) (t := _) (by assumption) hb8)
      | (go_at_call 56; refine (back_any _ _ _ _ _ ⟨by omega, by omega⟩ ⟨by omega, by omega⟩ ⟨by omega, by omega⟩ ⟨by omega, by omega⟩).mono ?_; rintro e w9 ⟨rfl, hb9⟩; have hk9 := Hold.step (by assumption) hb9)
      | (go_at_call 55; refine (Challenger_any _ equalS _ [g, x, h, y, backP g x c s, backP h y c s] (sees_new _ 1 _ _ 6 rfl (by decide)) HI.out (by decide) (by show 6 ≤ 1000000; omega)).mono ?_; rintro e w10 ⟨rfl, hb10⟩; have hk10 := Hold.step (Hold.alloc (by assumption) _) hb10))
          refine phPost_normal ⟨⟨⟨_, (show Hold _ _ _ _ from by first | assumption | exact Hold.alloc (by assumption) _).1⟩, rfl⟩, ?_⟩
          first | refine wpPh_cons ?_ | refine wpPh_nil ?_
          simp only [pickOps, List.flatMap_cons, List.flatMap_nil, List.drop_succ_cons, List.drop_zero, List.take_succ_cons, List.take_zero, List.cons_append, List.nil_append, List.append_nil]
          repeat (go_big_quiet_step (exact rfl))
          refine wpQuiet_nil ?_)
        go_wp2_with fail
        go_ret
        exact ⟨ret_bool HF.out.symm, (show Hold _ _ _ _ from by assumption).2⟩
    · have hd_hx := decide_eq_false hx
      have HF := Lib.hid (show decide (equalOk g x h y c s) = false by simp [equalOk, hx])
      generalize decide (equalOk g x h y c s) = fin at *
      go_enter Tryz.func37, Tryz.ntmps37
      go_wp2_with fail
      try change Code.wp _ _ _ (Act.mk _ _) _
      haveI hne_ : Nonempty (InC (fun u => Blk u w.heap.size #[.int .u64 c, .int .u64 s] 43)) := ⟨⟨_, hk.1⟩⟩
      refine wp_region_ph (C := fun w_ => ∃ e_ : InC (fun u => Blk u w.heap.size #[.int .u64 c, .int .u64 s] 43), w_ = e_.u) [([0], 1), ([2, 3], 4), ([], 5), ([6, 7], 8), ([], 9), ([10, 11], 12), ([], 13), ([14, 15], 16), ([], 17), ([18, 19, 20, 21, 22, 23, 24, 25, 27, 28, 29, 33, 34], 26), ([], 30), ([], 31), ([], 32), ([35], 36)] [37] (by kernel_rfl) (by kernel_rfl) (fun _ _ _ _ hd_ h_ => ⟨hd_.symm.trans h_.1, h_.2⟩) ⟨⟨World.drew _, hk.1⟩, rfl⟩ ?_
      first | refine wpPh_cons ?_ | refine wpPh_nil ?_
      simp only [pickOps, List.flatMap_cons, List.flatMap_nil, List.drop_succ_cons, List.drop_zero, List.take_succ_cons, List.take_zero, List.cons_append, List.nil_append, List.append_nil]
      iterate 1 (go_big_quiet_step (exact rfl))
      refine wpQuiet_nil ?_
      iterate 14 (
        go_wp2_with (first
      | (go_at_call 26; refine (Rightr_any _ _ (by omega) (by omega)).mono ?_; rintro e w' ⟨rfl, rfl⟩; simp only [hd_hg, hd_hx])
      | (go_at_call 54; refine (small_any _ _ _).mono ?_; rintro e w8 ⟨rfl, hb8⟩; simp only [hd_hg, hd_hx]; have hk8 := Hold.step (cs := _) (t := _) (by assumption) hb8)
      | (go_at_call 56; refine (back_any _ _ _ _ _ ⟨by omega, by omega⟩ ⟨by omega, by omega⟩ ⟨by omega, by omega⟩ ⟨by omega, by omega⟩).mono ?_; rintro e w9 ⟨rfl, hb9⟩; have hk9 := Hold.step (by assumption) hb9)
      | (go_at_call 55; refine (Challenger_any _ equalS _ [g, x, h, y, backP g x c s, backP h y c s] (sees_new _ 1 _ _ 6 rfl (by decide)) HI.out (by decide) (by show 6 ≤ 1000000; omega)).mono ?_; rintro e w10 ⟨rfl, hb10⟩; have hk10 := Hold.step (Hold.alloc (by assumption) _) hb10))
        refine phPost_normal ⟨⟨⟨_, (show Hold _ _ _ _ from by first | assumption | exact Hold.alloc (by assumption) _).1⟩, rfl⟩, ?_⟩
        first | refine wpPh_cons ?_ | refine wpPh_nil ?_
        simp only [pickOps, List.flatMap_cons, List.flatMap_nil, List.drop_succ_cons, List.drop_zero, List.take_succ_cons, List.take_zero, List.cons_append, List.nil_append, List.append_nil]
        repeat (go_big_quiet_step (exact rfl))
        refine wpQuiet_nil ?_)
      go_wp2_with fail
      go_ret
      exact ⟨ret_bool HF.out.symm, (show Hold _ _ _ _ from by assumption).2⟩
  · have hd_hg := decide_eq_false hg
    have HF := Lib.hid (show decide (equalOk g x h y c s) = false by simp [equalOk, hg])
    generalize decide (equalOk g x h y c s) = fin at *
    go_enter Tryz.func37, Tryz.ntmps37
    go_wp2_with fail
    try change Code.wp _ _ _ (Act.mk _ _) _
    haveI hne_ : Nonempty (InC (fun u => Blk u w.heap.size #[.int .u64 c, .int .u64 s] 43)) := ⟨⟨_, hk.1⟩⟩
    refine wp_region_ph (C := fun w_ => ∃ e_ : InC (fun u => Blk u w.heap.size #[.int .u64 c, .int .u64 s] 43), w_ = e_.u) [([0], 1), ([2, 3], 4), ([], 5), ([6, 7], 8), ([], 9), ([10, 11], 12), ([], 13), ([14, 15], 16), ([], 17), ([18, 19, 20, 21, 22, 23, 24, 25, 27, 28, 29, 33, 34], 26), ([], 30), ([], 31), ([], 32), ([35], 36)] [37] (by kernel_rfl) (by kernel_rfl) (fun _ _ _ _ hd_ h_ => ⟨hd_.symm.trans h_.1, h_.2⟩) ⟨⟨World.drew _, hk.1⟩, rfl⟩ ?_
    first | refine wpPh_cons ?_ | refine wpPh_nil ?_
    simp only [pickOps, List.flatMap_cons, List.flatMap_nil, List.drop_succ_cons, List.drop_zero, List.take_succ_cons, List.take_zero, List.cons_append, List.nil_append, List.append_nil]
    iterate 1 (go_big_quiet_step (exact rfl))
    refine wpQuiet_nil ?_
    iterate 14 (
      go_wp2_with (first
      | (go_at_call 26; refine (Rightr_any _ _ (by omega) (by omega)).mono ?_; rintro e w' ⟨rfl, rfl⟩; simp only [hd_hg])
      | (go_at_call 54; refine (small_any _ _ _).mono ?_; rintro e w8 ⟨rfl, hb8⟩; simp only [hd_hg]; have hk8 := Hold.step (cs := _) (t := _) (by assumption) hb8)
      | (go_at_call 56; refine (back_any _ _ _ _ _ ⟨by omega, by omega⟩ ⟨by omega, by omega⟩ ⟨by omega, by omega⟩ ⟨by omega, by omega⟩).mono ?_; rintro e w9 ⟨rfl, hb9⟩; have hk9 := Hold.step (by assumption) hb9)
      | (go_at_call 55; refine (Challenger_any _ equalS _ [g, x, h, y, backP g x c s, backP h y c s] (sees_new _ 1 _ _ 6 rfl (by decide)) HI.out (by decide) (by show 6 ≤ 1000000; omega)).mono ?_; rintro e w10 ⟨rfl, hb10⟩; have hk10 := Hold.step (Hold.alloc (by assumption) _) hb10))
      refine phPost_normal ⟨⟨⟨_, (show Hold _ _ _ _ from by first | assumption | exact Hold.alloc (by assumption) _).1⟩, rfl⟩, ?_⟩
      first | refine wpPh_cons ?_ | refine wpPh_nil ?_
      simp only [pickOps, List.flatMap_cons, List.flatMap_nil, List.drop_succ_cons, List.drop_zero, List.take_succ_cons, List.take_zero, List.cons_append, List.nil_append, List.append_nil]
      repeat (go_big_quiet_step (exact rfl))
      refine wpQuiet_nil ?_)
    go_wp2_with fail
    go_ret
    exact ⟨ret_bool HF.out.symm, (show Hold _ _ _ _ from by assumption).2⟩
end Go.Proofs.YtmbgcjfmfkddpaaGreat
namespace Go.Proofs.YtmbgcjfmfkddpaaGreat
set_option linter.unusedVariables false
set_option linter.unusedSimpArgs false
open Go Go.RowKit
def four (a b c d : Int) : Nat → Int | 0 => a | 1 => b | 2 => c | _ => d
set_option maxHeartbeats 2000000 in
theorem CheckEqual_any (g x h y c s : Int) (w : World) (hg : in64 g) (hx : in64 x) (hh : in64 h) (hy : in64 y) (hc : in64 c) (hs : in64 s) :
    Calls Tryz.prog 33 #[.int .u64 g, .int .u64 x, .int .u64 h, .int .u64 y, PV c s] w fun e w' => e = .returned (.bool (decide (equalOk g x h y c s))) ∧ Below w.heap.size w w' := by
  have HI := Lib.hid (show ∀ z ∈ [g, x, h, y, backP g x c s, backP h y c s], in64 z by intro z hz; simp at hz; rcases hz with rfl | rfl | rfl | rfl | rfl | rfl <;> first | assumption | exact in64_P (backP_pos _ _ _ _))
  obtain ⟨g0, g1⟩ := hg; obtain ⟨x0, x1⟩ := hx; obtain ⟨h0, h1⟩ := hh; obtain ⟨y0, y1⟩ := hy; obtain ⟨c0, c1⟩ := hc; obtain ⟨s0, s1⟩ := hs
  have hS0 : ∀ e : InC (fun u => Blk u w.heap.size #[.int .u64 c, .int .u64 s] 43), e.u.cell? ⟨w.heap.size, 0, none⟩ = some (.int .u64 c) := fun e => e.has.cell 0
  have hS1 : ∀ e : InC (fun u => Blk u w.heap.size #[.int .u64 c, .int .u64 s] 43), e.u.cell? ⟨w.heap.size, 1, none⟩ = some (.int .u64 s) := fun e => e.has.cell 1
  have hk := ((Hold.start w #[.int .u64 c, .int .u64 s] 43).alloc (.cells #[.int .u64 g, .int .u64 x, .int .u64 h, .int .u64 y] 24)).drew
  have hcell := Lib.hid (fun k (hk4 : k < 4) => show ((w.alloc (.cells #[.int .u64 c, .int .u64 s] 43)).alloc (.cells #[.int .u64 g, .int .u64 x, .int .u64 h, .int .u64 y] 24)).cell? ⟨w.heap.size + 1, k, none⟩ = some (UV (four g x h y k)) from
    ((Blk.new2 w _ _ _).cell k).trans (by match k, hk4 with | 0, _ => rfl | 1, _ => rfl | 2, _ => rfl | 3, _ => rfl))
  have hfour := Lib.hid (fun k (hk4 : k < 4) => show in64 (four g x h y k) from by match k, hk4 with | 0, _ => exact ⟨g0, g1⟩ | 1, _ => exact ⟨x0, x1⟩ | 2, _ => exact ⟨h0, h1⟩ | 3, _ => exact ⟨y0, y1⟩)
  obtain ⟨fin, hfin⟩ : ∃ fin, decide (equalOk g x h y c s) = fin := ⟨_, rfl⟩
  rw [hfin]; have HFIN := Lib.hid hfin; clear hfin
  go_enter Tryz.func33, Tryz.ntmps33
  go_wp2_with fail
  go_loop [19] (fun i => ∃ k : Nat, k ≤ 4 ∧ i = .int .i64 k ∧ Hid (∀ j, j < k → okP (four g x h y j))) (fun i => 4 - (intOf i).toNat)
  case atStart => exact ⟨0, by omega, rfl, Lib.hid (fun j hj => by omega)⟩
  case round =>
    obtain ⟨k, hk4, rfl, hall⟩ := hrel
    by_cases hlt : k < 4
    · have hck := hcell.out k hlt
      obtain ⟨z0, z1⟩ := hfour.out k hlt
      have HZ : Hid (∀ z, z = four g x h y k → ¬ okP z → fin = false) := Lib.hid (fun z hz hn => by
        rw [← HFIN.out]; apply decide_eq_false; intro hE; apply hn; rw [hz]
        obtain ⟨e1, e2, e3, e4, _⟩ := hE
        match k, hlt with | 0, _ => exact e1 | 1, _ => exact e2 | 2, _ => exact e3 | 3, _ => exact e4)
      have HA : Hid (okP (four g x h y k) → ∀ j, j < k + 1 → okP (four g x h y j)) := Lib.hid (fun h1 j hj => by
        by_cases e : j = k
        · rw [e]; exact h1
        · exact hall.out j (by omega))
      obtain ⟨z, hz⟩ : ∃ z, four g x h y k = z := ⟨_, rfl⟩
      rw [hz] at hck z0 z1 HA
      have HZ2 : Hid (¬ okP z → fin = false) := Lib.hid (HZ.out z hz.symm)
      clear hz HZ
      by_cases hzz : okP z
      · have hd := decide_eq_true hzz
        have HA2 := Lib.hid (HA.out hzz); clear HA hzz
        go_wp2_with (go_at_call 32; refine (Right_any _ _ (by omega) (by omega)).mono ?_; rintro e w' ⟨rfl, rfl⟩; simp only [hd])
        go_round
        case rel => exact ⟨k + 1, by omega, by go_num, HA2⟩
        case measure => simp [intOf]; omega
      · have hd := decide_eq_false hzz
        have HF2 := Lib.hid (HZ2.out hzz); clear HA HZ2 hzz
        go_wp2_with (go_at_call 32; refine (Right_any _ _ (by omega) (by omega)).mono ?_; rintro e w' ⟨rfl, rfl⟩; simp only [hd])
        go_ret
        exact ⟨ret_bool HF2.out.symm, by go_grown⟩
    · obtain rfl : k = 4 := by omega
      obtain ⟨hg, hx, hh, hy⟩ : okP g ∧ okP x ∧ okP h ∧ okP y := ⟨hall.out 0 (by omega), hall.out 1 (by omega), hall.out 2 (by omega), hall.out 3 (by omega)⟩
      go_wp2_with fail
      by_cases hp : smallP c s
      · have hd_hp := decide_eq_true hp
        have HF := Lib.hid (show fin = decide (chal equalS [g, x, h, y, backP g x c s, backP h y c s] = c) by rw [← HFIN.out]; simp [equalOk, hg, hx, hh, hy, hp])
        try change Code.wp _ _ _ (Act.mk _ _) _
        haveI hne_ : Nonempty (InC (fun u => Blk u w.heap.size #[.int .u64 c, .int .u64 s] 43)) := ⟨⟨_, hk.1⟩⟩
        refine wp_region_ph (C := fun w_ => ∃ e_ : InC (fun u => Blk u w.heap.size #[.int .u64 c, .int .u64 s] 43), w_ = e_.u) [([0], 1), ([2, 3, 4, 5, 6, 7, 8, 9, 11, 12, 13, 17, 18], 10), ([], 14), ([], 15), ([], 16), ([19], 20)] [21] (by kernel_rfl) (by kernel_rfl) (fun _ _ _ _ hd_ h_ => ⟨hd_.symm.trans h_.1, h_.2⟩) ⟨⟨World.drew _, hk.1⟩, rfl⟩ ?_
        first | refine wpPh_cons ?_ | refine wpPh_nil ?_
        simp only [pickOps, List.flatMap_cons, List.flatMap_nil, List.drop_succ_cons, List.drop_zero, List.take_succ_cons, List.take_zero, List.cons_append, List.nil_append, List.append_nil]
        iterate 1 (go_big_quiet_step (exact rfl))
        refine wpQuiet_nil ?_
        iterate 6 (
          go_wp2_with (first
      | (go_at_call 32; refine (Right_any _ _ (by omega) (by omega)).mono ?_; rintro e w' ⟨rfl, rfl⟩; simp only [hd_hp])
      | (go_at_call 52; refine (PRight_any _ _ _).mono ?_; rintro e w8 ⟨rfl, hb8⟩; simp only [hd_hp]; have hk8 := Hold.step (cs := _) (t := _) (by assumption) hb8)
      | (go_at_call 53; refine (Back_any _ _ _ _ _ ⟨by omega, by omega⟩ ⟨by omega, by omega⟩ ⟨by omega, by omega⟩ ⟨by omega, by omega⟩).mono ?_; rintro e w9 ⟨rfl, hb9⟩; have hk9 := Hold.step (by assumption) hb9)
      | (go_at_call 49; refine (Challenge_any _ equalS _ [g, x, h, y, backP g x c s, backP h y c s] (sees_new _ 1 _ _ 6 rfl (by decide)) HI.out (by decide) (by show 6 ≤ 1000000; omega)).mono ?_; rintro e w10 ⟨rfl, hb10⟩; have hk10 := Hold.step (Hold.alloc (by assumption) _) hb10))
          refine phPost_normal ⟨⟨⟨_, (show Hold _ _ _ _ from by first | assumption | exact Hold.alloc (by assumption) _).1⟩, rfl⟩, ?_⟩
          first | refine wpPh_cons ?_ | refine wpPh_nil ?_
          simp only [pickOps, List.flatMap_cons, List.flatMap_nil, List.drop_succ_cons, List.drop_zero, List.take_succ_cons, List.take_zero, List.cons_append, List.nil_append, List.append_nil]
          repeat (go_big_quiet_step (exact rfl))
          refine wpQuiet_nil ?_)
        go_wp2_with fail
        go_ret
        exact ⟨ret_bool (by rw [HF.out]; rfl), (show Hold _ _ _ _ from by assumption).2⟩
      · have hd_hp := decide_eq_false hp
        have HF := Lib.hid (show fin = false by rw [← HFIN.out]; simp [equalOk, hp])
        try change Code.wp _ _ _ (Act.mk _ _) _
        haveI hne_ : Nonempty (InC (fun u => Blk u w.heap.size #[.int .u64 c, .int .u64 s] 43)) := ⟨⟨_, hk.1⟩⟩
        refine wp_region_ph (C := fun w_ => ∃ e_ : InC (fun u => Blk u w.heap.size #[.int .u64 c, .int .u64 s] 43), w_ = e_.u) [([0], 1), ([2, 3, 4, 5, 6, 7, 8, 9, 11, 12, 13, 17, 18], 10), ([], 14), ([], 15), ([], 16), ([19], 20)] [21] (by kernel_rfl) (by kernel_rfl) (fun _ _ _ _ hd_ h_ => ⟨hd_.symm.trans h_.1, h_.2⟩) ⟨⟨World.drew _, hk.1⟩, rfl⟩ ?_
        first | refine wpPh_cons ?_ | refine wpPh_nil ?_
        simp only [pickOps, List.flatMap_cons, List.flatMap_nil, List.drop_succ_cons, List.drop_zero, List.take_succ_cons, List.take_zero, List.cons_append, List.nil_append, List.append_nil]
        iterate 1 (go_big_quiet_step (exact rfl))
        refine wpQuiet_nil ?_
        iterate 6 (
          go_wp2_with (first
      | (go_at_call 32; refine (Right_any _ _ (by omega) (by omega)).mono ?_; rintro e w' ⟨rfl, rfl⟩; simp only [hd_hp])
      | (go_at_call 52; refine (PRight_any _ _ _).mono ?_; rintro e w8 ⟨rfl, hb8⟩; simp only [hd_hp]; have hk8 := Hold.step (cs := _) (t := _) (by assumption) hb8)
      | (go_at_call 53; refine (Back_any _ _ _ _ _ ⟨by omega, by omega⟩ ⟨by omega, by omega⟩ ⟨by omega, by omega⟩ ⟨by omega, by omega⟩).mono ?_; rintro e w9 ⟨rfl, hb9⟩; have hk9 := Hold.step (by assumption) hb9)
      | (go_at_call 49; refine (Challenge_any _ equalS _ [g, x, h, y, backP g x c s, backP h y c s] (sees_new _ 1 _ _ 6 rfl (by decide)) HI.out (by decide) (by show 6 ≤ 1000000; omega)).mono ?_; rintro e w10 ⟨rfl, hb10⟩; have hk10 := Hold.step (Hold.alloc (by assumption) _) hb10))
          refine phPost_normal ⟨⟨⟨_, (show Hold _ _ _ _ from by first | assumption | exact Hold.alloc (by assumption) _).1⟩, rfl⟩, ?_⟩
          first | refine wpPh_cons ?_ | refine wpPh_nil ?_
          simp only [pickOps, List.flatMap_cons, List.flatMap_nil, List.drop_succ_cons, List.drop_zero, List.take_succ_cons, List.take_zero, List.cons_append, List.nil_append, List.append_nil]
          repeat (go_big_quiet_step (exact rfl))
          refine wpQuiet_nil ?_)
        go_wp2_with fail
        go_ret
        exact ⟨ret_bool HF.out.symm, (show Hold _ _ _ _ from by assumption).2⟩
end Go.Proofs.YtmbgcjfmfkddpaaGreat
namespace Go.Proofs.YtmbgcjfmfkddpaaGreat
set_option linter.unusedVariables false
set_option linter.unusedSimpArgs false
open Go Go.RowKit
theorem stood_proof : Tryz.prog.stoodInHeld 43 = false := by kernel_rfl
theorem guard_proof : Tryz.prog.eqGuardType Tryz.prog.depth 43 = false := by kernel_rfl
theorem fields_proof : Tryz.prog.underlying 43 = some (.struct (Tryz.prog.fieldsOf 43)) := by kernel_rfl
theorem run_eqP (c s c' s' : Int) (w : World) : (binOp .eql 43 (PV c s) (PV c' s')).run Tryz.prog w = .ok (.bool (c == c' && s == s')) w := by
  unfold PV
  rw [run_eql_struct, run_equalIn_agg w 9999 _ _ _ fields_proof stood_proof]
  unfold Program.fieldsOf
  rw [Tryz.underlying43]
  have h1 : (Tryz.prog.info? 24).map (·.size) = some 1 := by kernel_rfl
  obtain ⟨ti, hti, hsz⟩ := Option.map_eq_some_iff.1 h1
  have e (a b : Int) := run_equalIn_int (P := Tryz.prog) w 9998 24 .u64 .u64 a b Tryz.underlying24
  simp [Op.eqFields, part, sizeOf, typeInfo, hti, hsz, e, go_sem]
  by_cases h : c = c' <;> by_cases k : s = s' <;> simp [h, k]
theorem wpList_eqP {ops : Array Oper} {rest : List Oper} {o : Oper} {a : Act} {w : World} {Q : Exit → Act → World → Prop} (hgd : Region.wanted o (yielded ops a.tmps) = true) (x y : Operand)
    (ho : o.op = .binOp .eql 43 x y 43) (c s c' s' : Int) (hx : a.eval x = PV c s) (hy : a.eval y = PV c' s')
    (h : wpList Tryz.prog ops Q rest (a.put o.dst (.bool (c == c' && s == s'))) w) : wpList Tryz.prog ops Q (o :: rest) a w := by
  unfold wpList
  rw [if_pos hgd]
  have hrun := run_eqP c s c' s' w
  have hgu := run_eqGuard_agg w .eql 43 x y #[.int .u64 c, .int .u64 s] #[.int .u64 c', .int .u64 s'] guard_proof
  refine .inl ?_
  unfold Oper.wp
  simp only [execOp, ho, hx, hy]
  simp only [Sem.run_bind, PV, hgu, Result.andThen_ok]
  simp only [PV] at hrun
  rw [hrun]
  exact h
end Go.Proofs.YtmbgcjfmfkddpaaGreat
namespace Go.Proofs.YtmbgcjfmfkddpaaGreat
set_option linter.unusedVariables false
set_option linter.unusedSimpArgs false
open Go Go.RowKit

instance (x : Int) : Decidable (in64 x) := by unfold in64; infer_instance
theorem timesP_nat (g e : Nat) (h0 : 0 < g) (h1 : g < PP) : timesP (g : Int) (e : Int) = ((g ^ e % PP : Nat) : Int) := by
  have hp : PP = 2305843009213693951 := rfl
  unfold timesP
  rw [if_pos (show okP (g : Int) from ⟨by omega, by omega⟩)]
  simp only [powP, Int.toNat_natCast]
theorem sum_modN (d p : Nat) (s : Nat) (hs : (s : Int) = ((d : Int) - (p : Int) % 2305843009213693950) % 2305843009213693950) : (s + p) % NN = d % NN := by
  have hn : NN = 2305843009213693950 := rfl
  rw [hn]; omega
theorem back_holds {g a d c : Int} (hg : okP g) (ha : in64 a) (hd : in64 d) (hc : 0 ≤ c) : okP (timesP g a) ∧ backP g (timesP g a) c (ansP c a d) = timesP g d := by
  obtain ⟨g, rfl⟩ := Int.eq_ofNat_of_zero_le (Int.le_of_lt hg.1)
  obtain ⟨a, rfl⟩ := Int.eq_ofNat_of_zero_le ha.1
  obtain ⟨d, rfl⟩ := Int.eq_ofNat_of_zero_le hd.1
  obtain ⟨c, rfl⟩ := Int.eq_ofNat_of_zero_le hc
  have hp : PP = 2305843009213693951 := rfl
  have g0 : 0 < g := by have := hg.1; omega
  have g1 : g < PP := by have := hg.2; omega
  obtain ⟨s0, s1⟩ := ansP_pos (c : Int) a d
  obtain ⟨s, hs⟩ := Int.eq_ofNat_of_zero_le s0
  have hx0 := pow_pos_mod g a g0 g1
  have hx1 : g ^ a % PP < PP := Nat.mod_lt _ (by decide)
  rw [hs, timesP_nat g a g0 g1]
  refine ⟨⟨by omega, by omega⟩, ?_⟩
  unfold backP
  rw [timesP_nat g s g0 g1, timesP_nat (g ^ a % PP) c hx0 hx1, timesP_nat g d g0 g1]
  have hsum : (s + c * a) % NN = d % NN := by
    apply sum_modN
    rw [← hs]; unfold ansP subN mulN
    rw [Int.natCast_mul]
  have h1 : (g ^ s % PP) * ((g ^ a % PP) ^ c % PP) % PP = g ^ d % PP := by
    rw [← Nat.pow_mod, ← Nat.mul_mod, ← Nat.pow_mul, ← Nat.pow_add, Nat.mul_comm a c, ← pow_modN g (s + c * a) g0 g1, hsum, pow_modN g d g0 g1]
  have h2 := congrArg (fun n : Nat => (n : Int)) h1
  rw [Int.natCast_emod ((g ^ s % PP) * ((g ^ a % PP) ^ c % PP)) PP, Int.natCast_mul (g ^ s % PP) ((g ^ a % PP) ^ c % PP)] at h2
  exact h2
theorem know_holds {g a d : Int} (hg : okP g) (ha : in64 a) (hd : in64 d) : knowOk g (timesP g a) (knowC g (timesP g a) d) (ansP (knowC g (timesP g a) d) a d) := by
  obtain ⟨c0, c1⟩ := chal_pos knowS [g, timesP g a, timesP g d]
  obtain ⟨h1, h2⟩ := back_holds (c := knowC g (timesP g a) d) hg ha hd c0
  exact ⟨hg, h1, ⟨c1, (ansP_pos _ _ _).2⟩, by rw [h2]; rfl⟩
theorem equal_holds {g h a d : Int} (hg : okP g) (hh : okP h) (ha : in64 a) (hd : in64 d) :
    equalOk g (timesP g a) h (timesP h a) (equalC g (timesP g a) h (timesP h a) d) (ansP (equalC g (timesP g a) h (timesP h a) d) a d) := by
  obtain ⟨c0, c1⟩ := chal_pos equalS [g, timesP g a, h, timesP h a, timesP g d, timesP h d]
  obtain ⟨h1, h2⟩ := back_holds (c := equalC g (timesP g a) h (timesP h a) d) hg ha hd c0
  obtain ⟨h3, h4⟩ := back_holds (c := equalC g (timesP g a) h (timesP h a) d) hh ha hd c0
  exact ⟨hg, h1, hh, h3, ⟨c1, (ansP_pos _ _ _).2⟩, by rw [h2, h4]; rfl⟩

theorem knowC_pos (g x d : Int) : 0 ≤ knowC g x d ∧ knowC g x d < 2305843009213693950 := chal_pos _ _
theorem equalC_pos (g x h y d : Int) : 0 ≤ equalC g x h y d ∧ equalC g x h y d < 2305843009213693950 := chal_pos _ _
/-- Nothing older is touched. -/
def Up (w w' : World) : Prop := Below w.heap.size w w'
theorem Up.refl (w : World) : Up w w := Below.refl _ _
theorem Up.step {w w1 w2 : World} (h : Up w w1) (hb : Below w1.heap.size w1 w2) : Up w w2 := Below.trans h (hb.mono h.size)

end Go.Proofs.YtmbgcjfmfkddpaaGreat
