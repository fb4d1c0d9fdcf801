/-
  Proofs of knowledge: their parts, both programs.
-/
import Derived.Test.YteialfdhbfbkgaaChal
import Derived.Test.YteialfdhbfbkgaaSched
namespace Go.Proofs.Yteialfdhbfbkgaa
set_option linter.unusedVariables false
set_option linter.unusedSimpArgs false
open Go Go.RowKit

def smallP (c s : Int) : Prop := c < 2305843009213693950 ∧ s < 2305843009213693950
instance (c s : Int) : Decidable (smallP c s) := by unfold smallP; infer_instance
def backP (g x c s : Int) : Int := timesP g s * timesP x c % 2305843009213693951
theorem backP_pos (g x c s : Int) : 0 ≤ backP g x c s ∧ backP g x c s < 2305843009213693951 := by unfold backP; omega
def ansP (c secret draw : Int) : Int := subN draw (mulN c secret)
theorem ansP_pos (c secret draw : Int) : 0 ≤ ansP c secret draw ∧ ansP c secret draw < 2305843009213693950 := subN_pos _ _

set_option maxHeartbeats 400000 in
theorem Answer_any (c secret draw : Int) (w : World) (hc0 : 0 ≤ c) (hc : c < 18446744073709551616) (hs0 : 0 ≤ secret) (hs : secret < 18446744073709551616) (hd0 : 0 ≤ draw) (hd : draw < 18446744073709551616) :
    Calls Try.prog 51 #[.int .u64 c, .int .u64 secret, .int .u64 draw] w (RetQ (.int .u64 (ansP c secret draw)) w) := by
  obtain ⟨m0, m1⟩ := mulN_pos c secret
  unfold ansP
  generalize hm : mulN c secret = M at *
  have HM := Lib.hid hm; clear hm
  go_enter Try.func51, Try.ntmps51
  go_wp2_with (first
    | (go_at_call 85; refine (MulS_any _ _ _ (by omega) (by omega) (by omega) (by omega)).mono ?_; rintro e w' ⟨rfl, n1, rfl⟩; rw [HM.out])
    | (go_at_call 84; refine (Sub_any _ _ _ (by omega) (by omega) (by omega) (by omega)).mono ?_; rintro e w' ⟨rfl, rfl⟩))
  go_ret
  exact ⟨rfl, _, rfl⟩
set_option maxHeartbeats 400000 in
theorem Answerr_any (c secret draw : Int) (w : World) (hc0 : 0 ≤ c) (hc : c < 18446744073709551616) (hs0 : 0 ≤ secret) (hs : secret < 18446744073709551616) (hd0 : 0 ≤ draw) (hd : draw < 18446744073709551616) :
    Calls Try.prog 62 #[.int .u64 draw, .int .u64 c, .int .u64 secret] w (RetQ (.int .u64 (ansP c secret draw)) w) := by
  obtain ⟨m0, m1⟩ := mulN_pos c secret
  unfold ansP
  generalize hm : mulN c secret = M at *
  have HM := Lib.hid hm; clear hm
  go_enter Try.func62, Try.ntmps62
  go_wp2_with (first
    | (go_at_call 88; refine (MulN_any _ _ _ (by omega) (by omega) (by omega) (by omega)).mono ?_; rintro e w' ⟨rfl, rfl⟩; rw [HM.out])
    | (go_at_call 89; refine (SubN_any _ _ _ (by omega) (by omega) (by omega) (by omega)).mono ?_; rintro e w' ⟨rfl, rfl⟩))
  go_ret
  exact ⟨rfl, 0, rfl⟩

set_option maxHeartbeats 400000 in
theorem PRight_any (c s : Int) (w : World) :
    Calls Try.prog 54 #[.agg #[.int .u64 c, .int .u64 s]] w fun e w' => e = .returned (.bool (decide (smallP c s))) ∧ Below w.heap.size w w' := by
  by_cases h0 : c < 2305843009213693950
  · by_cases h1 : s < 2305843009213693950
    · have hb := Lib.hid (show decide (smallP c s) = true by simp [smallP, h0, h1])
      generalize decide (smallP c s) = b at *
      go_enter Try.func54, Try.ntmps54
      go_wp2
      go_ret
      exact ⟨ret_bool hb.out.symm, by go_grown⟩
    · have hb := Lib.hid (show decide (smallP c s) = false by simp [smallP, h1])
      generalize decide (smallP c s) = b at *
      go_enter Try.func54, Try.ntmps54
      go_wp2
      go_ret
      exact ⟨ret_bool hb.out.symm, by go_grown⟩
  · have hb := Lib.hid (show decide (smallP c s) = false by simp [smallP, h0])
    generalize decide (smallP c s) = b at *
    go_enter Try.func54, Try.ntmps54
    go_wp2
    go_ret
    exact ⟨ret_bool hb.out.symm, by go_grown⟩
set_option maxHeartbeats 400000 in
theorem small_any (c s : Int) (w : World) :
    Calls Try.prog 63 #[.agg #[.int .u64 c, .int .u64 s]] w fun e w' => e = .returned (.bool (decide (smallP c s))) ∧ Below w.heap.size w w' := by
  by_cases h0 : c < 2305843009213693950
  · by_cases h1 : s < 2305843009213693950
    · have hb := Lib.hid (show decide (smallP c s) = true by simp [smallP, h0, h1])
      generalize decide (smallP c s) = b at *
      go_enter Try.func63, Try.ntmps63
      go_wp2
      go_ret
      exact ⟨ret_bool hb.out.symm, by go_grown⟩
    · have hb := Lib.hid (show decide (smallP c s) = false by simp [smallP, h1])
      generalize decide (smallP c s) = b at *
      go_enter Try.func63, Try.ntmps63
      go_wp2
      go_ret
      exact ⟨ret_bool hb.out.symm, by go_grown⟩
  · have hb := Lib.hid (show decide (smallP c s) = false by simp [smallP, h0])
    generalize decide (smallP c s) = b at *
    go_enter Try.func63, Try.ntmps63
    go_wp2
    go_ret
    exact ⟨ret_bool hb.out.symm, by go_grown⟩

theorem prodP_two (a b : Int) (ha0 : 0 ≤ a) (ha : a < 2305843009213693951) (hb0 : 0 ≤ b) (hb : b < 2305843009213693951) : prodP [a, b] 1 = a * b % 2305843009213693951 := by
  simp only [prodP]
  by_cases h : a = 0
  · subst h; rw [if_neg (fun h : okP 0 => absurd h.1 (by decide)), Int.zero_mul]; rfl
  · by_cases h2 : b = 0
    · subst h2; rw [if_pos (show okP a from ⟨by omega, by omega⟩), if_neg (fun h : okP 0 => absurd h.1 (by decide)), Int.mul_zero]; rfl
    · rw [if_pos (show okP a from ⟨by omega, by omega⟩), if_pos (show okP b from ⟨by omega, by omega⟩), Int.one_mul, Int.emod_eq_of_lt ha0 ha]
set_option maxHeartbeats 400000 in
theorem Back_any (g x c s : Int) (w : World) (hg : in64 g) (hx : in64 x) (hc : in64 c) (hs : in64 s) :
    Calls Try.prog 55 #[.int .u64 g, .int .u64 x, .agg #[.int .u64 c, .int .u64 s]] w fun e w' => e = .returned (.int .u64 (backP g x c s)) ∧ Below w.heap.size w w' := by
  obtain ⟨g0, g1⟩ := hg; obtain ⟨x0, x1⟩ := hx; obtain ⟨c0, c1⟩ := hc; obtain ⟨s0, s1⟩ := hs
  obtain ⟨t0, t1⟩ := timesP_pos g s
  obtain ⟨u0, u1⟩ := timesP_pos x c
  have HB := Lib.hid (show backP g x c s = prodP [timesP g s, timesP x c] 1 by rw [prodP_two _ _ t0 t1 u0 u1]; rfl)
  have HI := Lib.hid (show ∀ z ∈ [timesP g s, timesP x c], in64 z by intro z hz; simp at hz; rcases hz with rfl | rfl <;> exact ⟨by omega, by omega⟩)
  generalize backP g x c s = bk at *
  go_enter Try.func55, Try.ntmps55
  go_wp2_with fail
  have hS : ∀ e : InC (fun u => Blk u w.heap.size #[.int .u64 c, .int .u64 s] 43), e.u.cell? ⟨w.heap.size, 0, none⟩ = some (.int .u64 c) ∧ e.u.cell? ⟨w.heap.size, 1, none⟩ = some (.int .u64 s) := fun e => ⟨e.has.cell 0, e.has.cell 1⟩
  have hS0 := fun e => (hS e).1
  have hS1 := fun e => (hS e).2
  clear hS
  have hk : Blk (w.alloc (.cells #[.int .u64 c, .int .u64 s] 43)).drew w.heap.size #[.int .u64 c, .int .u64 s] 43 := (Blk.new w _ _).drew
  try change Code.wp _ _ _ (Act.mk _ _) _
  haveI hne_ : Nonempty (InC (fun u => Blk u w.heap.size #[.int .u64 c, .int .u64 s] 43)) := ⟨⟨_, hk⟩⟩
  refine wp_region_ph (C := fun w_ => ∃ e_ : InC (fun u => Blk u w.heap.size #[.int .u64 c, .int .u64 s] 43), w_ = e_.u) [([0, 1, 2, 4, 5, 6], 3), ([], 7), ([], 8), ([], 9)] [10] (by kernel_rfl) (by kernel_rfl) (fun _ _ _ _ hd_ h_ => ⟨hd_.symm.trans h_.1, h_.2⟩) ⟨⟨World.drew _, hk⟩, rfl⟩ ?_
  first | refine wpPh_cons ?_ | refine wpPh_nil ?_
  simp only [pickOps, List.flatMap_cons, List.flatMap_nil, List.drop_succ_cons, List.drop_zero, List.take_succ_cons, List.take_zero, List.cons_append, List.nil_append, List.append_nil]
  iterate 6 (go_big_quiet_step (exact rfl))
  refine wpQuiet_nil ?_
  go_wp2_with (go_at_call 50; refine (Times_any _ _ _ (by omega) (by omega) (by omega) (by omega)).mono ?_; rintro e w' ⟨rfl, rfl⟩)
  refine phPost_normal ⟨⟨⟨_, hk⟩, rfl⟩, ?_⟩
  first | refine wpPh_cons ?_ | refine wpPh_nil ?_
  simp only [pickOps, List.flatMap_cons, List.flatMap_nil, List.drop_succ_cons, List.drop_zero, List.take_succ_cons, List.take_zero, List.cons_append, List.nil_append, List.append_nil]
  refine wpQuiet_nil ?_
  go_wp2_with (go_at_call 50; refine (Times_any _ _ _ (by omega) (by omega) (by omega) (by omega)).mono ?_; rintro e w' ⟨rfl, rfl⟩)
  refine phPost_normal ⟨⟨⟨_, hk⟩, rfl⟩, ?_⟩
  first | refine wpPh_cons ?_ | refine wpPh_nil ?_
  simp only [pickOps, List.flatMap_cons, List.flatMap_nil, List.drop_succ_cons, List.drop_zero, List.take_succ_cons, List.take_zero, List.cons_append, List.nil_append, List.append_nil]
  refine wpQuiet_nil ?_
  go_wp2_with fail
  refine phPost_normal ⟨⟨⟨_, hk.alloc _⟩, rfl⟩, ?_⟩
  first | refine wpPh_cons ?_ | refine wpPh_nil ?_
  simp only [pickOps, List.flatMap_cons, List.flatMap_nil, List.drop_succ_cons, List.drop_zero, List.take_succ_cons, List.take_zero, List.cons_append, List.nil_append, List.append_nil]
  refine wpQuiet_nil ?_
  have hsee : SeesU ((w.alloc (.cells #[.int .u64 c, .int .u64 s] 43)).alloc (.cells #[.int .u64 (timesP g s), .int .u64 (timesP x c)] 24)).drew (.slice (some ⟨w.heap.size + 1, 0, none⟩) 2 2) [timesP g s, timesP x c] :=
    sees_block (Blk.new2 w _ _ _).drew 1 2 rfl (by decide)
  go_wp2_with (go_at_call 86; refine (Product_any _ _ _ hsee HI.out).mono ?_; rintro e w' ⟨rfl, rfl⟩)
  refine phPost_normal ⟨⟨⟨_, hk.alloc _⟩, rfl⟩, ?_⟩
  first | refine wpPh_cons ?_ | refine wpPh_nil ?_
  simp only [pickOps, List.flatMap_cons, List.flatMap_nil, List.drop_succ_cons, List.drop_zero, List.take_succ_cons, List.take_zero, List.cons_append, List.nil_append, List.append_nil]
  iterate 1 (go_big_quiet_step (exact rfl))
  refine wpQuiet_nil ?_
  go_wp2_with fail
  go_ret
  exact ⟨ret_u64 HB.out.symm, by go_grown⟩
set_option maxHeartbeats 400000 in
theorem back_any (g x c s : Int) (w : World) (hg : in64 g) (hx : in64 x) (hc : in64 c) (hs : in64 s) :
    Calls Try.prog 64 #[.int .u64 g, .int .u64 x, .agg #[.int .u64 c, .int .u64 s]] w fun e w' => e = .returned (.int .u64 (backP g x c s)) ∧ Below w.heap.size w w' := by
  obtain ⟨g0, g1⟩ := hg; obtain ⟨x0, x1⟩ := hx; obtain ⟨c0, c1⟩ := hc; obtain ⟨s0, s1⟩ := hs
  obtain ⟨t0, t1⟩ := timesP_pos g s
  obtain ⟨u0, u1⟩ := timesP_pos x c
  have HB := Lib.hid (show backP g x c s = timesP g s * timesP x c % 2305843009213693951 from rfl)
  generalize backP g x c s = bk at *
  go_enter Try.func64, Try.ntmps64
  go_wp2_with fail
  have hS : ∀ e : InC (fun u => Blk u w.heap.size #[.int .u64 c, .int .u64 s] 43), e.u.cell? ⟨w.heap.size, 0, none⟩ = some (.int .u64 c) ∧ e.u.cell? ⟨w.heap.size, 1, none⟩ = some (.int .u64 s) := fun e => ⟨e.has.cell 0, e.has.cell 1⟩
  have hS0 := fun e => (hS e).1
  have hS1 := fun e => (hS e).2
  clear hS
  have hk : Blk (w.alloc (.cells #[.int .u64 c, .int .u64 s] 43)).drew w.heap.size #[.int .u64 c, .int .u64 s] 43 := (Blk.new w _ _).drew
  try change Code.wp _ _ _ (Act.mk _ _) _
  haveI hne_ : Nonempty (InC (fun u => Blk u w.heap.size #[.int .u64 c, .int .u64 s] 43)) := ⟨⟨_, hk⟩⟩
  refine wp_region_ph (C := fun w_ => ∃ e_ : InC (fun u => Blk u w.heap.size #[.int .u64 c, .int .u64 s] 43), w_ = e_.u) [([0, 1, 2, 4, 5, 6], 3), ([], 7), ([], 8)] [9] (by kernel_rfl) (by kernel_rfl) (fun _ _ _ _ hd_ h_ => ⟨hd_.symm.trans h_.1, h_.2⟩) ⟨⟨World.drew _, hk⟩, rfl⟩ ?_
  first | refine wpPh_cons ?_ | refine wpPh_nil ?_
  simp only [pickOps, List.flatMap_cons, List.flatMap_nil, List.drop_succ_cons, List.drop_zero, List.take_succ_cons, List.take_zero, List.cons_append, List.nil_append, List.append_nil]
  iterate 6 (go_big_quiet_step (exact rfl))
  refine wpQuiet_nil ?_
  go_wp2_with (go_at_call 21; refine (Timesr_any _ _ _ (by omega) (by omega) (by omega) (by omega)).mono ?_; rintro e w' ⟨rfl, rfl⟩)
  refine phPost_normal ⟨⟨⟨_, hk⟩, rfl⟩, ?_⟩
  first | refine wpPh_cons ?_ | refine wpPh_nil ?_
  simp only [pickOps, List.flatMap_cons, List.flatMap_nil, List.drop_succ_cons, List.drop_zero, List.take_succ_cons, List.take_zero, List.cons_append, List.nil_append, List.append_nil]
  refine wpQuiet_nil ?_
  go_wp2_with (go_at_call 21; refine (Timesr_any _ _ _ (by omega) (by omega) (by omega) (by omega)).mono ?_; rintro e w' ⟨rfl, rfl⟩)
  refine phPost_normal ⟨⟨⟨_, hk⟩, rfl⟩, ?_⟩
  first | refine wpPh_cons ?_ | refine wpPh_nil ?_
  simp only [pickOps, List.flatMap_cons, List.flatMap_nil, List.drop_succ_cons, List.drop_zero, List.take_succ_cons, List.take_zero, List.cons_append, List.nil_append, List.append_nil]
  refine wpQuiet_nil ?_
  go_wp2_with (go_at_call 25; refine (MulP_any _ _ _ (by omega) (by omega) (by omega) (by omega)).mono ?_; rintro e w' ⟨rfl, rfl⟩)
  refine phPost_normal ⟨⟨⟨_, hk⟩, rfl⟩, ?_⟩
  first | refine wpPh_cons ?_ | refine wpPh_nil ?_
  simp only [pickOps, List.flatMap_cons, List.flatMap_nil, List.drop_succ_cons, List.drop_zero, List.take_succ_cons, List.take_zero, List.cons_append, List.nil_append, List.append_nil]
  iterate 1 (go_big_quiet_step (exact rfl))
  refine wpQuiet_nil ?_
  go_wp2_with fail
  go_ret
  exact ⟨ret_u64 HB.out.symm, by go_grown⟩

def knowS : ByteArray := ⟨#[107, 110, 111, 119]⟩
def equalS : ByteArray := ⟨#[101, 113, 117, 97, 108]⟩
/-- The numbers of a proof. -/
abbrev PV (c s : Int) : Value := .agg #[.int .u64 c, .int .u64 s]
def knowC (g x draw : Int) : Int := chal knowS [g, x, timesP g draw]
def equalC (g x h y draw : Int) : Int := chal equalS [g, x, h, y, timesP g draw, timesP h draw]

theorem info_proof : (Try.prog.info? 43).map (·.size) = some 2 := by kernel_rfl
theorem pv_size (c s : Int) : (#[Value.int .u64 c, Value.int .u64 s]).size = 2 := by simp
theorem pv_one (c s : Int) : ∀ v ∈ (#[Value.int .u64 c, Value.int .u64 s]).toList, v.oneCell' = true := by
  intro v hv; simp at hv; rcases hv with rfl | rfl <;> rfl
theorem in64_P {x : Int} (h : 0 ≤ x ∧ x < 2305843009213693951) : in64 x := ⟨h.1, by omega⟩
set_option maxHeartbeats 400000 in
theorem Know_any (g x secret draw : Int) (w : World) (hg : in64 g) (hx : in64 x) (hs : in64 secret) (hd : in64 draw) :
    Calls Try.prog 24 #[.int .u64 g, .int .u64 x, .int .u64 secret, .int .u64 draw] w fun e w' => e = .returned (PV (knowC g x draw) (ansP (knowC g x draw) secret draw)) ∧ Below w.heap.size w w' := by
  have HI := Lib.hid (show ∀ z ∈ [g, x, timesP g draw], in64 z by intro z hz; simp at hz; rcases hz with rfl | rfl | rfl <;> first | assumption | exact in64_P (timesP_pos _ _))
  obtain ⟨g0, g1⟩ := hg; obtain ⟨x0, x1⟩ := hx; obtain ⟨s0, s1⟩ := hs; obtain ⟨d0, d1⟩ := hd
  have HC := Lib.hid (show knowC g x draw = chal knowS [g, x, timesP g draw] from rfl)
  obtain ⟨c0, c1⟩ : 0 ≤ knowC g x draw ∧ knowC g x draw < 2305843009213693950 := chal_pos _ _
  generalize knowC g x draw = C at *
  go_enter Try.func24, Try.ntmps24
  go_wp2_with (first
    | (go_at_call 50; refine (Times_any _ _ _ (by omega) (by omega) (by omega) (by omega)).mono ?_; rintro e w' ⟨rfl, rfl⟩)
    | (go_at_call 28; refine (Challenge_any _ knowS _ [g, x, timesP g draw] (sees_block (Blk.new2 w _ _ _) 1 3 rfl (by decide)) HI.out (by decide) (by show 3 ≤ 1000000; omega)).mono ?_; rintro e w5 ⟨rfl, hb5⟩; rw [← HC.out])
    | (go_at_call 51; refine (Answer_any _ _ _ _ (by omega) (by omega) (by omega) (by omega) (by omega) (by omega)).mono ?_; rintro e w' ⟨rfl, n6, rfl⟩)
    | (refine wpList_store_row rfl 43 _ _ rfl w.heap.size #[.int .u64 C, .int .u64 (ansP C secret draw)] _ _ rfl rfl ((((Blk.new w _ _).alloc _).below hb5).drewN n6) (by rw [pv_size, pv_size]) (by rw [pv_size]; exact info_proof) (pv_one _ _) ?_; intro w7 hg7 hs7 hR7))
  have hbel5 : Below w.heap.size w w5 := Below.trans (by go_grown) (hb5.mono (by simp only [World.size_alloc]; omega))
  have hbel7 := (below_drewN hbel5 n6).grown hg7 (below_drewN hbel5 n6).size (fun k hk => by cases hk; exact Nat.le_refl _)
  exact bodyPost_ret (results_cell_row Try.results24 _ _ w.heap.size _ _ (0, 0) _ rfl hR7 Try.underlying43 rfl (by rw [pv_size]; exact info_proof)) rfl ⟨rfl, hbel7⟩
set_option maxHeartbeats 400000 in
theorem Knowr_any (g x secret draw : Int) (w : World) (hg : in64 g) (hx : in64 x) (hs : in64 secret) (hd : in64 draw) :
    Calls Try.prog 30 #[.int .u64 g, .int .u64 x, .int .u64 secret, .int .u64 draw] w fun e w' => e = .returned (PV (knowC g x draw) (ansP (knowC g x draw) secret draw)) ∧ Below w.heap.size w w' := by
  have HI := Lib.hid (show ∀ z ∈ [g, x, timesP g draw], in64 z by intro z hz; simp at hz; rcases hz with rfl | rfl | rfl <;> first | assumption | exact in64_P (timesP_pos _ _))
  obtain ⟨g0, g1⟩ := hg; obtain ⟨x0, x1⟩ := hx; obtain ⟨s0, s1⟩ := hs; obtain ⟨d0, d1⟩ := hd
  have HC := Lib.hid (show knowC g x draw = chal knowS [g, x, timesP g draw] from rfl)
  obtain ⟨c0, c1⟩ : 0 ≤ knowC g x draw ∧ knowC g x draw < 2305843009213693950 := chal_pos _ _
  generalize knowC g x draw = C at *
  go_enter Try.func30, Try.ntmps30
  go_wp2_with (first
    | (go_at_call 21; refine (Timesr_any _ _ _ (by omega) (by omega) (by omega) (by omega)).mono ?_; rintro e w' ⟨rfl, rfl⟩)
    | (go_at_call 29; refine (Challenger_any _ knowS _ [g, x, timesP g draw] (sees_block (Blk.new2 w _ _ _) 1 3 rfl (by decide)) HI.out (by decide) (by show 3 ≤ 1000000; omega)).mono ?_; rintro e w5 ⟨rfl, hb5⟩; rw [← HC.out])
    | (go_at_call 62; refine (Answerr_any _ _ _ _ (by omega) (by omega) (by omega) (by omega) (by omega) (by omega)).mono ?_; rintro e w' ⟨rfl, n6, rfl⟩)
    | (refine wpList_store_row rfl 43 _ _ rfl w.heap.size #[.int .u64 C, .int .u64 (ansP C secret draw)] _ _ rfl rfl ((((Blk.new w _ _).alloc _).below hb5).drewN n6) (by rw [pv_size, pv_size]) (by rw [pv_size]; exact info_proof) (pv_one _ _) ?_; intro w7 hg7 hs7 hR7))
  have hbel5 : Below w.heap.size w w5 := Below.trans (by go_grown) (hb5.mono (by simp only [World.size_alloc]; omega))
  have hbel7 := (below_drewN hbel5 n6).grown hg7 (below_drewN hbel5 n6).size (fun k hk => by cases hk; exact Nat.le_refl _)
  exact bodyPost_ret (results_cell_row Try.results30 _ _ w.heap.size _ _ (0, 0) _ rfl hR7 Try.underlying43 rfl (by rw [pv_size]; exact info_proof)) rfl ⟨rfl, hbel7⟩
set_option maxHeartbeats 400000 in
theorem Equal_any (g x h y secret draw : Int) (w : World) (hg : in64 g) (hx : in64 x) (hh : in64 h) (hy : in64 y) (hs : in64 secret) (hd : in64 draw) :
    Calls Try.prog 31 #[.int .u64 g, .int .u64 x, .int .u64 h, .int .u64 y, .int .u64 secret, .int .u64 draw] w fun e w' => e = .returned (PV (equalC g x h y draw) (ansP (equalC g x h y draw) secret draw)) ∧ Below w.heap.size w w' := by
  have HI := Lib.hid (show ∀ z ∈ [g, x, h, y, timesP g draw, timesP h draw], in64 z by intro z hz; simp at hz; rcases hz with rfl | rfl | rfl | rfl | rfl | rfl <;> first | assumption | exact in64_P (timesP_pos _ _))
  obtain ⟨g0, g1⟩ := hg; obtain ⟨x0, x1⟩ := hx; obtain ⟨h0, h1⟩ := hh; obtain ⟨y0, y1⟩ := hy; obtain ⟨s0, s1⟩ := hs; obtain ⟨d0, d1⟩ := hd
  have HC := Lib.hid (show equalC g x h y draw = chal equalS [g, x, h, y, timesP g draw, timesP h draw] from rfl)
  obtain ⟨c0, c1⟩ : 0 ≤ equalC g x h y draw ∧ equalC g x h y draw < 2305843009213693950 := chal_pos _ _
  generalize equalC g x h y draw = C at *
  go_enter Try.func31, Try.ntmps31
  go_wp2_with (first
    | (go_at_call 50; refine (Times_any _ _ _ (by omega) (by omega) (by omega) (by omega)).mono ?_; rintro e w' ⟨rfl, rfl⟩)
    | (go_at_call 28; refine (Challenge_any _ equalS _ [g, x, h, y, timesP g draw, timesP h draw] (sees_block (Blk.new2 w _ _ _) 1 6 rfl (by decide)) HI.out (by decide) (by show 6 ≤ 1000000; omega)).mono ?_; rintro e w5 ⟨rfl, hb5⟩; rw [← HC.out])
    | (go_at_call 51; refine (Answer_any _ _ _ _ (by omega) (by omega) (by omega) (by omega) (by omega) (by omega)).mono ?_; rintro e w' ⟨rfl, n6, rfl⟩)
    | (refine wpList_store_row rfl 43 _ _ rfl w.heap.size #[.int .u64 C, .int .u64 (ansP C secret draw)] _ _ rfl rfl ((((Blk.new w _ _).alloc _).below hb5).drewN n6) (by rw [pv_size, pv_size]) (by rw [pv_size]; exact info_proof) (pv_one _ _) ?_; intro w7 hg7 hs7 hR7))
  have hbel5 : Below w.heap.size w w5 := Below.trans (by go_grown) (hb5.mono (by simp only [World.size_alloc]; omega))
  have hbel7 := (below_drewN hbel5 n6).grown hg7 (below_drewN hbel5 n6).size (fun k hk => by cases hk; exact Nat.le_refl _)
  exact bodyPost_ret (results_cell_row Try.results31 _ _ w.heap.size _ _ (0, 0) _ rfl hR7 Try.underlying43 rfl (by rw [pv_size]; exact info_proof)) rfl ⟨rfl, hbel7⟩
set_option maxHeartbeats 400000 in
theorem Equalr_any (g x h y secret draw : Int) (w : World) (hg : in64 g) (hx : in64 x) (hh : in64 h) (hy : in64 y) (hs : in64 secret) (hd : in64 draw) :
    Calls Try.prog 32 #[.int .u64 g, .int .u64 x, .int .u64 h, .int .u64 y, .int .u64 secret, .int .u64 draw] w fun e w' => e = .returned (PV (equalC g x h y draw) (ansP (equalC g x h y draw) secret draw)) ∧ Below w.heap.size w w' := by
  have HI := Lib.hid (show ∀ z ∈ [g, x, h, y, timesP g draw, timesP h draw], in64 z by intro z hz; simp at hz; rcases hz with rfl | rfl | rfl | rfl | rfl | rfl <;> first | assumption | exact in64_P (timesP_pos _ _))
  obtain ⟨g0, g1⟩ := hg; obtain ⟨x0, x1⟩ := hx; obtain ⟨h0, h1⟩ := hh; obtain ⟨y0, y1⟩ := hy; obtain ⟨s0, s1⟩ := hs; obtain ⟨d0, d1⟩ := hd
  have HC := Lib.hid (show equalC g x h y draw = chal equalS [g, x, h, y, timesP g draw, timesP h draw] from rfl)
  obtain ⟨c0, c1⟩ : 0 ≤ equalC g x h y draw ∧ equalC g x h y draw < 2305843009213693950 := chal_pos _ _
  generalize equalC g x h y draw = C at *
  go_enter Try.func32, Try.ntmps32
  go_wp2_with (first
    | (go_at_call 21; refine (Timesr_any _ _ _ (by omega) (by omega) (by omega) (by omega)).mono ?_; rintro e w' ⟨rfl, rfl⟩)
    | (go_at_call 29; refine (Challenger_any _ equalS _ [g, x, h, y, timesP g draw, timesP h draw] (sees_block (Blk.new2 w _ _ _) 1 6 rfl (by decide)) HI.out (by decide) (by show 6 ≤ 1000000; omega)).mono ?_; rintro e w5 ⟨rfl, hb5⟩; rw [← HC.out])
    | (go_at_call 62; refine (Answerr_any _ _ _ _ (by omega) (by omega) (by omega) (by omega) (by omega) (by omega)).mono ?_; rintro e w' ⟨rfl, n6, rfl⟩)
    | (refine wpList_store_row rfl 43 _ _ rfl w.heap.size #[.int .u64 C, .int .u64 (ansP C secret draw)] _ _ rfl rfl ((((Blk.new w _ _).alloc _).below hb5).drewN n6) (by rw [pv_size, pv_size]) (by rw [pv_size]; exact info_proof) (pv_one _ _) ?_; intro w7 hg7 hs7 hR7))
  have hbel5 : Below w.heap.size w w5 := Below.trans (by go_grown) (hb5.mono (by simp only [World.size_alloc]; omega))
  have hbel7 := (below_drewN hbel5 n6).grown hg7 (below_drewN hbel5 n6).size (fun k hk => by cases hk; exact Nat.le_refl _)
  exact bodyPost_ret (results_cell_row Try.results32 _ _ w.heap.size _ _ (0, 0) _ rfl hR7 Try.underlying43 rfl (by rw [pv_size]; exact info_proof)) rfl ⟨rfl, hbel7⟩
end Go.Proofs.Yteialfdhbfbkgaa
