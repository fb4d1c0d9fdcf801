/-
  Proofs of knowledge: their parts, both programs.
  Proofs of knowledge checked: both programs. (Printed by wip/gen_proof2.py.)
  CheckEqual of the program. (Printed by wip/gen_proof2.py.)
  Two proofs compared.
  What a proof made with the secret gives.
-/
import Derived.Test.YtbgnfioggmkdeaaGreatDoorPc
import Derived.Test.YtbgnfioggmkdeaaGreatDoorPa
import Derived.Laws.StructEq
namespace Go.Proofs.YtbgnfioggmkdeaaGreatDoor
set_option linter.unusedVariables false
set_option linter.unusedSimpArgs false
open Go Go.RowKit

def smallP (c s : Int) : Prop := c < 2305843009213693950 ∧ s < 2305843009213693950
instance (c s : Int) : Decidable (smallP c s) := by unfold smallP; infer_instance
def backP (g x c s : Int) : Int := timesP g s * timesP x c % 2305843009213693951
theorem backP_pos (g x c s : Int) : 0 ≤ backP g x c s ∧ backP g x c s < 2305843009213693951 := by unfold backP; omega
def ansP (c secret draw : Int) : Int := subN draw (mulN c secret)
theorem ansP_pos (c secret draw : Int) : 0 ≤ ansP c secret draw ∧ ansP c secret draw < 2305843009213693950 := subN_pos _ _

set_option maxHeartbeats 400000 in
theorem Answer_any (c secret draw : Int) (w : World) (hc0 : 0 ≤ c) (hc : c < 18446744073709551616) (hs0 : 0 ≤ secret) (hs : secret < 18446744073709551616) (hd0 : 0 ≤ draw) (hd : draw < 18446744073709551616) :
    Calls Tryz.prog 173 #[.int .u64 c, .int .u64 secret, .int .u64 draw] w (RetQ (.int .u64 (ansP c secret draw)) w) := by
  obtain ⟨m0, m1⟩ := mulN_pos c secret
  unfold ansP
  generalize hm : mulN c secret = M at *
  have HM := Lib.hid hm; clear hm
  go_enter Tryz.func173, Tryz.ntmps173
  go_wp2_with (first
    | (go_at_call 196; refine (MulS_any _ _ _ (by omega) (by omega) (by omega) (by omega)).mono ?_; rintro e w' ⟨rfl, n1, rfl⟩; rw [HM.out])
    | (go_at_call 195; refine (Sub_any _ _ _ (by omega) (by omega) (by omega) (by omega)).mono ?_; rintro e w' ⟨rfl, rfl⟩))
  go_ret
  exact ⟨rfl, _, rfl⟩
set_option maxHeartbeats 400000 in
theorem Answerr_any (c secret draw : Int) (w : World) (hc0 : 0 ≤ c) (hc : c < 18446744073709551616) (hs0 : 0 ≤ secret) (hs : secret < 18446744073709551616) (hd0 : 0 ≤ draw) (hd : draw < 18446744073709551616) :
    Calls Tryz.prog 153 #[.int .u64 draw, .int .u64 c, .int .u64 secret] w (RetQ (.int .u64 (ansP c secret draw)) w) := by
  obtain ⟨m0, m1⟩ := mulN_pos c secret
  unfold ansP
  generalize hm : mulN c secret = M at *
  have HM := Lib.hid hm; clear hm
  go_enter Tryz.func153, Tryz.ntmps153
  go_wp2_with (first
    | (go_at_call 182; refine (MulN_any _ _ _ (by omega) (by omega) (by omega) (by omega)).mono ?_; rintro e w' ⟨rfl, rfl⟩; rw [HM.out])
    | (go_at_call 181; refine (SubN_any _ _ _ (by omega) (by omega) (by omega) (by omega)).mono ?_; rintro e w' ⟨rfl, rfl⟩))
  go_ret
  exact ⟨rfl, 0, rfl⟩

theorem prodP_two (a b : Int) (ha0 : 0 ≤ a) (ha : a < 2305843009213693951) (hb0 : 0 ≤ b) (hb : b < 2305843009213693951) : prodP [a, b] 1 = a * b % 2305843009213693951 := by
  simp only [prodP]
  by_cases h : a = 0
  · subst h; rw [if_neg (fun h : okP 0 => absurd h.1 (by decide)), Int.zero_mul]; rfl
  · by_cases h2 : b = 0
    · subst h2; rw [if_pos (show okP a from ⟨by omega, by omega⟩), if_neg (fun h : okP 0 => absurd h.1 (by decide)), Int.mul_zero]; rfl
    · rw [if_pos (show okP a from ⟨by omega, by omega⟩), if_pos (show okP b from ⟨by omega, by omega⟩), Int.one_mul, Int.emod_eq_of_lt ha0 ha]
def knowS : ByteArray := ⟨#[107, 110, 111, 119]⟩
def equalS : ByteArray := ⟨#[101, 113, 117, 97, 108]⟩
/-- The numbers of a proof. -/
abbrev PV (c s : Int) : Value := .agg #[.int .u64 c, .int .u64 s]
def knowC (g x draw : Int) : Int := chal knowS [g, x, timesP g draw]
def equalC (g x h y draw : Int) : Int := chal equalS [g, x, h, y, timesP g draw, timesP h draw]

theorem info_proof : (Tryz.prog.info? 48).map (·.size) = some 2 := by kernel_rfl
theorem pv_size (c s : Int) : (#[Value.int .u64 c, Value.int .u64 s]).size = 2 := by simp
theorem pv_one (c s : Int) : ∀ v ∈ (#[Value.int .u64 c, Value.int .u64 s]).toList, v.oneCell' = true := by
  intro v hv; simp at hv; rcases hv with rfl | rfl <;> rfl
theorem in64_P {x : Int} (h : 0 ≤ x ∧ x < 2305843009213693951) : in64 x := ⟨h.1, by omega⟩
set_option maxHeartbeats 400000 in
theorem Know_any (g x secret draw : Int) (w : World) (hg : in64 g) (hx : in64 x) (hs : in64 secret) (hd : in64 draw) :
    Calls Tryz.prog 126 #[.int .u64 g, .int .u64 x, .int .u64 secret, .int .u64 draw] w fun e w' => e = .returned (PV (knowC g x draw) (ansP (knowC g x draw) secret draw)) ∧ Below w.heap.size w w' := by
  have HI := Lib.hid (show ∀ z ∈ [g, x, timesP g draw], in64 z by intro z hz; simp at hz; rcases hz with rfl | rfl | rfl <;> first | assumption | exact in64_P (timesP_pos _ _))
  obtain ⟨g0, g1⟩ := hg; obtain ⟨x0, x1⟩ := hx; obtain ⟨s0, s1⟩ := hs; obtain ⟨d0, d1⟩ := hd
  have HC := Lib.hid (show knowC g x draw = chal knowS [g, x, timesP g draw] from rfl)
  obtain ⟨c0, c1⟩ : 0 ≤ knowC g x draw ∧ knowC g x draw < 2305843009213693950 := chal_pos _ _
  generalize knowC g x draw = C at *
  go_enter Tryz.func126, Tryz.ntmps126
  go_wp2_with (first
    | (go_at_call 128; refine (Times_any _ _ _ (by omega) (by omega) (by omega) (by omega)).mono ?_; rintro e w' ⟨rfl, rfl⟩)
    | (go_at_call 172; refine (Challenge_any _ knowS _ [g, x, timesP g draw] (sees_block (Blk.new2 w _ _ _) 1 3 rfl (by decide)) HI.out (by decide) (by show 3 ≤ 1000000; omega)).mono ?_; rintro e w5 ⟨rfl, hb5⟩; rw [← HC.out])
    | (go_at_call 173; refine (Answer_any _ _ _ _ (by omega) (by omega) (by omega) (by omega) (by omega) (by omega)).mono ?_; rintro e w' ⟨rfl, n6, rfl⟩)
    | (refine wpList_store_row rfl 48 _ _ rfl w.heap.size #[.int .u64 C, .int .u64 (ansP C secret draw)] _ _ rfl rfl ((((Blk.new w _ _).alloc _).below hb5).drewN n6) (by rw [pv_size, pv_size]) (by rw [pv_size]; exact info_proof) (pv_one _ _) ?_; intro w7 hg7 hs7 hR7))
  have hbel5 : Below w.heap.size w w5 := Below.trans (by go_grown) (hb5.mono (by simp only [World.size_alloc]; omega))
  have hbel7 := (below_drewN hbel5 n6).grown hg7 (below_drewN hbel5 n6).size (fun k hk => by cases hk; exact Nat.le_refl _)
  exact bodyPost_ret (results_cell_row Tryz.results126 _ _ w.heap.size _ _ (0, 0) _ rfl hR7 Tryz.underlying48 rfl (by rw [pv_size]; exact info_proof)) rfl ⟨rfl, hbel7⟩
set_option maxHeartbeats 400000 in
theorem Knowr_any (g x secret draw : Int) (w : World) (hg : in64 g) (hx : in64 x) (hs : in64 secret) (hd : in64 draw) :
    Calls Tryz.prog 103 #[.int .u64 g, .int .u64 x, .int .u64 secret, .int .u64 draw] w fun e w' => e = .returned (PV (knowC g x draw) (ansP (knowC g x draw) secret draw)) ∧ Below w.heap.size w w' := by
  have HI := Lib.hid (show ∀ z ∈ [g, x, timesP g draw], in64 z by intro z hz; simp at hz; rcases hz with rfl | rfl | rfl <;> first | assumption | exact in64_P (timesP_pos _ _))
  obtain ⟨g0, g1⟩ := hg; obtain ⟨x0, x1⟩ := hx; obtain ⟨s0, s1⟩ := hs; obtain ⟨d0, d1⟩ := hd
  have HC := Lib.hid (show knowC g x draw = chal knowS [g, x, timesP g draw] from rfl)
  obtain ⟨c0, c1⟩ : 0 ≤ knowC g x draw ∧ knowC g x draw < 2305843009213693950 := chal_pos _ _
  generalize knowC g x draw = C at *
  go_enter Tryz.func103, Tryz.ntmps103
  go_wp2_with (first
    | (go_at_call 46; refine (Timesr_any _ _ _ (by omega) (by omega) (by omega) (by omega)).mono ?_; rintro e w' ⟨rfl, rfl⟩)
    | (go_at_call 152; refine (Challenger_any _ knowS _ [g, x, timesP g draw] (sees_block (Blk.new2 w _ _ _) 1 3 rfl (by decide)) HI.out (by decide) (by show 3 ≤ 1000000; omega)).mono ?_; rintro e w5 ⟨rfl, hb5⟩; rw [← HC.out])
    | (go_at_call 153; refine (Answerr_any _ _ _ _ (by omega) (by omega) (by omega) (by omega) (by omega) (by omega)).mono ?_; rintro e w' ⟨rfl, n6, rfl⟩)
    | (refine wpList_store_row rfl 48 _ _ rfl w.heap.size #[.int .u64 C, .int .u64 (ansP C secret draw)] _ _ rfl rfl ((((Blk.new w _ _).alloc _).below hb5).drewN n6) (by rw [pv_size, pv_size]) (by rw [pv_size]; exact info_proof) (pv_one _ _) ?_; intro w7 hg7 hs7 hR7))
  have hbel5 : Below w.heap.size w w5 := Below.trans (by go_grown) (hb5.mono (by simp only [World.size_alloc]; omega))
  have hbel7 := (below_drewN hbel5 n6).grown hg7 (below_drewN hbel5 n6).size (fun k hk => by cases hk; exact Nat.le_refl _)
  exact bodyPost_ret (results_cell_row Tryz.results103 _ _ w.heap.size _ _ (0, 0) _ rfl hR7 Tryz.underlying48 rfl (by rw [pv_size]; exact info_proof)) rfl ⟨rfl, hbel7⟩
end Go.Proofs.YtbgnfioggmkdeaaGreatDoor
namespace Go.Proofs.YtbgnfioggmkdeaaGreatDoor
set_option linter.unusedVariables false
set_option linter.unusedSimpArgs false
open Go Go.RowKit

/-- The call's first block is as it was laid, and nothing older is touched. -/
def Hold (w w1 : World) (cs : Array Value) (t : TypeId) : Prop := Blk w1 w.heap.size cs t ∧ Below w.heap.size w w1
theorem Hold.start (w : World) (cs : Array Value) (t : TypeId) : Hold w (w.alloc (.cells cs t)) cs t := ⟨Blk.new w _ _, by go_grown⟩
theorem Hold.drew {w w1 : World} {cs : Array Value} {t : TypeId} (h : Hold w w1 cs t) : Hold w w1.drew cs t := ⟨h.1.drew, h.2.drew⟩
theorem Hold.alloc {w w1 : World} {cs : Array Value} {t : TypeId} (h : Hold w w1 cs t) (o : Obj) : Hold w (w1.alloc o) cs t := ⟨h.1.alloc o, h.2.alloc h.2.size o⟩
theorem Hold.step {w w1 w2 : World} {cs : Array Value} {t : TypeId} (h : Hold w w1 cs t) (hb : Below w1.heap.size w1 w2) : Hold w w2 cs t := ⟨h.1.below hb, h.2.trans (hb.mono h.2.size)⟩

def knowOk (g x c s : Int) : Prop := okP g ∧ okP x ∧ smallP c s ∧ chal knowS [g, x, backP g x c s] = c
instance (g x c s : Int) : Decidable (knowOk g x c s) := by unfold knowOk; infer_instance
def equalOk (g x h y c s : Int) : Prop := okP g ∧ okP x ∧ okP h ∧ okP y ∧ smallP c s ∧ chal equalS [g, x, h, y, backP g x c s, backP h y c s] = c
instance (g x h y c s : Int) : Decidable (equalOk g x h y c s) := by unfold equalOk; infer_instance
end Go.Proofs.YtbgnfioggmkdeaaGreatDoor
namespace Go.Proofs.YtbgnfioggmkdeaaGreatDoor
set_option linter.unusedVariables false
set_option linter.unusedSimpArgs false
open Go Go.RowKit
def four (a b c d : Int) : Nat → Int | 0 => a | 1 => b | 2 => c | _ => d
end Go.Proofs.YtbgnfioggmkdeaaGreatDoor
namespace Go.Proofs.YtbgnfioggmkdeaaGreatDoor
set_option linter.unusedVariables false
set_option linter.unusedSimpArgs false
open Go Go.RowKit
theorem stood_proof : Tryz.prog.stoodInHeld 48 = false := by kernel_rfl
theorem guard_proof : Tryz.prog.eqGuardType Tryz.prog.depth 48 = false := by kernel_rfl
theorem fields_proof : Tryz.prog.underlying 48 = some (.struct (Tryz.prog.fieldsOf 48)) := by kernel_rfl
theorem run_eqP (c s c' s' : Int) (w : World) : (binOp .eql 48 (PV c s) (PV c' s')).run Tryz.prog w = .ok (.bool (c == c' && s == s')) w := by
  unfold PV
  rw [run_eql_struct, run_equalIn_agg w 9999 _ _ _ fields_proof stood_proof]
  unfold Program.fieldsOf
  rw [Tryz.underlying48]
  have h1 : (Tryz.prog.info? 22).map (·.size) = some 1 := by kernel_rfl
  obtain ⟨ti, hti, hsz⟩ := Option.map_eq_some_iff.1 h1
  have e (a b : Int) := run_equalIn_int (P := Tryz.prog) w 9998 22 .u64 .u64 a b Tryz.underlying22
  simp [Op.eqFields, part, sizeOf, typeInfo, hti, hsz, e, go_sem]
  by_cases h : c = c' <;> by_cases k : s = s' <;> simp [h, k]
theorem wpList_eqP {ops : Array Oper} {rest : List Oper} {o : Oper} {a : Act} {w : World} {Q : Exit → Act → World → Prop} (hgd : Region.wanted o (yielded ops a.tmps) = true) (x y : Operand)
    (ho : o.op = .binOp .eql 48 x y 48) (c s c' s' : Int) (hx : a.eval x = PV c s) (hy : a.eval y = PV c' s')
    (h : wpList Tryz.prog ops Q rest (a.put o.dst (.bool (c == c' && s == s'))) w) : wpList Tryz.prog ops Q (o :: rest) a w := by
  unfold wpList
  rw [if_pos hgd]
  have hrun := run_eqP c s c' s' w
  have hgu := run_eqGuard_agg w .eql 48 x y #[.int .u64 c, .int .u64 s] #[.int .u64 c', .int .u64 s'] guard_proof
  refine .inl ?_
  unfold Oper.wp
  simp only [execOp, ho, hx, hy]
  simp only [Sem.run_bind, PV, hgu, Result.andThen_ok]
  simp only [PV] at hrun
  rw [hrun]
  exact h
end Go.Proofs.YtbgnfioggmkdeaaGreatDoor
namespace Go.Proofs.YtbgnfioggmkdeaaGreatDoor
set_option linter.unusedVariables false
set_option linter.unusedSimpArgs false
open Go Go.RowKit

instance (x : Int) : Decidable (in64 x) := by unfold in64; infer_instance
theorem timesP_nat (g e : Nat) (h0 : 0 < g) (h1 : g < PP) : timesP (g : Int) (e : Int) = ((g ^ e % PP : Nat) : Int) := by
  have hp : PP = 2305843009213693951 := rfl
  unfold timesP
  rw [if_pos (show okP (g : Int) from ⟨by omega, by omega⟩)]
  simp only [powP, Int.toNat_natCast]
theorem sum_modN (d p : Nat) (s : Nat) (hs : (s : Int) = ((d : Int) - (p : Int) % 2305843009213693950) % 2305843009213693950) : (s + p) % NN = d % NN := by
  have hn : NN = 2305843009213693950 := rfl
  rw [hn]; omega
theorem back_holds {g a d c : Int} (hg : okP g) (ha : in64 a) (hd : in64 d) (hc : 0 ≤ c) : okP (timesP g a) ∧ backP g (timesP g a) c (ansP c a d) = timesP g d := by
  obtain ⟨g, rfl⟩ := Int.eq_ofNat_of_zero_le (Int.le_of_lt hg.1)
  obtain ⟨a, rfl⟩ := Int.eq_ofNat_of_zero_le ha.1
  obtain ⟨d, rfl⟩ := Int.eq_ofNat_of_zero_le hd.1
  obtain ⟨c, rfl⟩ := Int.eq_ofNat_of_zero_le hc
  have hp : PP = 2305843009213693951 := rfl
  have g0 : 0 < g := by have := hg.1; omega
  have g1 : g < PP := by have := hg.2; omega
  obtain ⟨s0, s1⟩ := ansP_pos (c : Int) a d
  obtain ⟨s, hs⟩ := Int.eq_ofNat_of_zero_le s0
  have hx0 := pow_pos_mod g a g0 g1
  have hx1 : g ^ a % PP < PP := Nat.mod_lt _ (by decide)
  rw [hs, timesP_nat g a g0 g1]
  refine ⟨⟨by omega, by omega⟩, ?_⟩
  unfold backP
  rw [timesP_nat g s g0 g1, timesP_nat (g ^ a % PP) c hx0 hx1, timesP_nat g d g0 g1]
  have hsum : (s + c * a) % NN = d % NN := by
    apply sum_modN
    rw [← hs]; unfold ansP subN mulN
    rw [Int.natCast_mul]
  have h1 : (g ^ s % PP) * ((g ^ a % PP) ^ c % PP) % PP = g ^ d % PP := by
    rw [← Nat.pow_mod, ← Nat.mul_mod, ← Nat.pow_mul, ← Nat.pow_add, Nat.mul_comm a c, ← pow_modN g (s + c * a) g0 g1, hsum, pow_modN g d g0 g1]
  have h2 := congrArg (fun n : Nat => (n : Int)) h1
  rw [Int.natCast_emod ((g ^ s % PP) * ((g ^ a % PP) ^ c % PP)) PP, Int.natCast_mul (g ^ s % PP) ((g ^ a % PP) ^ c % PP)] at h2
  exact h2
theorem know_holds {g a d : Int} (hg : okP g) (ha : in64 a) (hd : in64 d) : knowOk g (timesP g a) (knowC g (timesP g a) d) (ansP (knowC g (timesP g a) d) a d) := by
  obtain ⟨c0, c1⟩ := chal_pos knowS [g, timesP g a, timesP g d]
  obtain ⟨h1, h2⟩ := back_holds (c := knowC g (timesP g a) d) hg ha hd c0
  exact ⟨hg, h1, ⟨c1, (ansP_pos _ _ _).2⟩, by rw [h2]; rfl⟩
theorem equal_holds {g h a d : Int} (hg : okP g) (hh : okP h) (ha : in64 a) (hd : in64 d) :
    equalOk g (timesP g a) h (timesP h a) (equalC g (timesP g a) h (timesP h a) d) (ansP (equalC g (timesP g a) h (timesP h a) d) a d) := by
  obtain ⟨c0, c1⟩ := chal_pos equalS [g, timesP g a, h, timesP h a, timesP g d, timesP h d]
  obtain ⟨h1, h2⟩ := back_holds (c := equalC g (timesP g a) h (timesP h a) d) hg ha hd c0
  obtain ⟨h3, h4⟩ := back_holds (c := equalC g (timesP g a) h (timesP h a) d) hh ha hd c0
  exact ⟨hg, h1, hh, h3, ⟨c1, (ansP_pos _ _ _).2⟩, by rw [h2, h4]; rfl⟩

theorem knowC_pos (g x d : Int) : 0 ≤ knowC g x d ∧ knowC g x d < 2305843009213693950 := chal_pos _ _
theorem equalC_pos (g x h y d : Int) : 0 ≤ equalC g x h y d ∧ equalC g x h y d < 2305843009213693950 := chal_pos _ _
/-- Nothing older is touched. -/
def Up (w w' : World) : Prop := Below w.heap.size w w'
theorem Up.refl (w : World) : Up w w := Below.refl _ _
theorem Up.step {w w1 w2 : World} (h : Up w w1) (hb : Below w1.heap.size w1 w2) : Up w w2 := Below.trans h (hb.mono h.size)

end Go.Proofs.YtbgnfioggmkdeaaGreatDoor
