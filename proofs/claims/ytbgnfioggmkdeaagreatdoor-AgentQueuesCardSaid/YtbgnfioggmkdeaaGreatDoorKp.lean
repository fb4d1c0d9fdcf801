/-
  Keys: what holds of what is told: plain laws.
-/
import Derived.Test.YtbgnfioggmkdeaaGreatDoorPeel
namespace Go.Proofs.YtbgnfioggmkdeaaGreatDoor
set_option linter.unusedVariables false
set_option linter.unusedSimpArgs false
open Go Go.RowKit

def okAt (b : Int) (p : Pub) : Prop := p.base = b ∧ knowOk b p.blind p.c1 p.s1 ∧ knowOk b p.mix p.c2 p.s2 ∧ knowOk 37 p.inner p.c3 p.s3
instance (b : Int) (p : Pub) : Decidable (okAt b p) := by unfold okAt; infer_instance
def chkP : List Pub → Int → Bool
  | [], _ => true
  | p :: l, b => decide (okAt b p) && chkP l p.blind
def checkK (l : List Pub) : Bool := decide (1 ≤ l.length ∧ l.length ≤ 20) && chkP l 37
def innerP (l : List Pub) : Int := prodP (l.map Pub.inner) 1
theorem chkP_drop {l : List Pub} {k : Nat} {b : Int} {p : Pub} (h : l[k]? = some p) : chkP (l.drop k) b = (decide (okAt b p) && chkP (l.drop (k + 1)) p.blind) := by
  obtain ⟨hk, rfl⟩ := List.getElem?_eq_some_iff.1 h
  rw [List.drop_eq_getElem_cons hk]; rfl
theorem okAt_tell {b : Int} {s : Sec} {d : List Int} (hb : okP b) (hs : s.ok) (hd : ∀ x ∈ d, in64 x) : okAt b (tellP b s d) := by
  have hg : ∀ i, in64 (d.getD i 0) := by
    intro i
    rw [List.getD_eq_getElem?_getD]
    by_cases h : i < d.length
    · rw [List.getElem?_eq_getElem h]; exact hd _ (List.getElem_mem h)
    · rw [List.getElem?_eq_none (Nat.le_of_not_lt h)]; exact ⟨by decide, by decide⟩
  exact ⟨rfl, know_holds hb hs.1 (hg 0), know_holds hb hs.2.1 (hg 1), know_holds ok37 hs.2.2 (hg 2)⟩
theorem getD_in {dd : List (List Int)} (hd : ∀ l ∈ dd, ∀ x ∈ l, in64 x) (n : Nat) : ∀ x ∈ dd.getD n [], in64 x := by
  intro x hx
  rw [List.getD_eq_getElem?_getD] at hx
  cases h : dd[n]? with
  | none => rw [h] at hx; cases hx
  | some l => rw [h] at hx; exact hd l (List.mem_of_getElem? h) x hx
theorem chk_chain {ss : List Sec} {dd : List (List Int)} (hs : ∀ s ∈ ss, s.ok) (hd : ∀ l ∈ dd, ∀ x ∈ l, in64 x) : ∀ (k n : Nat), n + k = ss.length → chkP ((chainL ss dd).drop n) (chainN ss dd n).2 = true
  | 0, n, h => by
    rw [List.drop_eq_nil_of_le (by rw [length_chainL]; omega)]; rfl
  | k + 1, n, h => by
    have hn : n < ss.length := by omega
    have hse : ss[n]? = some ss[n] := List.getElem?_eq_getElem hn
    have hg := chainL_get ss dd n hn
    rw [sec_getD hse] at hg
    have h1 := okAt_tell (chainN_base_ok ss dd hs n) (hs _ (List.getElem_mem hn)) (getD_in hd n)
    rw [chkP_drop hg, decide_eq_true h1, Bool.true_and]
    have ih := chk_chain hs hd k (n + 1) (by omega)
    rw [chainN, sec_getD hse] at ih
    exact ih
theorem check_chain {ss : List Sec} {dd : List (List Int)} (hs : ∀ s ∈ ss, s.ok) (hd : ∀ l ∈ dd, ∀ x ∈ l, in64 x) : checkK (chainL ss dd) = decide (1 ≤ ss.length ∧ ss.length ≤ 20) := by
  unfold checkK
  have h := chk_chain hs hd ss.length 0 (by omega)
  rw [List.drop_zero] at h
  rw [show (37 : Int) = (chainN ss dd 0).2 from rfl, h, Bool.and_true, length_chainL]

/-! ### The product of what is told -/
def sumS : List Sec → Int → Int
  | [], o => o
  | s :: l, o => sumS l (addN o s.inner)
theorem times_add {a b : Int} (ha : in64 a) (hb : in64 b) : timesP 37 a * timesP 37 b % 2305843009213693951 = timesP 37 (addN a b) := by
  obtain ⟨a, rfl⟩ := Int.eq_ofNat_of_zero_le ha.1
  obtain ⟨b, rfl⟩ := Int.eq_ofNat_of_zero_le hb.1
  have e : addN (a : Int) (b : Int) = (((a + b) % NN : Nat) : Int) := by unfold addN NN; omega
  have hg : (37 : Nat) < PP := by decide
  rw [e, show (37 : Int) = ((37 : Nat) : Int) from rfl, timesP_nat 37 a (by decide) hg, timesP_nat 37 b (by decide) hg, timesP_nat 37 _ (by decide) hg]
  have h1 : (37 ^ a % PP) * (37 ^ b % PP) % PP = 37 ^ ((a + b) % NN) % PP := by rw [pow_modN 37 _ (by decide) hg, Nat.pow_add, ← Nat.mul_mod]
  have h2 := congrArg (fun n : Nat => (n : Int)) h1
  rw [Int.natCast_emod ((37 ^ a % PP) * (37 ^ b % PP)) PP, Int.natCast_mul (37 ^ a % PP) (37 ^ b % PP)] at h2
  exact h2
theorem prod_sum : ∀ (ss : List Sec) (o : Int), (∀ s ∈ ss, s.ok) → in64 o → prodP (ss.map fun s => timesP 37 s.inner) (timesP 37 o) = timesP 37 (sumS ss o)
  | [], o, _, _ => rfl
  | s :: ss, o, hs, ho => by
    have h1 := hs s List.mem_cons_self
    rw [List.map_cons, prodP, if_pos (timesP_ok ok37 h1.2.2), times_add ho h1.2.2, prod_sum ss _ (fun x hx => hs x (List.mem_cons_of_mem _ hx)) ⟨(addN_pos _ _).1, Int.lt_trans (addN_pos _ _).2 (by decide)⟩]
    rfl
theorem map_inner (ss : List Sec) (dd : List (List Int)) : (chainL ss dd).map Pub.inner = ss.map fun s => timesP 37 s.inner := by
  refine List.ext_getElem? fun i => ?_
  rw [List.getElem?_map, List.getElem?_map]
  by_cases h : i < ss.length
  · rw [chainL_get ss dd i h, sec_getD (List.getElem?_eq_getElem h), List.getElem?_eq_getElem h]; rfl
  · rw [List.getElem?_eq_none (by rw [length_chainL]; omega), List.getElem?_eq_none (by omega)]; rfl
theorem times_zero : timesP 37 0 = 1 := by decide
theorem inner_chain {ss : List Sec} {dd : List (List Int)} (hs : ∀ s ∈ ss, s.ok) : innerP (chainL ss dd) = timesP 37 (sumS ss 0) := by
  unfold innerP
  rw [map_inner, ← prod_sum ss 0 hs ⟨by decide, by decide⟩, times_zero]
theorem sumS_drop {l : List Sec} {k : Nat} {o : Int} {s : Sec} (h : l[k]? = some s) : sumS (l.drop k) o = sumS (l.drop (k + 1)) (addN o s.inner) := by
  obtain ⟨hk, rfl⟩ := List.getElem?_eq_some_iff.1 h
  rw [List.drop_eq_getElem_cons hk]; rfl
theorem innerP_in (l : List Pub) : 0 ≤ innerP l ∧ innerP l < 2305843009213693951 := by
  unfold innerP
  have : ∀ (l : List Int) (o : Int), (0 ≤ o ∧ o < 2305843009213693951) → 0 ≤ prodP l o ∧ prodP l o < 2305843009213693951 := by
    intro l
    induction l with
    | nil => intro o ho; exact ho
    | cons x l ih =>
      intro o ho
      rw [prodP]
      by_cases h : okP x
      · rw [if_pos h]; exact ih _ ⟨Int.emod_nonneg _ (by decide), Int.emod_lt_of_pos _ (by decide)⟩
      · rw [if_neg h]; exact ⟨by decide, by decide⟩
  exact this _ _ ⟨by decide, by decide⟩
/-- What is shared, on either side. -/
theorem shared_eq {ss : List Sec} {dd : List (List Int)} {x : Int} {i : Nat} {s : Sec} {p : Pub} (hs : ∀ s ∈ ss, s.ok) (hx : in64 x) (h : ss[i]? = some s) (hp : (chainL ss dd)[i]? = some p) : timesP (xAt ss dd x i) s.mix = timesP p.mix x := by
  rw [chainL_get ss dd i (List.getElem?_eq_some_iff.1 h).1, sec_getD h] at hp
  injection hp with hp
  subst hp
  show timesP (timesP (chainN ss dd i).2 x) s.mix = timesP (timesP (chainN ss dd i).2 s.mix) x
  exact timesP_comm (chainN_base_ok ss dd hs i) hx (hs s (List.mem_of_getElem? h)).2.1
end Go.Proofs.YtbgnfioggmkdeaaGreatDoor
