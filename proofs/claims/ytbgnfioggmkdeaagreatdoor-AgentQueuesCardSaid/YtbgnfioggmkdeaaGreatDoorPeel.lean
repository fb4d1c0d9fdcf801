/-
  Onions peeled place by place: the plain law.
-/
import Derived.Test.YtbgnfioggmkdeaaGreatDoorUtl
import Derived.Test.YtbgnfioggmkdeaaGreatDoorPd
namespace Go.Proofs.YtbgnfioggmkdeaaGreatDoor
set_option linter.unusedVariables false
set_option linter.unusedSimpArgs false
open Go Go.RowKit

theorem timesP_ok {g e : Int} (hg : okP g) (he : in64 e) : okP (timesP g e) := (back_holds (c := 0) hg he ⟨Int.le_refl _, by decide⟩ (Int.le_refl _)).1
theorem timesP_comm {g a b : Int} (hg : okP g) (ha : in64 a) (hb : in64 b) : timesP (timesP g a) b = timesP (timesP g b) a := by
  obtain ⟨g, rfl⟩ := Int.eq_ofNat_of_zero_le (Int.le_of_lt hg.1)
  obtain ⟨a, rfl⟩ := Int.eq_ofNat_of_zero_le ha.1
  obtain ⟨b, rfl⟩ := Int.eq_ofNat_of_zero_le hb.1
  have hp : PP = 2305843009213693951 := rfl
  have g0 : 0 < g := by have := hg.1; omega
  have g1 : g < PP := by have := hg.2; omega
  rw [timesP_nat g a g0 g1, timesP_nat g b g0 g1, timesP_nat _ b (pow_pos_mod g a g0 g1) (Nat.mod_lt _ (by decide)), timesP_nat _ a (pow_pos_mod g b g0 g1) (Nat.mod_lt _ (by decide)),
    ← Nat.pow_mod, ← Nat.pow_mod, ← Nat.pow_mul, ← Nat.pow_mul, Nat.mul_comm a b]
theorem ok37 : okP 37 := ⟨by decide, by decide⟩
theorem chainN_base_ok (ss : List Sec) (dd : List (List Int)) (hs : ∀ s ∈ ss, s.ok) (n : Nat) : okP (chainN ss dd n).2 := by
  induction n with
  | zero => exact ok37
  | succ n ih =>
    refine timesP_ok ih ?_
    rw [List.getD_eq_getElem?_getD]
    cases h : ss[n]? with
    | none => exact ⟨by show (0 : Int) ≤ 0; decide, by show (0 : Int) < _; decide⟩
    | some s => exact (hs s (List.mem_of_getElem? h)).1
theorem chainN_get (ss : List Sec) (dd : List (List Int)) : ∀ (n i : Nat), i < n → (chainN ss dd n).1[i]? = some (tellP (chainN ss dd i).2 (ss.getD i ⟨0, 0, 0⟩) (dd.getD i []))
  | n + 1, i, h => by
    rw [chainN]
    have hl := length_chainN ss dd n
    by_cases hi : i < n
    · rw [List.getElem?_append_left (by omega)]; exact chainN_get ss dd n i hi
    · obtain rfl : i = n := by omega
      rw [List.getElem?_append_right (by omega), hl, Nat.sub_self]; rfl
theorem chainL_get (ss : List Sec) (dd : List (List Int)) (i : Nat) (h : i < ss.length) : (chainL ss dd)[i]? = some (tellP (chainN ss dd i).2 (ss.getD i ⟨0, 0, 0⟩) (dd.getD i [])) := chainN_get ss dd _ i h
theorem length_chainL (ss : List Sec) (dd : List (List Int)) : (chainL ss dd).length = ss.length := length_chainN _ _ _
/-- X ahead of place i. -/
def xAt (ss : List Sec) (dd : List (List Int)) (x : Int) (i : Nat) : Int := timesP (chainN ss dd i).2 x
theorem xAt_zero (ss : List Sec) (dd : List (List Int)) (x : Int) : xAt ss dd x 0 = timesP 37 x := rfl
/-- What is wrapped for the places from i on. -/
def boxAt (ps : List Pub) (x : Int) (inside : List UInt8) (i : Nat) : List UInt8 := spoilL ps x inside (-1) (ps.length - i)
theorem boxAt_zero (ps : List Pub) (x : Int) (inside : List UInt8) : boxAt ps x inside 0 = boxL ps x inside (-1) := rfl
theorem boxAt_end (ps : List Pub) (x : Int) (inside : List UInt8) : boxAt ps x inside ps.length = inside := by unfold boxAt; rw [Nat.sub_self]; rfl
theorem length_boxAt (ps : List Pub) (x : Int) (inside : List UInt8) (i : Nat) : (boxAt ps x inside i).length = inside.length + 16 * (ps.length - i) := length_spoilL _ _ _ _ _
theorem boxAt_step (ps : List Pub) (x : Int) (inside : List UInt8) (i : Nat) (p : Pub) (h : ps[i]? = some p) :
    boxAt ps x inside i = sealL (hopK (timesP p.mix x)) (put64 i) (boxAt ps x inside (i + 1)) := by
  have hi := (List.getElem?_eq_some_iff.1 h).1
  unfold boxAt
  obtain ⟨n, hn⟩ : ∃ n, ps.length - i = n + 1 := ⟨ps.length - i - 1, by omega⟩
  rw [hn, show ps.length - (i + 1) = n from by omega, spoilL, show ps.length - 1 - n = i from by omega, h]
  have hd : decide ((i : Int) = -1) = false := decide_eq_false (by omega)
  rw [hd]; rfl
theorem sec_getD {ss : List Sec} {i : Nat} {s : Sec} (h : ss[i]? = some s) : ss.getD i ⟨0, 0, 0⟩ = s := by rw [List.getD_eq_getElem?_getD, h]; rfl
theorem xAt_succ (ss : List Sec) (dd : List (List Int)) (x : Int) (i : Nat) (s : Sec) (h : ss[i]? = some s) (hs : ∀ s ∈ ss, s.ok) (hx : in64 x) :
    xAt ss dd x (i + 1) = timesP (xAt ss dd x i) s.blind := by
  unfold xAt
  rw [chainN, sec_getD h]
  exact timesP_comm (chainN_base_ok ss dd hs i) (hs s (List.mem_of_getElem? h)).1 hx
theorem xAt_ok (ss : List Sec) (dd : List (List Int)) (x : Int) (i : Nat) (hs : ∀ s ∈ ss, s.ok) (hx : in64 x) : okP (xAt ss dd x i) := timesP_ok (chainN_base_ok ss dd hs i) hx
/-- Place i opens what was wrapped for the places from i on. -/
theorem peel_step (ss : List Sec) (dd : List (List Int)) (x : Int) (inside : List UInt8) (i : Nat) (s : Sec) (h : ss[i]? = some s) (hs : ∀ s ∈ ss, s.ok) (hx : in64 x) (h20 : ss.length ≤ 1000) :
    openE s.blind s.mix i (xAt ss dd x i) (boxAt (chainL ss dd) x inside i) = some (xAt ss dd x (i + 1), boxAt (chainL ss dd) x inside (i + 1)) := by
  have hi := (List.getElem?_eq_some_iff.1 h).1
  have hso := hs s (List.mem_of_getElem? h)
  unfold openE
  rw [if_pos (xAt_ok ss dd x i hs hx), besL_nat i (by omega), boxAt_step _ x inside i _ (chainL_get ss dd i hi), sec_getD h]
  have hm : (tellP (chainN ss dd i).2 s (dd.getD i [])).mix = timesP (chainN ss dd i).2 s.mix := rfl
  have hc : timesP (timesP (chainN ss dd i).2 s.mix) x = timesP (xAt ss dd x i) s.mix := timesP_comm (chainN_base_ok ss dd hs i) hso.2.1 hx
  rw [hm, hc, openL_sealL, xAt_succ ss dd x i s h hs hx]
  rfl
theorem blind_at (ss : List Sec) (dd : List (List Int)) (x : Int) (i : Nat) (p : Pub) (h : (chainL ss dd)[i]? = some p) : timesP p.blind x = xAt ss dd x (i + 1) := by
  have hi := (List.getElem?_eq_some_iff.1 h).1
  rw [length_chainL] at hi
  rw [chainL_get ss dd i hi] at h
  cases h; rfl
end Go.Proofs.YtbgnfioggmkdeaaGreatDoor
