/-
  Who is named: plain laws of the blame statements.
-/
import Derived.Test.YtmbgcjfmfkddpaaGreatHon
import Derived.Test.YtmbgcjfmfkddpaaGreatInv
namespace Go.Proofs.YtmbgcjfmfkddpaaGreat
set_option linter.unusedVariables false
set_option linter.unusedSimpArgs false
open Go Go.RowKit

theorem nodup_len : ∀ (l S : List Int), l.Nodup → (∀ x ∈ l, x ∈ S) → l.length ≤ S.length
  | [], _, _, _ => Nat.zero_le _
  | x :: l, S, hn, hs => by
    obtain ⟨h1, h2⟩ := List.nodup_cons.1 hn
    have hm := hs x List.mem_cons_self
    have h3 := nodup_len l (S.erase x) h2 (fun y hy => (List.mem_erase_of_ne (fun e => h1 (by rw [← e]; exact hy))).2 (hs y (List.mem_cons_of_mem _ hy)))
    rw [List.length_erase_of_mem hm] at h3
    have h4 := List.length_pos_of_mem hm
    rw [List.length_cons]; omega
/-- Each number below its length stands in an order. -/
theorem perm_has {p : List Int} (hp : permOk p) {k : Nat} (hk : k < p.length) : ∃ i : Nat, p[i]? = some (k : Int) := by
  by_cases h : (k : Int) ∈ p
  · obtain ⟨i, hi⟩ := List.mem_iff_getElem?.1 h
    exact ⟨i, hi⟩
  · exfalso
    have h1 := nodup_len ((k : Int) :: p) ((List.range p.length).map Int.ofNat) (List.nodup_cons.2 ⟨h, hp.2⟩) (fun x hx => by
      rcases List.mem_cons.1 hx with rfl | hx
      · exact List.mem_map.2 ⟨k, List.mem_range.2 hk, rfl⟩
      · obtain ⟨g1, g2⟩ := hp.1 x hx
        exact List.mem_map.2 ⟨x.toNat, List.mem_range.2 (by omega), by show ((x.toNat : Nat) : Int) = x; omega⟩)
    rw [List.length_cons, List.length_map, List.length_range] at h1
    omega
/-- The inverse of an order, at a number below its length. -/
theorem inv_at {p : List Int} (hp : permOk p) {k : Nat} (hk : k < p.length) : ∃ i : Nat, (invL p)[k]? = some (i : Int) ∧ p[i]? = some (k : Int) ∧ i < p.length := by
  obtain ⟨i, hi⟩ := perm_has hp hk
  exact ⟨i, invL_get hp hi, hi, (List.getElem?_eq_some_iff.1 hi).1⟩

/-! ### Lists that grow by one -/
def lvs {α : Type} (f : Nat → α) (n : Nat) : List α := (List.range (n + 1)).map f
theorem lvs_zero {α : Type} (f : Nat → α) : lvs f 0 = [f 0] := rfl
theorem lvs_succ {α : Type} (f : Nat → α) (n : Nat) : lvs f (n + 1) = lvs f n ++ [f (n + 1)] := by
  unfold lvs; rw [List.range_succ, List.map_append]; rfl
theorem length_lvs {α : Type} (f : Nat → α) (n : Nat) : (lvs f n).length = n + 1 := by unfold lvs; rw [List.length_map, List.length_range]
theorem lvs_get {α : Type} (f : Nat → α) {n i : Nat} (h : i ≤ n) : (lvs f n)[i]? = some (f i) := by
  unfold lvs; rw [List.getElem?_map, List.getElem?_range (by omega)]; rfl
theorem lvs_congr {α : Type} {f g : Nat → α} {n : Nat} (h : ∀ i, i ≤ n → f i = g i) : lvs f n = lvs g n := by
  unfold lvs
  exact List.map_congr_left fun i hi => h i (by have := List.mem_range.1 hi; omega)

/-! ### Who is named -/
theorem traceL_end {ps : List Pub} {lists : List (List Ent)} {steps : List Stp} {h n : Nat} {last : List Ent} {p : Pub} {e : Ent} {t : Stp} (hl : lists.length = h + 1) (hlast : lists[h]? = some last) (hp : ps[h]? = some p) (hat : last[n]? = some e) (ht : steps[0]? = some t) :
    traceL ps lists n steps = if failedL p h e t then traceN ps lists steps h h e n else (2, (h : Int)) := by
  unfold traceL
  rw [List.getLast?_eq_getElem?, hl, show h + 1 - 1 = h from rfl, hlast, hp]
  simp only
  have hn := (List.getElem?_eq_some_iff.1 hat).1
  rw [if_pos ⟨Int.natCast_nonneg n, by omega⟩, Int.toNat_natCast, hat, ht]
/-- A hop that claims of an onion which it opens that it can't be opened. -/
theorem blamed_hop {ps : List Pub} {lists : List (List Ent)} {steps : List Stp} {h n : Nat} {last : List Ent} {p : Pub} {s : Sec} {e out : Ent} {a b frm : Int} (hl : lists.length = h + 1) (hlast : lists[h]? = some last) (hp : ps[h]? = some p) (hat : last[n]? = some e)
    (ht : steps[0]? = some (answerL s p frm e a b)) (ho : opE s h e = some out) : traceL ps lists n steps = (2, (h : Int)) := by
  rw [traceL_end hl hlast hp hat ht, if_neg (not_failed ho)]
/-- A hop that turned a box on its way. -/
theorem blamed_spoiler {ps : List Pub} {lists : List (List Ent)} {steps : List Stp} {h n : Nat} {ins last : List Ent} {p p' : Pub} {s s' : Sec} {e e' out : Ent} {a b frm frm' : Int} (hl : lists.length = h + 1 + 1) (hins : lists[h]? = some ins) (hlast : lists[h + 1]? = some last) (hp : ps[h]? = some p) (hp' : ps[h + 1]? = some p')
    (hat : last[n]? = some e') (ht : steps[0]? = some (answerL s' p' frm' e' a b)) (ht1 : steps[1]? = some (answerL s p frm e a b)) (ho : opE s h e = some out) (hne : out.box ≠ e'.box)
    (hpub : PubOf s' p') (hs : s'.ok) (hx : okP e'.x) (ho' : opE s' ((h + 1 : Nat) : Int) e' = none) (hb : in64 b) : traceL ps lists n steps = (2, (h : Int)) := by
  rw [traceL_end hl hlast hp' hat ht, if_pos (honest_failed hpub hs hx ho' hb), traceN, hp, hins, show h + 1 - h = 1 from by omega, ht1]
  simp only
  rw [if_neg]
  intro hpass
  obtain ⟨_, _, h1⟩ := opE_x ho
  have h2 : openL (hopK (timesP e.x s.mix)) (besL h) e.box = some e'.box := hpass.2.2.2.1
  rw [h1] at h2
  exact hne (by injection h2)
/-- A user whose onion can't be opened, where all answer as it was. -/
theorem blamed_user {ps : List Pub} {lists : List (List Ent)} {steps : List Stp} {h : Nat} {last : List Ent} {p : Pub} (S : Nat → Sec) (E : Nat → Ent) (J : Nat → Nat) (a b : Int) (ha : in64 a) (hb : in64 b)
    (hl : lists.length = h + 1) (hlast : lists[h]? = some last) (hp : ps[h]? = some p) (hat : last[J h]? = some (E h)) (ht : steps[0]? = some (answerL (S h) p (J h) (E h) a b)) (hpub : PubOf (S h) p) (hs : (S h).ok) (hx : okP (E h).x) (ho : opE (S h) h (E h) = none)
    (H : ∀ i, i < h → ∃ p ins, ps[i]? = some p ∧ lists[i]? = some ins ∧ steps[h - i]? = some (answerL (S i) p (J i) (E i) a b) ∧ PubOf (S i) p ∧ (S i).ok ∧ ins[J i]? = some (E i) ∧ opE (S i) i (E i) = some (E (i + 1))) :
    traceL ps lists (J h) steps = (1, (J 0 : Int)) := by
  rw [traceL_end hl hlast hp hat ht, if_pos (honest_failed hpub hs hx ho hb)]
  exact traceN_honest S E J a b ha hb H h (Nat.le_refl _)

/-! ### Where an onion stands on its way -/
/-- Where the onion of a user stands ahead of place i, if n of them are ordered so. -/
def posN (n : Nat) (O : Nat → List Int) (user : Nat) : Nat → Nat
  | 0 => user
  | i + 1 => if (O i).length = n ∧ permOk (O i) then ((invL (O i)).getD (posN n O user i) 0).toNat else posN n O user i
theorem posN_lt {n : Nat} {O : Nat → List Int} {user : Nat} (hu : user < n) : ∀ i, posN n O user i < n
  | 0 => hu
  | i + 1 => by
    have ih := posN_lt (O := O) hu i
    unfold posN
    split
    · rename_i h
      obtain ⟨j, h1, h2, h3⟩ := inv_at h.2 (show posN n O user i < (O i).length by rw [h.1]; exact ih)
      rw [List.getD_eq_getElem?_getD, h1]
      show (j : Int).toNat < n
      rw [Int.toNat_natCast, ← h.1]; exact h3
    · exact ih
/-- Where a place has ordered them: the inverse gives the next place, the order gives it back. -/
theorem posN_perm {n : Nat} {O : Nat → List Int} {user : Nat} (hu : user < n) {i : Nat} (h : (O i).length = n ∧ permOk (O i)) :
    (invL (O i))[posN n O user i]? = some (posN n O user (i + 1) : Int) ∧ (O i)[posN n O user (i + 1)]? = some (posN n O user i : Int) := by
  obtain ⟨j, h1, h2, _⟩ := inv_at h.2 (show posN n O user i < (O i).length by rw [h.1]; exact posN_lt hu i)
  have e : posN n O user (i + 1) = j := by
    rw [posN, if_pos h, List.getD_eq_getElem?_getD, h1]
    exact Int.toNat_natCast j
  rw [e]
  exact ⟨h1, h2⟩
theorem posN_no {n : Nat} {O : Nat → List Int} {user i : Nat} (h : ¬ ((O i).length = n ∧ permOk (O i))) : posN n O user (i + 1) = posN n O user i := by
  rw [posN, if_neg h]
/-- The onion of a user, ahead of each place: where it stands, and what it is. -/
theorem lev_at {ss : List Sec} {dd : List (List Int)} {h : Nat} {draw x bad : Int} {inside : List UInt8} {O : Nat → List Int} {l0 : List Ent} {user : Nat} (hso : ∀ s ∈ ss, s.ok) (h20 : ss.length ≤ 1000) (hh : h ≤ ss.length) (h0 : ∀ e ∈ l0, Good ss dd h 0 e)
    (hu : l0[user]? = some (entAt ss dd x inside bad 0)) (hx : in64 x) (hbad : ∀ j : Nat, j < h → (j : Int) ≠ bad) : ∀ i, i ≤ h → (levN ss (chainL ss dd) draw O l0 i)[posN l0.length O user i]? = some (entAt ss dd x inside bad i)
  | 0, _ => hu
  | i + 1, hi => by
    have hul := (List.getElem?_eq_some_iff.1 hu).1
    have ih := lev_at hso h20 hh h0 hu hx hbad (draw := draw) (O := O) i (by omega)
    obtain ⟨g1, g2⟩ := lev_good hso h20 hh h0 (draw := draw) (O := O) i (by omega)
    have hs : ss[i]? = some (ss[i]'(by omega)) := List.getElem?_eq_getElem (by omega)
    have hp := chainL_get ss dd i (by omega)
    rw [levN_succ hs hp]
    obtain ⟨_, g3, _⟩ := good_run g2 (by omega) hs hso h20 (tellP (chainN ss dd i).2 (ss.getD i ⟨0, 0, 0⟩) (dd.getD i [])) (O i) draw
    rw [g3]
    have hop := peel_any ss dd x inside bad i _ hs hso hx h20 (hbad i (by omega))
    have hog := opened_get ih hop
    have hlo : (opened (ss[i]'(by omega)) i (levN ss (chainL ss dd) draw O l0 i)).length = l0.length := by unfold opened; rw [List.length_map, g1]
    by_cases hc : (O i).length = l0.length ∧ permOk (O i)
    · obtain ⟨_, q2⟩ := posN_perm hul hc
      exact orderL_get (by rw [hlo]; exact hc) q2 hog
    · rw [posN_no hc]
      exact orderL_get_no (by rw [hlo]; exact hc) hog
end Go.Proofs.YtmbgcjfmfkddpaaGreat
