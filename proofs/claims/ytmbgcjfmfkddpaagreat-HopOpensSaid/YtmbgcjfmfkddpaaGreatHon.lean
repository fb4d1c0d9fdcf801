/-
  Hops that answer as it was: the plain law.
-/
import Derived.Test.YtmbgcjfmfkddpaaGreatHopL
namespace Go.Proofs.YtmbgcjfmfkddpaaGreat
set_option linter.unusedVariables false
set_option linter.unusedSimpArgs false
open Go Go.RowKit

/-- What a place tells is of its secrets. -/
def PubOf (s : Sec) (p : Pub) : Prop := okP p.base ∧ p.blind = timesP p.base s.blind ∧ p.mix = timesP p.base s.mix
theorem pubOf_chain {ss : List Sec} {dd : List (List Int)} (hs : ∀ s ∈ ss, s.ok) {i : Nat} {s : Sec} {p : Pub} (h : ss[i]? = some s) (hp : (chainL ss dd)[i]? = some p) : PubOf s p := by
  have hi := (List.getElem?_eq_some_iff.1 h).1
  rw [chainL_get ss dd i hi, sec_getD h] at hp
  cases hp
  exact ⟨chainN_base_ok ss dd hs i, rfl, rfl⟩
theorem opE_x {s : Sec} {at_ : Int} {e e' : Ent} (h : opE s at_ e = some e') : okP e.x ∧ e'.x = timesP e.x s.blind ∧ openL (hopK (timesP e.x s.mix)) (besL at_) e.box = some e'.box := by
  unfold opE openE at h
  split at h
  · rename_i hx
    cases ho : openL (hopK (timesP e.x s.mix)) (besL at_) e.box with
    | none => rw [ho] at h; cases h
    | some b => rw [ho] at h; cases h; exact ⟨hx, rfl, rfl⟩
  · cases h
theorem opE_none {s : Sec} {at_ : Int} {e : Ent} (hx : okP e.x) (h : opE s at_ e = none) : openL (hopK (timesP e.x s.mix)) (besL at_) e.box = none := by
  unfold opE openE at h
  rw [if_pos hx] at h
  cases ho : openL (hopK (timesP e.x s.mix)) (besL at_) e.box with
  | none => rfl
  | some b => rw [ho] at h; cases h
theorem mixed_honest {s : Sec} {p : Pub} (hp : PubOf s p) (hs : s.ok) {frm : Int} {e : Ent} (hx : okP e.x) {a b : Int} (hb : in64 b) : mixedOk p (answerL s p frm e a b) := by
  unfold mixedOk answerL equalP
  rw [hp.2.2]
  exact equal_holds hp.1 hx hs.2.1 hb
theorem honest_passed {s : Sec} {p : Pub} (hp : PubOf s p) (hs : s.ok) {at_ : Int} {ins : List Ent} {j : Nat} {e out : Ent} (hj : ins[j]? = some e) (ho : opE s at_ e = some out) {a b : Int} (ha : in64 a) (hb : in64 b) :
    passedL p at_ ins out (answerL s p j e a b) := by
  obtain ⟨hx, h1, h2⟩ := opE_x ho
  refine ⟨Int.natCast_nonneg j, by rw [show (answerL s p j e a b).frm.toNat = j from Int.toNat_natCast j]; exact hj, mixed_honest hp hs hx hb, h2, ?_⟩
  show equalOk p.base p.blind e.x out.x (equalP p.base p.blind e.x (timesP e.x s.blind) s.blind a).c (equalP p.base p.blind e.x (timesP e.x s.blind) s.blind a).s
  unfold equalP
  rw [h1, hp.2.1]
  exact equal_holds hp.1 hx hs.1 ha
theorem honest_failed {s : Sec} {p : Pub} (hp : PubOf s p) (hs : s.ok) {at_ frm : Int} {e : Ent} (hx : okP e.x) (ho : opE s at_ e = none) {a b : Int} (hb : in64 b) : failedL p at_ e (answerL s p frm e a b) :=
  ⟨rfl, mixed_honest hp hs hx hb, opE_none hx ho⟩
theorem not_failed {s : Sec} {p : Pub} {at_ frm : Int} {e out : Ent} (ho : opE s at_ e = some out) {a b : Int} : ¬ failedL p at_ e (answerL s p frm e a b) := fun h => by
  obtain ⟨hx, h1, h2⟩ := opE_x ho
  have := h.2.2
  rw [show (answerL s p frm e a b).shared = timesP e.x s.mix from rfl, h2] at this
  cases this
/-- Who is named where all answer as it was. -/
theorem traceN_honest {ps : List Pub} {lists : List (List Ent)} {steps : List Stp} {h : Nat} (S : Nat → Sec) (E : Nat → Ent) (J : Nat → Nat) (a b : Int) (ha : in64 a) (hb : in64 b)
    (H : ∀ i, i < h → ∃ p ins, ps[i]? = some p ∧ lists[i]? = some ins ∧ steps[h - i]? = some (answerL (S i) p (J i) (E i) a b) ∧ PubOf (S i) p ∧ (S i).ok ∧ ins[J i]? = some (E i) ∧ opE (S i) i (E i) = some (E (i + 1))) :
    ∀ i, i ≤ h → traceN ps lists steps h i (E i) (J i) = (1, (J 0 : Int))
  | 0, _ => rfl
  | i + 1, hi => by
    obtain ⟨p, ins, h1, h2, h3, h4, h5, h6, h7⟩ := H i (by omega)
    rw [traceN, h1, h2, h3]
    simp only
    rw [if_pos (honest_passed h4 h5 h6 h7 ha hb)]
    exact traceN_honest S E J a b ha hb H i (by omega)
/-- An onion on its way: ahead of place i. -/
def entAt (ss : List Sec) (dd : List (List Int)) (x : Int) (inside : List UInt8) (bad : Int) (i : Nat) : Ent := ⟨xAt ss dd x i, spoilL (chainL ss dd) x inside bad ((chainL ss dd).length - i)⟩
theorem entAt_zero (ss : List Sec) (dd : List (List Int)) (x : Int) (inside : List UInt8) (bad : Int) : entAt ss dd x inside bad 0 = ⟨timesP 37 x, boxL (chainL ss dd) x inside bad⟩ := rfl
theorem peel_any (ss : List Sec) (dd : List (List Int)) (x : Int) (inside : List UInt8) (bad : Int) (i : Nat) (s : Sec) (h : ss[i]? = some s) (hs : ∀ s ∈ ss, s.ok) (hx : in64 x) (h20 : ss.length ≤ 1000) (hb : (i : Int) ≠ bad) :
    opE s i (entAt ss dd x inside bad i) = some (entAt ss dd x inside bad (i + 1)) := by
  have hi := (List.getElem?_eq_some_iff.1 h).1
  have hso := hs s (List.mem_of_getElem? h)
  have hg := chainL_get ss dd i hi
  rw [sec_getD h] at hg
  have hil := (List.getElem?_eq_some_iff.1 hg).1
  have hstep : spoilL (chainL ss dd) x inside bad ((chainL ss dd).length - i) = sealL (hopK (timesP (tellP (chainN ss dd i).2 s (dd.getD i [])).mix x)) (put64 i) (spoilL (chainL ss dd) x inside bad ((chainL ss dd).length - (i + 1))) := by
    obtain ⟨n, hn⟩ : ∃ n, (chainL ss dd).length - i = n + 1 := ⟨(chainL ss dd).length - i - 1, by omega⟩
    rw [hn, show (chainL ss dd).length - (i + 1) = n from by omega, spoilL, show (chainL ss dd).length - 1 - n = i from by omega, hg, decide_eq_false hb]
    rfl
  unfold opE openE
  rw [if_pos (show okP (entAt ss dd x inside bad i).x from xAt_ok ss dd x i hs hx), besL_nat i (by omega)]
  show ((openL (hopK (timesP (xAt ss dd x i) s.mix)) (put64 i) (spoilL (chainL ss dd) x inside bad ((chainL ss dd).length - i))).map fun b => (timesP (xAt ss dd x i) s.blind, b)).map (fun p => (⟨p.1, p.2⟩ : Ent)) = _
  have hm : (tellP (chainN ss dd i).2 s (dd.getD i [])).mix = timesP (chainN ss dd i).2 s.mix := rfl
  have hc : timesP (timesP (chainN ss dd i).2 s.mix) x = timesP (xAt ss dd x i) s.mix := timesP_comm (chainN_base_ok ss dd hs i) hso.2.1 hx
  rw [hstep, hm, hc, openL_sealL, ← xAt_succ ss dd x i s h hs hx]
  rfl
/-- An onion that opens at the places below H. -/
def Good (ss : List Sec) (dd : List (List Int)) (H i : Nat) (e : Ent) : Prop := ∃ x inside bad, in64 x ∧ inside.length ≤ 100000 ∧ (∀ j : Nat, j < H → (j : Int) ≠ bad) ∧ e = entAt ss dd x inside bad i
theorem Good.open {ss : List Sec} {dd : List (List Int)} {H i : Nat} {e : Ent} {s : Sec} (h : Good ss dd H i e) (hi : i < H) (hs : ss[i]? = some s) (hso : ∀ s ∈ ss, s.ok) (h20 : ss.length ≤ 1000) : ∃ e', opE s i e = some e' ∧ Good ss dd H (i + 1) e' := by
  obtain ⟨x, inside, bad, hx, hl, hb, rfl⟩ := h
  exact ⟨_, peel_any ss dd x inside bad i s hs hso hx h20 (hb i hi), x, inside, bad, hx, hl, hb, rfl⟩
theorem Good.ok {ss : List Sec} {dd : List (List Int)} {H i : Nat} {e : Ent} (h : Good ss dd H i e) (hso : ∀ s ∈ ss, s.ok) : okP e.x := by
  obtain ⟨x, inside, bad, hx, hl, hb, rfl⟩ := h
  exact xAt_ok ss dd x i hso hx
theorem Good.len {ss : List Sec} {dd : List (List Int)} {H i : Nat} {e : Ent} (h : Good ss dd H i e) (h20 : ss.length ≤ 1000) : e.box.length ≤ 200000 := by
  obtain ⟨x, inside, bad, hx, hl, hb, rfl⟩ := h
  show (spoilL _ _ _ _ _).length ≤ _
  rw [length_spoilL, length_chainL]; omega
theorem fails_none {s : Sec} {at_ : Int} {es : List Ent} (h : ∀ e ∈ es, (opE s at_ e).isSome) : ∀ n, failsN s at_ es n = []
  | 0 => rfl
  | n + 1 => by
    rw [failsN, fails_none h n]
    cases he : es[n]? with
    | none => rfl
    | some e =>
      have := h e (List.mem_of_getElem? he)
      cases ho : opE s at_ e with
      | none => rw [ho] at this; cases this
      | some e' => simp [ho]
/-- A level of onions that all open: what the hop sends on. -/
theorem good_run {ss : List Sec} {dd : List (List Int)} {H i : Nat} {es : List Ent} {s : Sec} (h : ∀ e ∈ es, Good ss dd H i e) (hi : i < H) (hs : ss[i]? = some s) (hso : ∀ s ∈ ss, s.ok) (h20 : ss.length ≤ 1000) (p : Pub) (order : List Int) (draw : Int) :
    failsL s i es = [] ∧ (runL s p i es order draw).es = orderL (opened s i es) order ∧ (∀ e ∈ opened s i es, Good ss dd H (i + 1) e) := by
  have hf : failsL s i es = [] := fails_none (fun e he => by obtain ⟨e', h1, _⟩ := (h e he).open hi hs hso h20; rw [h1]; rfl) _
  refine ⟨hf, by unfold runL; rw [if_pos hf], fun e he => ?_⟩
  obtain ⟨e0, h0, rfl⟩ := List.mem_map.1 he
  obtain ⟨e', h1, h2⟩ := (h e0 h0).open hi hs hso h20
  rw [h1]; exact h2
theorem opened_get {s : Sec} {at_ : Int} {es : List Ent} {j : Nat} {e e' : Ent} (h : es[j]? = some e) (ho : opE s at_ e = some e') : (opened s at_ es)[j]? = some e' := by
  unfold opened; rw [List.getElem?_map, h]; simp [ho]
theorem orderL_mem {L : List Ent} {order : List Int} : ∀ e ∈ orderL L order, e ∈ L := by
  unfold orderL
  split
  · rename_i ho
    intro e he
    obtain ⟨i, hi, rfl⟩ := List.mem_map.1 he
    have h1 := ho.2.1 i hi
    rw [List.getD_eq_getElem?_getD, List.getElem?_eq_getElem (by rw [← ho.1]; omega)]
    exact List.getElem_mem _
  · exact fun e h => h
theorem length_orderL' (L : List Ent) (order : List Int) : (orderL L order).length = L.length := by
  unfold orderL
  split
  · rename_i h; rw [List.length_map]; exact h.1
  · rfl
/-- What each place has, one behind the other. -/
def levN (ss : List Sec) (ps : List Pub) (draw : Int) (O : Nat → List Int) (l0 : List Ent) : Nat → List Ent
  | 0 => l0
  | i + 1 => match ss[i]?, ps[i]? with
    | some s, some p => (runL s p i (levN ss ps draw O l0 i) (O i) draw).es
    | _, _ => []
theorem levN_succ {ss : List Sec} {ps : List Pub} {draw : Int} {O : Nat → List Int} {l0 : List Ent} {i : Nat} {s : Sec} {p : Pub} (h1 : ss[i]? = some s) (h2 : ps[i]? = some p) :
    levN ss ps draw O l0 (i + 1) = (runL s p i (levN ss ps draw O l0 i) (O i) draw).es := by rw [levN, h1, h2]
theorem lev_good {ss : List Sec} {dd : List (List Int)} {H : Nat} {draw : Int} {O : Nat → List Int} {l0 : List Ent} (hso : ∀ s ∈ ss, s.ok) (h20 : ss.length ≤ 1000) (hH : H ≤ ss.length) (h0 : ∀ e ∈ l0, Good ss dd H 0 e) :
    ∀ i, i ≤ H → (levN ss (chainL ss dd) draw O l0 i).length = l0.length ∧ ∀ e ∈ levN ss (chainL ss dd) draw O l0 i, Good ss dd H i e
  | 0, _ => ⟨rfl, h0⟩
  | i + 1, hi => by
    obtain ⟨h1, h2⟩ := lev_good hso h20 hH h0 (draw := draw) (O := O) i (by omega)
    have hs : ss[i]? = some (ss[i]'(by omega)) := List.getElem?_eq_getElem (by omega)
    have hp := chainL_get ss dd i (by omega)
    rw [levN_succ hs hp]
    obtain ⟨g1, g2, g3⟩ := good_run h2 (by omega) hs hso h20 (tellP (chainN ss dd i).2 (ss.getD i ⟨0, 0, 0⟩) (dd.getD i [])) (O i) draw
    rw [g2]
    exact ⟨by rw [length_orderL']; unfold opened; rw [List.length_map]; exact h1, fun e he => g3 e (orderL_mem e he)⟩
end Go.Proofs.YtmbgcjfmfkddpaaGreat
