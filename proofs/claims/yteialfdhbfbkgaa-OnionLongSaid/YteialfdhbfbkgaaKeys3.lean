/-
  A chain of places: the reference.
-/
import Derived.Test.YteialfdhbfbkgaaKeys2
namespace Go.Proofs.Yteialfdhbfbkgaa
set_option linter.unusedVariables false
set_option linter.unusedSimpArgs false
open Go Go.RowKit

theorem Sec.length_cells (s : Sec) : s.cells.length = 3 := rfl
abbrev SeesS (w : World) (v : Value) (ss : List Sec) : Prop := Sees w 3 v ss.length (ss.flatMap Sec.cells)
theorem seesS_open {w : World} {v : Value} {ss : List Sec} (h : SeesS w v ss) (hn : 0 < ss.length) : ∃ b o c, v = .slice (some ⟨b, o, none⟩) ss.length c ∧ ss.length ≤ c ∧ c ≤ 9223372036854775807 ∧
    ∀ (i : Nat) (s : Sec), ss[i]? = some s → w.rangeAt b (o + i * 3) [.int .u64 s.blind, .int .u64 s.mix, .int .u64 s.inner] := by
  obtain ⟨hl, a, c, rfl, hc, hm, hnc, hb⟩ := h
  obtain ⟨b, o, rfl, hcell⟩ := hb hn
  refine ⟨b, o, c, rfl, hc, by unfold maxLen at hm; omega, fun i s hs j u hu => ?_⟩
  have hj : j < 3 := by have := (List.getElem?_eq_some_iff.1 hu).1; simpa using this
  rw [Nat.add_assoc]
  exact hcell _ u (by rw [flatMap_at Sec.length_cells ss i j s hs hj]; exact hu)
def SeesUU (w : World) (v : Value) (dd : List (List Int)) : Prop :=
  ∃ vs : List Value, Sees w 1 v dd.length vs ∧ ∀ (i : Nat) (l : List Int) (u : Value), dd[i]? = some l → vs[i]? = some u → SeesU w u l
theorem SeesUU.below {w w' : World} {v : Value} {dd : List (List Int)} (h : SeesUU w v dd) (hb : Below w.heap.size w w') : SeesUU w' v dd := by
  obtain ⟨vs, h1, h2⟩ := h
  exact ⟨vs, h1.below hb (by decide), fun i l u hl hu => (h2 i l u hl hu).below hb (by decide)⟩
theorem seesUU_open {w : World} {v : Value} {dd : List (List Int)} (h : SeesUU w v dd) : ∃ a c, v = .slice a dd.length c ∧ dd.length ≤ c ∧ c ≤ 9223372036854775807 ∧
    ∀ (i : Nat) (l : List Int), dd[i]? = some l → ∃ b o u, a = some ⟨b, o, none⟩ ∧ w.cell? ⟨b, o + i, none⟩ = some u ∧ SeesU w u l := by
  obtain ⟨vs, ⟨hl, a, c, rfl, hc, hm, hnc, hb⟩, h2⟩ := h
  refine ⟨a, c, rfl, hc, by unfold maxLen at hm; omega, fun i l hi => ?_⟩
  have hlt := (List.getElem?_eq_some_iff.1 hi).1
  obtain ⟨b, o, rfl, hcell⟩ := hb (by omega)
  have hv : vs[i]? = some (vs[i]'(by omega)) := List.getElem?_eq_getElem (by omega)
  exact ⟨b, o, _, rfl, hcell i _ hv, h2 i l _ hi hv⟩
/-- Publics in a row of the call's own. -/
abbrev OwnP (w : World) (B : Nat) (v : Value) (ps : List Pub) : Prop := w.ownsRow B 45 10 v ps.length (ps.flatMap Pub.cells)
theorem length_flatP (ps : List Pub) : (ps.flatMap Pub.cells).length = ps.length * 10 := by
  induction ps with
  | nil => rfl
  | cons p ps ih => rw [List.flatMap_cons, List.length_append, ih, p.length_cells, List.length_cons]; omega
theorem ownP_nil (w : World) (B : Nat) : OwnP w B (.slice none 0 0) [] := World.ownsRow_nil w B _ 10
theorem info_pub3 : (Try.prog.info? 45).map (fun i => (i.zero, i.size, i.bytes)) = some (some (.agg (PubC 0 0 0 0 0 0 0 0 0 0)), 10, 80) := by kernel_rfl
theorem one_pub (p : Pub) : ∀ u ∈ p.cells, u.oneCell' = true := by
  intro u hu; simp [Pub.cells] at hu; rcases hu with rfl | rfl | rfl | rfl | rfl | rfl | rfl | rfl | rfl | rfl <;> rfl
theorem appP {W w : World} {ops : Array Oper} {rest : List Oper} {o : Oper} {a : Act} {Q : Exit → Act → World → Prop} (hgd : o.guard = none) (s x : Operand)
    (ho : o.op = .call { callee := .builtin .append, args := #[s, x], argTypes := #[26, 26] })
    (v : Value) (ps : List Pub) (hs : a.eval s = v) (hown : OwnP w W.heap.size v ps) (vx : Value) (p : Pub) (hx : a.eval x = vx) (hsee : Sees w 10 vx 1 p.cells)
    (hb : ps.length ≤ 1000000000) (hW : Below W.heap.size W w)
    (h : ∀ v' w', OwnP w' W.heap.size v' (ps ++ [p]) → w.grownBy w' v.ownBlock → Below W.heap.size W w' → wpList Try.prog ops Q rest (a.put o.dst v') w') : wpList Try.prog ops Q (o :: rest) a w :=
  wpList_app hgd s x _ ho W.heap.size 45 (.agg (PubC 0 0 0 0 0 0 0 0 0 0)) 10 80 Try.underlying26 info_pub3 rfl (by decide) v _ _ hs hown vx 1 _ hx hsee (one_pub p) (by omega) hW.size
    (fun v' w' h1 h2 _ => h v' w' (by simpa [OwnP] using h1) h2 (hW.grown h2 hW.size (fun k hk => (hown.lt k hk).1)))

/-- What the first n places tell, and the base behind them. -/
def chainN (ss : List Sec) (dd : List (List Int)) : Nat → List Pub × Int
  | 0 => ([], 37)
  | n + 1 => ((chainN ss dd n).1 ++ [tellP (chainN ss dd n).2 (ss.getD n ⟨0, 0, 0⟩) (dd.getD n [])], (tellP (chainN ss dd n).2 (ss.getD n ⟨0, 0, 0⟩) (dd.getD n [])).blind)
def chainL (ss : List Sec) (dd : List (List Int)) : List Pub := (chainN ss dd ss.length).1
theorem length_chainN (ss : List Sec) (dd : List (List Int)) (n : Nat) : (chainN ss dd n).1.length = n := by
  induction n with
  | zero => rfl
  | succ n ih => rw [chainN, List.length_append, ih]; rfl
theorem chainN_in (ss : List Sec) (dd : List (List Int)) (n : Nat) : in64 (chainN ss dd n).2 := by
  cases n with
  | zero => exact ⟨by show (0 : Int) ≤ 37; decide, by show (37 : Int) < 18446744073709551616; decide⟩
  | succ n => exact ⟨(timesP_pos _ _).1, Int.lt_trans (timesP_pos _ _).2 (by decide)⟩
theorem chainN_ok (ss : List Sec) (dd : List (List Int)) (n : Nat) : ∀ p ∈ (chainN ss dd n).1, p.ok := by
  induction n with
  | zero => intro p hp; cases hp
  | succ n ih =>
    intro p hp
    rw [chainN, List.mem_append, List.mem_singleton] at hp
    rcases hp with h | rfl
    · exact ih p h
    · exact tellP_ok _ _ _ (chainN_in ss dd n)
def ChRel (w : World) (ss : List Sec) (dd : List (List Int)) (o g i : Value) (wr : World) : Prop :=
  ∃ n : Nat, n ≤ ss.length ∧ i = .int .i64 n ∧ g = .int .u64 (chainN ss dd n).2 ∧ OwnP wr w.heap.size o (chainN ss dd n).1 ∧ Below w.heap.size w wr


set_option maxRecDepth 100000 in
set_option maxHeartbeats 4000000 in
theorem Chainr_any (ss : List Sec) (dd : List (List Int)) (vs vd : Value) (w : World) (hss : SeesS w vs ss) (hdd : SeesUU w vd dd) (hs : ∀ s ∈ ss, s.ok) (hd : ∀ l ∈ dd, ∀ x ∈ l, in64 x) (hl : ss.length ≤ 1000) :
    Calls Try.prog 75 #[vs, vd] w fun e w' => ∃ v, e = .returned v ∧ OwnP w' w.heap.size v (chainL ss dd) ∧ Below w.heap.size w w' := by
  obtain ⟨a0, c0, rfl, hac0, hc0⟩ := sees_form hss
  have HSS := Lib.hid hss; clear hss
  have HDD := Lib.hid hdd
  obtain ⟨a1, c1, rfl, hac1, hc1, -⟩ := seesUU_open hdd
  clear hdd
  have HSO := Lib.hid hs; have HDO := Lib.hid hd; clear hs hd
  go_enter Try.func75, Try.ntmps75
  go_wp2_with fail
  go_loopw [5, 6, 7, 8, 9] (fun o g i _ _ wr => ChRel w ss dd o g i wr) (fun _ _ i _ _ _ => ss.length - (intOf i).toNat)
  case atStart => exact ⟨0, by omega, rfl, rfl, ownP_nil _ _, Below.refl _ _⟩
  case round =>
    obtain ⟨n, hn, rfl, rfl, hown, hbel⟩ := hrel
    obtain ⟨a2, c2, rfl, hac2, hc2⟩ := owns_form hown
    have hlen := length_chainN ss dd n
    have HCI := Lib.hid (chainN_in ss dd n)
    by_cases hlt : n < ss.length
    · obtain ⟨b, o, c, hve, hcl, hcm, hrange⟩ := seesS_open (HSS.out.below hbel (by decide)) (by omega)
      obtain ⟨rfl, rfl⟩ : a0 = some ⟨b, o, none⟩ ∧ c0 = c := by injection hve with e1 _ e3; exact ⟨e1, e3⟩
      have hsn : ss[n]? = some ss[n] := List.getElem?_eq_getElem hlt
      have hrg := Lib.hid (hrange n _ hsn)
      have hso := Lib.hid (HSO.out _ (List.getElem_mem hlt))
      have hnx : chainN ss dd (n + 1) = ((chainN ss dd n).1 ++ [tellP (chainN ss dd n).2 ss[n] (dd.getD n [])], (tellP (chainN ss dd n).2 ss[n] (dd.getD n [])).blind) := by
        rw [chainN, show ss.getD n ⟨0, 0, 0⟩ = ss[n] from by rw [List.getD_eq_getElem?_getD, hsn]; rfl]
      have HNX := Lib.hid hnx
      clear hnx hrange hve hsn
      obtain ⟨s, hse⟩ : ∃ s, ss[n] = s := ⟨_, rfl⟩
      rw [hse] at hrg hso HNX
      clear hse
      obtain ⟨⟨o1, g⟩, hog⟩ : ∃ og, chainN ss dd n = og := ⟨_, rfl⟩
      rw [hog] at hown HCI hlen HNX ⊢
      clear hog
      simp only at hown HCI hlen HNX
      have HLN := Lib.hid hlen; clear hlen
      by_cases hdl : n < dd.length
      · obtain ⟨a1', c1', hve, -, -, hel⟩ := seesUU_open (HDD.out.below hbel)
        obtain ⟨rfl, rfl⟩ : a1 = a1' ∧ c1 = c1' := by injection hve with e1 _ e3; exact ⟨e1, e3⟩
        obtain ⟨b2, o2, u, rfl, hcu, hsu⟩ := hel n dd[n] (List.getElem?_eq_getElem hdl)
        have hdi : (n : Int) < (dd.length : Int) := by omega
        have hdo := Lib.hid (HDO.out _ (List.getElem_mem hdl))
        rw [show dd.getD n [] = dd[n] from by rw [List.getD_eq_getElem?_getD, List.getElem?_eq_getElem hdl]; rfl] at HNX
        clear hve hel
        generalize dd[n] = l at *
        obtain ⟨⟨pa, pb, pm, pn, q1, q2, q3, q4, q5, q6⟩, hp⟩ : ∃ p, tellP g s l = p := ⟨_, rfl⟩
        rw [hp] at HNX
        have HP := Lib.hid hp
        clear hp
        have hone : ∀ v ∈ (PubC pa pb pm pn q1 q2 q3 q4 q5 q6).toList, v.oneCell' = true := one_pub ⟨pa, pb, pm, pn, q1, q2, q3, q4, q5, q6⟩
        go_wp2_with (first
          | (refine wpList_load_mid rfl 40 _ rfl b (o + n * 3) rfl _ _ hrg.out Try.underlying40 rfl info_sec ?_)
          | (go_at_call 103; refine (Tellr_any g s _ _ _ HCI.out hso.out hsu hdo.out).mono ?_; rintro e x3 ⟨rfl, hb3⟩; rw [HP.out]; have e3 : Ext _ x3 := hb3)
          | (refine wpList_allocB rfl _ rfl _ run_allocPub ?_; intro x4 B4 hh hB4 e4)
          | (refine wpList_store_row rfl 45 _ _ rfl B4 (PubC pa pb pm pn q1 q2 q3 q4 q5 q6) _ _ rfl rfl hh rfl info_pub hone ?_; intro x5 hg5 hs5 hR5
             have hB5 : wr.heap.size ≤ B4 := Nat.le_trans e3.size hB4
             have hup5 : Below wr.heap.size wr x5 := (e3.tr e4 : Below _ _ _).grown hg5 (e3.tr e4).size (fun k hk => by cases hk; exact hB5)
             have hown5 := owns_below hown hup5
             have hbel5 := hbel.trans (hup5.mono hbel.size)
             have hlit : Sees (x5.alloc (.cells (PubC pa pb pm pn q1 q2 q3 q4 q5 q6) 45)) 10 (.slice (some ⟨x5.heap.size, 0, none⟩) 1 1) 1 (Pub.cells ⟨pa, pb, pm, pn, q1, q2, q3, q4, q5, q6⟩) := sees_new x5 10 (PubC pa pb pm pn q1 q2 q3 q4 q5 q6) _ 1 rfl (by decide)
             clear hg5 hs5)
          | (refine wpList_load_row rfl 45 _ rfl B4 rfl _ (PubC pa pb pm pn q1 q2 q3 q4 q5 q6) (0, 0) _ hR5 Try.underlying45 rfl info_pub ?_)
          | (at_builtin; refine appP (W := w) rfl _ _ rfl _ o1 rfl (hown5.alloc _) (.slice (some ⟨x5.heap.size, 0, none⟩) 1 1) ⟨pa, pb, pm, pn, q1, q2, q3, q4, q5, q6⟩ rfl hlit (by rw [HLN.out]; omega) (hbel5.alloc hbel5.size _) ?_; intro v6 w6 hown6 hg6 hb6
             have hR6 := (hR5.alloc (.cells (PubC pa pb pm pn q1 q2 q3 q4 q5 q6) 45)).grownBy hg6 (fun e => by have := (hown.lt B4 e.symm).2; omega)
             have hc6 : w6.cell? ⟨B4, 1, none⟩ = some (.int .u64 pb) := by rw [hR6.cell]; rfl
             clear hg6))
        go_roundw
        case rel => exact ⟨n + 1, by omega, by go_num, by rw [HNX.out], by rw [HNX.out]; exact hown6, hb6⟩
        case measure => simp [intOf]; omega
      · have hdi : ¬ (n : Int) < (dd.length : Int) := by omega
        have hsu : SeesU wr (.slice none 0 0) [] := Sees.nil _ _
        rw [show dd.getD n [] = [] from by rw [List.getD_eq_getElem?_getD, List.getElem?_eq_none (by omega)]; rfl] at HNX
        have hdo := Lib.hid (show ∀ x ∈ ([] : List Int), in64 x by intro x hx; cases hx)
        obtain ⟨⟨pa, pb, pm, pn, q1, q2, q3, q4, q5, q6⟩, hp⟩ : ∃ p, tellP g s ([] : List Int) = p := ⟨_, rfl⟩
        rw [hp] at HNX
        have HP := Lib.hid hp
        clear hp
        have hone : ∀ v ∈ (PubC pa pb pm pn q1 q2 q3 q4 q5 q6).toList, v.oneCell' = true := one_pub ⟨pa, pb, pm, pn, q1, q2, q3, q4, q5, q6⟩
        go_wp2_with (first
          | (refine wpList_load_mid rfl 40 _ rfl b (o + n * 3) rfl _ _ hrg.out Try.underlying40 rfl info_sec ?_)
          | (go_at_call 103; refine (Tellr_any g s _ _ _ HCI.out hso.out hsu hdo.out).mono ?_; rintro e x3 ⟨rfl, hb3⟩; rw [HP.out]; have e3 : Ext _ x3 := hb3)
          | (refine wpList_allocB rfl _ rfl _ run_allocPub ?_; intro x4 B4 hh hB4 e4)
          | (refine wpList_store_row rfl 45 _ _ rfl B4 (PubC pa pb pm pn q1 q2 q3 q4 q5 q6) _ _ rfl rfl hh rfl info_pub hone ?_; intro x5 hg5 hs5 hR5
             have hB5 : wr.heap.size ≤ B4 := Nat.le_trans e3.size hB4
             have hup5 : Below wr.heap.size wr x5 := (e3.tr e4 : Below _ _ _).grown hg5 (e3.tr e4).size (fun k hk => by cases hk; exact hB5)
             have hown5 := owns_below hown hup5
             have hbel5 := hbel.trans (hup5.mono hbel.size)
             have hlit : Sees (x5.alloc (.cells (PubC pa pb pm pn q1 q2 q3 q4 q5 q6) 45)) 10 (.slice (some ⟨x5.heap.size, 0, none⟩) 1 1) 1 (Pub.cells ⟨pa, pb, pm, pn, q1, q2, q3, q4, q5, q6⟩) := sees_new x5 10 (PubC pa pb pm pn q1 q2 q3 q4 q5 q6) _ 1 rfl (by decide)
             clear hg5 hs5)
          | (refine wpList_load_row rfl 45 _ rfl B4 rfl _ (PubC pa pb pm pn q1 q2 q3 q4 q5 q6) (0, 0) _ hR5 Try.underlying45 rfl info_pub ?_)
          | (at_builtin; refine appP (W := w) rfl _ _ rfl _ o1 rfl (hown5.alloc _) (.slice (some ⟨x5.heap.size, 0, none⟩) 1 1) ⟨pa, pb, pm, pn, q1, q2, q3, q4, q5, q6⟩ rfl hlit (by rw [HLN.out]; omega) (hbel5.alloc hbel5.size _) ?_; intro v6 w6 hown6 hg6 hb6
             have hR6 := (hR5.alloc (.cells (PubC pa pb pm pn q1 q2 q3 q4 q5 q6) 45)).grownBy hg6 (fun e => by have := (hown.lt B4 e.symm).2; omega)
             have hc6 : w6.cell? ⟨B4, 1, none⟩ = some (.int .u64 pb) := by rw [hR6.cell]; rfl
             clear hg6))
        go_roundw
        case rel => exact ⟨n + 1, by omega, by go_num, by rw [HNX.out], by rw [HNX.out]; exact hown6, hb6⟩
        case measure => simp [intOf]; omega
    · obtain rfl : n = ss.length := by omega
      go_wp2_with fail
      go_ret
      exact ⟨_, rfl, hown, hbel⟩
end Go.Proofs.Yteialfdhbfbkgaa
