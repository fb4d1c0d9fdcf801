/-
  What each place had of a spoiled onion: walked.
-/
import Derived.Test.YtnmniblaefjekaaGreatBu1
namespace Go.Proofs.YtnmniblaefjekaaGreat
set_option linter.unusedVariables false
set_option linter.unusedSimpArgs false
open Go Go.RowKit

def intsR : Rp (List Int) := intR.sl 62
def ordO (orders : List (List Int)) (i : Nat) : List Int := orders.getD i []
theorem ordO_at {orders : List (List Int)} {i : Nat} {od : List Int} (h : orders[i]? = some od) : ordO orders i = od := by unfold ordO; rw [List.getD_eq_getElem?_getD, h]; rfl
def l0S (ps : List Pub) (from_ : Int) (N U H : Nat) : List Ent := (madeL ps from_ N).set U ⟨timesP 37 (madeX from_ U), boxL ps (madeX from_ U) (put64 U) H⟩
theorem length_l0S (ps : List Pub) (from_ : Int) (N U H : Nat) : (l0S ps from_ N U H).length = N := by unfold l0S; rw [List.length_set, length_madeL]
theorem slL_atI {B : Nat} {w : World} {b o m c : Nat} {l : List (List Int)} (h : SlR intsR B w (.slice (some ⟨b, o, none⟩) m c) l) (i : Nat) (od : List Int) (hi : l[i]? = some od) :
    ∃ v, w.cell? ⟨b, o + i, none⟩ = some v ∧ SlR intR B w v od := by
  obtain ⟨ch, ⟨v, rfl, hv⟩, _, hr⟩ := h.at i od hi
  refine ⟨v, ?_, hv⟩
  have := hr 0 _ rfl
  rwa [show intsR.sz = 1 from rfl, Nat.mul_one, Nat.add_zero] at this
theorem entry_put {w : World} {B0 g n cap : Nat} {l : List Ent} {cur : Array Value} (h : OwR entR 0 B0 w (.slice (some ⟨g, 0, none⟩) n cap) l) (hcur : Blk w g cur 32) {i : Nat} (hi : i < l.length) {w' : World} {x : Int} {a : Option Addr} {m c : Nat} {box : List UInt8}
    (hg : w.grownBy w' (some g)) (hb : Blk w' g (cur.toList.take (i * 2) ++ [Value.int .u64 x, Value.slice a m c] ++ cur.toList.drop (i * 2 + 2)).toArray 32) (hx : SlR byteR 0 w' (.slice a m c) box) :
    OwR entR 0 B0 w' (.slice (some ⟨g, 0, none⟩) n cap) (l.set i ⟨x, box⟩) :=
  OwR.put (R := entR) h hcur hi (c' := [.int .u64 x, .slice a m c]) hg hb ⟨_, rfl, hx⟩ (by decide) (Nat.zero_le _)
theorem own_blk20 {α : Type} {R : Rp α} {B B0 : Nat} {w : World} {a : Option Addr} {n c : Nat} {l : List α} (h : OwR R B B0 w (.slice a n c) l) (hl : 0 < l.length) : ∃ g, a = some ⟨g, 0, none⟩ ∧ ∃ cur, (Blk w g cur R.ty ∧ l.length * R.sz ≤ cur.size) ∧ B0 ≤ g := by
  obtain ⟨chs, h1, _, h2⟩ := h
  rcases h2 with ⟨_, h0⟩ | ⟨g, cap, cur, e, hg, hh, hc, _, hs, _⟩
  · omega
  · injection e with e1 _ _
    exact ⟨g, e1, cur, ⟨hh, by rw [hs]; exact Nat.mul_le_mul_right _ hc⟩, hg⟩
theorem owns_grownE {w w' : World} {B : Nat} {v : Value} {l : List UInt8} {g : Nat} (h : OwnB w B v l) (hg : w.grownBy w' (some g)) (hr : RowT w (some g) 32) : OwnB w' B v l := own_grown h hg hr (by decide)
set_option maxRecDepth 100000 in
set_option maxHeartbeats 8000000 in
theorem Spoiled20_any (ss : List Sec) (ps : List Pub) (K N H U : Nat) (from_ : Int) (orders : List (List Int)) (B : Nat) (vs vp vo : Value) (w : World) (hvs : SeesS w vs ss) (hvp : SeesP w vp ps) (hvo : SlR intsR B w vo orders) (hlS : ss.length = K) (hlP : ps.length = K) (hK : K ≤ 6) (hN1 : 1 ≤ N) (hN : N ≤ 6) (hH : H < K) (hU : U < N) (hO : K ≤ orders.length)
    (hso : ∀ s ∈ ss, s.ok) (hpo : ∀ p ∈ ps, p.ok) (hf : in64 from_)
    (hgk : ∀ i, i ≤ H → (levN ss ps from_ (ordO orders) (l0S ps from_ N U H) i).length = N ∧ ∀ e ∈ levN ss ps from_ (ordO orders) (l0S ps from_ N U H) i, e.ok ∧ e.box.length ≤ 20000000000000) :
    Calls Tryz.prog 21 #[vs, vp, .int .i64 N, .int .i64 H, .int .i64 U, .int .u64 from_, vo] w fun e w' => ∃ vl, e = .returned (.tuple #[vl, .int .i64 (posN N (ordO orders) U H : Nat)]) ∧ OwR entsR 0 w.heap.size w' vl (lvs (fun i => levN ss ps from_ (ordO orders) (l0S ps from_ N U H) i) H) ∧ Below w.heap.size w w' := by
  have HLS := Lib.hid hlS; have HLP := Lib.hid hlP; have HSO := Lib.hid hso; have HPO := Lib.hid hpo; have HGK := Lib.hid hgk
  obtain ⟨bS, oS, cS, rfl, -, -, -⟩ := seesS_open hvs (by omega)
  obtain ⟨bP, oP, cP, rfl, -, -, -⟩ := seesP_open hvp (by omega)
  obtain ⟨bO, oO, cO, rfl, -, hcO⟩ := hvo.open (by omega)
  have HSA := Lib.hid fun i s (h : ss[i]? = some s) => seesS_at hvs (by omega) i s h
  have HPA := Lib.hid fun i p (h : ps[i]? = some p) => seesP_at hvp (by omega) i p h
  have HVP := Lib.hid hvp
  have HVO := Lib.hid hvo
  have HMD := Lib.hid (Made19_any ps N from_ _ w hvp hpo (by omega) (by omega) (by omega) hf)
  have HX0 := Lib.hid (show IntKind.u64.wrap (from_ + (U : Int) * 977) = madeX from_ U from rfl)
  have hmx := madeX_in from_ U
  have HSPO := Lib.hid fun (u : World) (v : Value) (hv : SeesB u v (put64 U)) (h : SeesP u (.slice (some ⟨bP, oP, none⟩) ps.length cP) ps) => Spoil_any ps (madeX from_ U) H (put64 U) _ v u h hpo hmx hv (by rw [length_put64]; decide) (by omega) ⟨by omega, by omega⟩
  have HL0 := Lib.hid (show l0S ps from_ N U H = (madeL ps from_ N).set U ⟨timesP 37 (madeX from_ U), boxL ps (madeX from_ U) (put64 U) H⟩ from rfl)
  have HML := Lib.hid (length_madeL ps from_ N)
  rw [Int.toNat_natCast] at HMD
  rw [hlS, hlP]
  rw [hlP] at HMD HSPO HVP
  clear hvs hvp hvo hso hpo hgk hlS hlP
  generalize madeL ps from_ N = ML at *
  generalize timesP 37 (madeX from_ U) = X0 at *
  generalize boxL ps (madeX from_ U) (put64 U) H = BX at *
  generalize madeX from_ U = MX at *
  have hdU : decide (N ≤ U) = false := decide_eq_false (by omega)
  go_enter Tryz.func21, Tryz.ntmps21
  go_wp2_with (first
    | (go_at_call 26; refine HMD.out.mono ?_; rintro e w1 ⟨v1, rfl, hown1, hb1⟩
       have e1 : Ext w w1 := hb1
       obtain ⟨a1, c1, rfl, -, -⟩ := hown1.form
       have hob := own_blk20 hown1 (by rw [HML.out]; omega)
       obtain ⟨g1, hg1e, cur1, ⟨hblk1, hcs1⟩, hg1⟩ := hob
       subst hg1e
       rw [HML.out]
       have HO1 := Lib.hid hown1
       clear hown1 hb1)
    | (go_at_call 41; refine (Put64r_any _ _ [] (U : Int) (Sees.nil _ _) (by omega) (by omega) (by decide)).mono ?_; rintro e w2 ⟨v2, rfl, hown2, hb2⟩; rw [List.nil_append, Int.toNat_natCast] at hown2; have e2 : Ext w1 w2 := hb2; rw [HX0.out])
    | (go_at_call 53; refine (HSPO.out _ _ (sees_of_owns hown2) (HVP.out.below (Ext.tr e1 e2) (by decide))).mono ?_; rintro e w3 ⟨v3, rfl, hown3, hb3⟩; obtain ⟨a3, c3, rfl, -, -⟩ := owns_form hown3; have e3 : Ext w1 w3 := Ext.tr e2 hb3; have hblk3 := hblk1.below e3; have hO3 := HO1.out.ext e3)
    | (refine wpList_store_in rfl 32 _ _ rfl g1 (U * 2) #[.int .u64 X0, .slice a3 BX.length c3] cur1 _ _ rfl rfl hblk3 (by have h9 : N * 2 ≤ cur1.size := by { have := hcs1; rw [HML.out] at this; exact this }; show U * 2 + 2 ≤ cur1.size; omega) info_entry (by intro v hv; simp at hv; rcases hv with rfl | rfl <;> rfl) rfl ?_; intro w4 hg4 hz4 hb4
       have hO4 := entry_put hO3 hblk3 (by rw [HML.out]; exact hU) hg4 hb4 (slB_own (owns_grownE hown3 hg4 (RowT.blk hblk3)))
       rw [← HL0.out, HML.out] at hO4
       clear hz4
       have e4 : Ext w w4 := ext_rowK (Ext.tr e1 e3) hg4 hg1))
  have HO4 := Lib.hid hO4; have E4 := Lib.hid e4
  clear hO4 e4 hb4 hg4 hO3 hblk3 e3 hown3 hb3 e2 hb2 hown2 HO1 hcs1 hblk1 hg1 e1 HL0 HSPO HMD HX0 HML
  have hbel2 : Ext w w := Ext.refl _
  have HPL := Lib.hid fun i : Nat => posN_lt (n := N) (O := ordO orders) (user := U) hU i
  go_loopw [16, 17, 18, 19, 20, 21, 22, 23] (fun lv lsv av i _ _ _ _ wr => ∃ m : Nat, i = .int .i64 m ∧ m ≤ H ∧ SlR entR 0 wr lv (levN ss ps from_ (ordO orders) (l0S ps from_ N U H) m) ∧ OwR entsR 0 w.heap.size wr lsv (lvs (fun i => levN ss ps from_ (ordO orders) (l0S ps from_ N U H) i) m) ∧ av = .int .i64 (posN N (ordO orders) U m : Nat) ∧ Ext w wr) (fun _ _ _ i _ _ _ _ _ => H - (intOf i).toNat)
  case atStart => exact ⟨0, rfl, Nat.zero_le _, HO4.out.sl.ext (Ext.alloc _ _), OwR.lit1 (R := entsR) (c := [_]) ⟨_, rfl, HO4.out.sl⟩ (Below.size E4.out), rfl, Ext.tr E4.out (Ext.alloc _ _)⟩
  case round =>
    obtain ⟨m, rfl, hm, hlv, hls, rfl, hX⟩ := hrel
    have HX := Lib.hid hX
    obtain ⟨aL, cL, rfl, -, -⟩ := hlv.form
    obtain ⟨aLS, cLS, rfl, -, -⟩ := hls.sl.form
    have HL := Lib.hid hlv
    have HLS2 := Lib.hid hls
    clear hX hlv hls
    obtain ⟨hl1, hl2⟩ := HGK.out m hm
    by_cases hlt : m < H
    · obtain ⟨s, hs⟩ : ∃ s, ss[m]? = some s := ⟨_, List.getElem?_eq_getElem (by rw [HLS.out]; omega)⟩
      obtain ⟨p, hp⟩ : ∃ p, ps[m]? = some p := ⟨_, List.getElem?_eq_getElem (by rw [HLP.out]; omega)⟩
      obtain ⟨od, hod⟩ : ∃ od, orders[m]? = some od := ⟨_, List.getElem?_eq_getElem (by omega)⟩
      obtain ⟨vo, hco, hvo⟩ := slL_atI HVO.out m od hod
      obtain ⟨ao, co, rfl, hol1, hol2⟩ := hvo.form
      have hol := Nat.le_trans hol1 hol2
      have hsu := levN_succ (draw := from_) (O := ordO orders) (l0 := l0S ps from_ N U H) hs hp
      rw [ordO_at hod] at hsu
      have HSU := Lib.hid hsu
      have HSV := Lib.hid (lvs_succ (fun i => levN ss ps from_ (ordO orders) (l0S ps from_ N U H) i) m)
      rw [HSU.out] at HSV
      have HOR := Lib.hid hvo
      have HHO := Lib.hid fun (w' : World) (h : Ext wr w') => Hopr_any s p m _ od from_ B _ (.slice ao od.length co) w' (HSO.out s (List.mem_of_getElem? hs)) (HPO.out p (List.mem_of_getElem? hp)) hf ((HL.out.ext h).mono (Nat.zero_le B)) (HOR.out.ext (Ext.tr HX.out h)) (fun e he => hl2 e he) (by rw [hl1]; omega) hol
      have HRS := Lib.hid (HSA.out m s hs); have HRP := Lib.hid (HPA.out m p hp)
      unfold RetH at HHO
      have HLL := Lib.hid hl1
      have HLN := Lib.hid (length_lvs (fun i => levN ss ps from_ (ordO orders) (l0S ps from_ N U H) i) m)
      have HCO := Lib.hid hco
      have hpos1 := fun h : od.length = N ∧ permOk od => (posN_perm (n := N) (O := ordO orders) hU (i := m) (by rw [ordO_at hod]; exact h)).1
      rw [ordO_at hod] at hpos1
      have hpos2 := fun h : ¬ (od.length = N ∧ permOk od) => posN_no (n := N) (O := ordO orders) (user := U) (i := m) (by rw [ordO_at hod]; exact h)
      have hPm := HPL.out m
      clear hs hp hod hl1 hl2 hsu hvo hco hol1 hol2
      generalize lvs (fun i => levN ss ps from_ (ordO orders) (l0S ps from_ N U H) i) m = LSM at *
      generalize levN ss ps from_ (ordO orders) (l0S ps from_ N U H) m = LM at *
      generalize runL s p m LM od from_ = RUN at *
      generalize failsL s m LM = FL at *
      generalize posN N (ordO orders) U m = P at *
      have hdS : decide (K ≤ m) = false := decide_eq_false (by omega)
      have hdO : decide (orders.length ≤ m) = false := decide_eq_false (by omega)
      have hqO : ∀ e : InC (fun u => Ext wr u), e.u.cell? ⟨bO, oO + m, none⟩ = some (.slice ao od.length co) := fun e => (Below.cell (Ext.tr HX.out e.has) (World.block_lt_of_cell? w _ HCO.out)).trans HCO.out
      by_cases hlen : od.length = N
      · have hl : ((od.length : Int) == (N : Int)) = true := by rw [beq_iff_eq]; omega
        by_cases hpk : permOk od
        · have HPN := Lib.hid (hpos1 ⟨hlen, hpk⟩)
          have HRO := Lib.hid fun (w' : World) (h : Ext w w') => RightOrderr_any od B _ w' (HOR.out.ext h) hol
          rw [decide_eq_true hpk] at HRO
          have HIN := Lib.hid fun (w' : World) (h : Ext w w') => Inverser_any od B _ w' (HOR.out.ext h) (by omega) hpk
          have HIL := Lib.hid (show (invL od).length = N from by rw [invL, length_invN]; exact hlen)
          have hdP : decide (N ≤ P) = false := decide_eq_false (by omega)
          generalize invL od = IV at *
          generalize hP2 : posN N (ordO orders) U (m + 1) = P2 at *
          have HP2 := Lib.hid hP2
          clear hP2 hpos1 hpos2 hlen hpk
          go_wp2_with fail
          have hstab := stabE wr
          have hkH : HoldT (fun u => Ext wr u) w wr.drew := HoldT.drew hstab ⟨Ext.refl _, Ext.tr hbel2 HX.out⟩
          try change Code.wp _ _ _ (Act.mk _ _) _
          haveI hne_ : Nonempty (InC (fun u => Ext wr u)) := ⟨⟨_, (hkH).1⟩⟩
          refine wp_region_tr (C := fun w_ => ∃ e_ : InC (fun u => Ext wr u), w_ = e_.u) (.step [0, 1, 2, 3, 4, 5, 6, 7, 8, 9, 10, 11, 12, 13, 14] (.alt 15 (.step [16, 17, 18] (.alt 19 (.step [] (.alt 20 (.fin [21]) .nil)) .nil)) (.alt 19 (.step [] (.alt 15 (.step [16, 17, 18] (.alt 20 (.fin [21]) .nil)) .nil)) .nil))) (by kernel_rfl) (by kernel_rfl) (fun _ _ _ _ hd_ h_ => ⟨hd_.symm.trans h_.1, h_.2⟩) ⟨⟨World.drew _, (hkH).1⟩, rfl⟩ ?_
          have hk_ := hkH
          repeat' (first
            | ((with_reducible refine wpTr_fin ?_)
               simp only [pickOps, List.flatMap_cons, List.flatMap_nil, List.drop_succ_cons, List.drop_zero, List.take_succ_cons, List.take_zero, List.cons_append, List.nil_append, List.append_nil]
               repeat (first | (first | (refine wpQuiet_load_mid rfl 54 (.tmp 53) rfl bS (oS + m * 3) rfl s.cells _ (fun w_ hw_ => by obtain ⟨e_, rfl⟩ := hw_; exact range_below HRS.out (Ext.tr HX.out e_.has)) Tryz.underlying54 rfl info_sec ?_; simp only [Act.put, List.setIfInBounds_toArray, List.set_cons_succ, List.set_cons_zero]) | (refine wpQuiet_load_mid rfl 60 (.tmp 57) rfl bP (oP + m * 10) rfl p.cells _ (fun w_ hw_ => by obtain ⟨e_, rfl⟩ := hw_; exact range_below HRP.out (Ext.tr HX.out e_.has)) Tryz.underlying60 rfl info_pub ?_; simp only [Act.put, List.setIfInBounds_toArray, List.set_cons_succ, List.set_cons_zero])) | go_big_quiet_step (exact rfl))
               refine wpQuiet_nil ?_)
            | ((with_reducible refine wpTr_step ?_); simp only [pickOps, List.flatMap_cons, List.flatMap_nil, List.drop_succ_cons, List.drop_zero, List.take_succ_cons, List.take_zero, List.cons_append, List.nil_append, List.append_nil]; repeat (first | (first | (refine wpQuiet_load_mid rfl 54 (.tmp 53) rfl bS (oS + m * 3) rfl s.cells _ (fun w_ hw_ => by obtain ⟨e_, rfl⟩ := hw_; exact range_below HRS.out (Ext.tr HX.out e_.has)) Tryz.underlying54 rfl info_sec ?_; simp only [Act.put, List.setIfInBounds_toArray, List.set_cons_succ, List.set_cons_zero]) | (refine wpQuiet_load_mid rfl 60 (.tmp 57) rfl bP (oP + m * 10) rfl p.cells _ (fun w_ hw_ => by obtain ⟨e_, rfl⟩ := hw_; exact range_below HRP.out (Ext.tr HX.out e_.has)) Tryz.underlying60 rfl info_pub ?_; simp only [Act.put, List.setIfInBounds_toArray, List.set_cons_succ, List.set_cons_zero])) | go_big_quiet_step (exact rfl))
               refine wpQuiet_nil ?_)
            | (with_reducible refine wpTr_one ?_)
            | (with_reducible refine wpTr_alt ?_ ?_)
            | (simp only [pickOps, List.flatMap_cons, List.flatMap_nil, List.drop_succ_cons, List.drop_zero, List.take_succ_cons, List.take_zero, List.cons_append, List.nil_append, List.append_nil]
               go_wp2_with (first
            | (go_at_call 27; refine (HHO.out _ hk_.has).mono ?_; rintro r_ x5 ⟨vE, vB, rfl, hE5, hB5, e5⟩; have hE5 := hE5.mono (Nat.le_refl 0) (Below.size hk_.has); obtain ⟨aE, cE, rfl, -, -⟩ := hE5.form; have hk5 := HoldT.step hstab hk_ e5; have e5' : Ext _ x5 := e5)
            | (refine wpList_allocB rfl _ rfl PasZ run_allocPas ?_; intro x6 g hG hg6 e6; have hg0 := Nat.le_trans (Below.size hk_.has) hg6; have hk6 := HoldT.step hstab hk_ e6; have e6' : Ext _ x6 := e6)
            | (refine wpList_store_row rfl 70 (.tmp 20) _ rfl g #[.slice aE RUN.es.length cE, .int .u64 RUN.p.c, .int .u64 RUN.p.s] _ _ rfl rfl (exBl hG) rfl info_pas (one_pas _ _ _ _ _) ?_; intro x7 hg7 hs7 hR7
               have hwg : w.heap.size ≤ g := Nat.le_trans (Below.size (Ext.tr hbel2 HX.out)) hg0
               have hbel7 : Ext wr x7 := ext_row hk_.has hg7 hg0
               have hk7 : HoldT (fun u => Ext wr u) w x7 := ⟨hbel7, ext_row hk_.up hg7 hwg⟩
               have hO7 := (hE5.ext (w := x5)).grownT hg7 (RowT.blk (exBl hG)) (by decide) (by decide) (fun _ _ => Nat.zero_le _)
               clear hs7))
               refine phPost_hold (by first | with_reducible assumption | exact HoldT.alloc hstab (by with_reducible assumption) _ | exact HoldT.alloc hstab (HoldT.alloc hstab (by with_reducible assumption) _) _) ?_
               intro hk_))
          all_goals (
            have hq7 : x7.cell? ⟨g, 0, none⟩ = some (.slice aE RUN.es.length cE) := by rw [hR7.cell]; rfl
            have ho7 : x7.cell? ⟨bO, oO + m, none⟩ = some (.slice ao od.length co) := (Below.cell (Ext.tr HX.out hbel7) (World.block_lt_of_cell? w _ HCO.out)).trans HCO.out
            have hgl := Blk.lt hR7
            go_wp2_with (first
              | (go_at_call 24; refine (HRO.out _ (Ext.tr HX.out hbel7)).mono ?_; rintro e x8 ⟨rfl, hb8⟩; have e8 : Ext x7 x8 := hb8; have hq8 : x8.cell? ⟨g, 0, none⟩ = some (.slice aE RUN.es.length cE) := (Below.cell e8 hgl).trans hq7; have ho8 : x8.cell? ⟨bO, oO + m, none⟩ = some (.slice ao od.length co) := (Below.cell (Ext.tr HX.out (Ext.tr hbel7 e8)) (World.block_lt_of_cell? w _ HCO.out)).trans HCO.out)
              | (go_at_call 54; refine (HIN.out _ (Ext.tr HX.out (Ext.tr hbel7 e8))).mono ?_; rintro e x9 ⟨v9, rfl, ho9, hb9⟩
                 have e9 : Ext x7 x9 := Ext.tr e8 hb9
                 have hq9 : x9.cell? ⟨g, 0, none⟩ = some (.slice aE RUN.es.length cE) := (Below.cell e9 hgl).trans hq7
                 obtain ⟨bq, oq, cq, rfl, -, -⟩ := ho9.sl.open (by rw [HIL.out]; omega)
                 have hcq := slI_at ho9.sl P _ HPN.out
                 rw [HIL.out])
              | (at_builtin; refine appL (W := w) (B := 0) rfl _ _ rfl (Nat.zero_le _) _ LSM rfl (HLS2.out.ext (Ext.tr hbel7 (Ext.tr e9 (Ext.alloc _ _)))) (.slice (some ⟨x9.heap.size, 0, none⟩) 1 1) [RUN.es] rfl (SlR.lit1 (R := entsR) (y := RUN.es) (w := x9) (c := [.slice aE RUN.es.length cE]) ⟨_, rfl, hO7.sl.ext e9⟩) (by have := HLN.out; simp only [List.length_cons, List.length_nil]; omega) (Ext.tr HX.out (Ext.tr hbel7 (Ext.tr e9 (Ext.alloc _ _)))) ?_; intro v10 w10 hown10 hg10 hb10
                 have hO10 := ((hO7.ext e9).ext (Ext.alloc _ _)).grownT hg10 (HLS2.out.ext (Ext.tr hbel7 (Ext.tr e9 (Ext.alloc _ _)))).row (by decide) (by decide) (fun _ _ => Nat.zero_le _)))
            go_roundw
            case rel => exact ⟨m + 1, rfl, by omega, by rw [HSU.out]; exact hO10.sl, by rw [HSV.out]; exact hown10, by rw [HP2.out], hb10⟩
            case measure => (simp [intOf] <;> omega))
        · have HPN := Lib.hid (hpos2 (fun h => hpk h.2))
          have HRO := Lib.hid fun (w' : World) (h : Ext w w') => RightOrderr_any od B _ w' (HOR.out.ext h) hol
          rw [decide_eq_false hpk] at HRO
          clear hpos1 hpos2 hlen hpk
          go_wp2_with fail
          have hstab := stabE wr
          have hkH : HoldT (fun u => Ext wr u) w wr.drew := HoldT.drew hstab ⟨Ext.refl _, Ext.tr hbel2 HX.out⟩
          try change Code.wp _ _ _ (Act.mk _ _) _
          haveI hne_ : Nonempty (InC (fun u => Ext wr u)) := ⟨⟨_, (hkH).1⟩⟩
          refine wp_region_tr (C := fun w_ => ∃ e_ : InC (fun u => Ext wr u), w_ = e_.u) (.step [0, 1, 2, 3, 4, 5, 6, 7, 8, 9, 10, 11, 12, 13, 14] (.alt 15 (.step [16, 17, 18] (.alt 19 (.step [] (.alt 20 (.fin [21]) .nil)) .nil)) (.alt 19 (.step [] (.alt 15 (.step [16, 17, 18] (.alt 20 (.fin [21]) .nil)) .nil)) .nil))) (by kernel_rfl) (by kernel_rfl) (fun _ _ _ _ hd_ h_ => ⟨hd_.symm.trans h_.1, h_.2⟩) ⟨⟨World.drew _, (hkH).1⟩, rfl⟩ ?_
          have hk_ := hkH
          repeat' (first
            | ((with_reducible refine wpTr_fin ?_)
               simp only [pickOps, List.flatMap_cons, List.flatMap_nil, List.drop_succ_cons, List.drop_zero, List.take_succ_cons, List.take_zero, List.cons_append, List.nil_append, List.append_nil]
               repeat (first | (first | (refine wpQuiet_load_mid rfl 54 (.tmp 53) rfl bS (oS + m * 3) rfl s.cells _ (fun w_ hw_ => by obtain ⟨e_, rfl⟩ := hw_; exact range_below HRS.out (Ext.tr HX.out e_.has)) Tryz.underlying54 rfl info_sec ?_; simp only [Act.put, List.setIfInBounds_toArray, List.set_cons_succ, List.set_cons_zero]) | (refine wpQuiet_load_mid rfl 60 (.tmp 57) rfl bP (oP + m * 10) rfl p.cells _ (fun w_ hw_ => by obtain ⟨e_, rfl⟩ := hw_; exact range_below HRP.out (Ext.tr HX.out e_.has)) Tryz.underlying60 rfl info_pub ?_; simp only [Act.put, List.setIfInBounds_toArray, List.set_cons_succ, List.set_cons_zero])) | go_big_quiet_step (exact rfl))
               refine wpQuiet_nil ?_)
            | ((with_reducible refine wpTr_step ?_); simp only [pickOps, List.flatMap_cons, List.flatMap_nil, List.drop_succ_cons, List.drop_zero, List.take_succ_cons, List.take_zero, List.cons_append, List.nil_append, List.append_nil]; repeat (first | (first | (refine wpQuiet_load_mid rfl 54 (.tmp 53) rfl bS (oS + m * 3) rfl s.cells _ (fun w_ hw_ => by obtain ⟨e_, rfl⟩ := hw_; exact range_below HRS.out (Ext.tr HX.out e_.has)) Tryz.underlying54 rfl info_sec ?_; simp only [Act.put, List.setIfInBounds_toArray, List.set_cons_succ, List.set_cons_zero]) | (refine wpQuiet_load_mid rfl 60 (.tmp 57) rfl bP (oP + m * 10) rfl p.cells _ (fun w_ hw_ => by obtain ⟨e_, rfl⟩ := hw_; exact range_below HRP.out (Ext.tr HX.out e_.has)) Tryz.underlying60 rfl info_pub ?_; simp only [Act.put, List.setIfInBounds_toArray, List.set_cons_succ, List.set_cons_zero])) | go_big_quiet_step (exact rfl))
               refine wpQuiet_nil ?_)
            | (with_reducible refine wpTr_one ?_)
            | (with_reducible refine wpTr_alt ?_ ?_)
            | (simp only [pickOps, List.flatMap_cons, List.flatMap_nil, List.drop_succ_cons, List.drop_zero, List.take_succ_cons, List.take_zero, List.cons_append, List.nil_append, List.append_nil]
               go_wp2_with (first
            | (go_at_call 27; refine (HHO.out _ hk_.has).mono ?_; rintro r_ x5 ⟨vE, vB, rfl, hE5, hB5, e5⟩; have hE5 := hE5.mono (Nat.le_refl 0) (Below.size hk_.has); obtain ⟨aE, cE, rfl, -, -⟩ := hE5.form; have hk5 := HoldT.step hstab hk_ e5; have e5' : Ext _ x5 := e5)
            | (refine wpList_allocB rfl _ rfl PasZ run_allocPas ?_; intro x6 g hG hg6 e6; have hg0 := Nat.le_trans (Below.size hk_.has) hg6; have hk6 := HoldT.step hstab hk_ e6; have e6' : Ext _ x6 := e6)
            | (refine wpList_store_row rfl 70 (.tmp 20) _ rfl g #[.slice aE RUN.es.length cE, .int .u64 RUN.p.c, .int .u64 RUN.p.s] _ _ rfl rfl (exBl hG) rfl info_pas (one_pas _ _ _ _ _) ?_; intro x7 hg7 hs7 hR7
               have hwg : w.heap.size ≤ g := Nat.le_trans (Below.size (Ext.tr hbel2 HX.out)) hg0
               have hbel7 : Ext wr x7 := ext_row hk_.has hg7 hg0
               have hk7 : HoldT (fun u => Ext wr u) w x7 := ⟨hbel7, ext_row hk_.up hg7 hwg⟩
               have hO7 := (hE5.ext (w := x5)).grownT hg7 (RowT.blk (exBl hG)) (by decide) (by decide) (fun _ _ => Nat.zero_le _)
               clear hs7))
               refine phPost_hold (by first | with_reducible assumption | exact HoldT.alloc hstab (by with_reducible assumption) _ | exact HoldT.alloc hstab (HoldT.alloc hstab (by with_reducible assumption) _) _) ?_
               intro hk_))
          all_goals (
            have hq7 : x7.cell? ⟨g, 0, none⟩ = some (.slice aE RUN.es.length cE) := by rw [hR7.cell]; rfl
            have ho7 : x7.cell? ⟨bO, oO + m, none⟩ = some (.slice ao od.length co) := (Below.cell (Ext.tr HX.out hbel7) (World.block_lt_of_cell? w _ HCO.out)).trans HCO.out
            have hgl := Blk.lt hR7
            go_wp2_with (first
              | (go_at_call 24; refine (HRO.out _ (Ext.tr HX.out hbel7)).mono ?_; rintro e x9 ⟨rfl, hb8⟩; have e9 : Ext x7 x9 := hb8; have hq8 : x9.cell? ⟨g, 0, none⟩ = some (.slice aE RUN.es.length cE) := (Below.cell e9 hgl).trans hq7)
              | (at_builtin; refine appL (W := w) (B := 0) rfl _ _ rfl (Nat.zero_le _) _ LSM rfl (HLS2.out.ext (Ext.tr hbel7 (Ext.tr e9 (Ext.alloc _ _)))) (.slice (some ⟨x9.heap.size, 0, none⟩) 1 1) [RUN.es] rfl (SlR.lit1 (R := entsR) (y := RUN.es) (w := x9) (c := [.slice aE RUN.es.length cE]) ⟨_, rfl, hO7.sl.ext e9⟩) (by have := HLN.out; simp only [List.length_cons, List.length_nil]; omega) (Ext.tr HX.out (Ext.tr hbel7 (Ext.tr e9 (Ext.alloc _ _)))) ?_; intro v10 w10 hown10 hg10 hb10
                 have hO10 := ((hO7.ext e9).ext (Ext.alloc _ _)).grownT hg10 (HLS2.out.ext (Ext.tr hbel7 (Ext.tr e9 (Ext.alloc _ _)))).row (by decide) (by decide) (fun _ _ => Nat.zero_le _)))
            go_roundw
            case rel => exact ⟨m + 1, rfl, by omega, by rw [HSU.out]; exact hO10.sl, by rw [HSV.out]; exact hown10, by rw [HPN.out], hb10⟩
            case measure => (simp [intOf] <;> omega))
      · have hl : ((od.length : Int) == (N : Int)) = false := by rw [beq_eq_false_iff_ne]; omega
        have HPN := Lib.hid (hpos2 (fun h => hlen h.1))
        clear hpos1 hpos2 hlen
        go_wp2_with fail
        have hstab := stabE wr
        have hkH : HoldT (fun u => Ext wr u) w wr.drew := HoldT.drew hstab ⟨Ext.refl _, Ext.tr hbel2 HX.out⟩
        try change Code.wp _ _ _ (Act.mk _ _) _
        haveI hne_ : Nonempty (InC (fun u => Ext wr u)) := ⟨⟨_, (hkH).1⟩⟩
        refine wp_region_tr (C := fun w_ => ∃ e_ : InC (fun u => Ext wr u), w_ = e_.u) (.step [0, 1, 2, 3, 4, 5, 6, 7, 8, 9, 10, 11, 12, 13, 14] (.alt 15 (.step [16, 17, 18] (.alt 19 (.step [] (.alt 20 (.fin [21]) .nil)) .nil)) (.alt 19 (.step [] (.alt 15 (.step [16, 17, 18] (.alt 20 (.fin [21]) .nil)) .nil)) .nil))) (by kernel_rfl) (by kernel_rfl) (fun _ _ _ _ hd_ h_ => ⟨hd_.symm.trans h_.1, h_.2⟩) ⟨⟨World.drew _, (hkH).1⟩, rfl⟩ ?_
        have hk_ := hkH
        repeat' (first
          | ((with_reducible refine wpTr_fin ?_)
             simp only [pickOps, List.flatMap_cons, List.flatMap_nil, List.drop_succ_cons, List.drop_zero, List.take_succ_cons, List.take_zero, List.cons_append, List.nil_append, List.append_nil]
             repeat (first | (first | (refine wpQuiet_load_mid rfl 54 (.tmp 53) rfl bS (oS + m * 3) rfl s.cells _ (fun w_ hw_ => by obtain ⟨e_, rfl⟩ := hw_; exact range_below HRS.out (Ext.tr HX.out e_.has)) Tryz.underlying54 rfl info_sec ?_; simp only [Act.put, List.setIfInBounds_toArray, List.set_cons_succ, List.set_cons_zero]) | (refine wpQuiet_load_mid rfl 60 (.tmp 57) rfl bP (oP + m * 10) rfl p.cells _ (fun w_ hw_ => by obtain ⟨e_, rfl⟩ := hw_; exact range_below HRP.out (Ext.tr HX.out e_.has)) Tryz.underlying60 rfl info_pub ?_; simp only [Act.put, List.setIfInBounds_toArray, List.set_cons_succ, List.set_cons_zero])) | go_big_quiet_step (exact rfl))
             refine wpQuiet_nil ?_)
          | ((with_reducible refine wpTr_step ?_); simp only [pickOps, List.flatMap_cons, List.flatMap_nil, List.drop_succ_cons, List.drop_zero, List.take_succ_cons, List.take_zero, List.cons_append, List.nil_append, List.append_nil]; repeat (first | (first | (refine wpQuiet_load_mid rfl 54 (.tmp 53) rfl bS (oS + m * 3) rfl s.cells _ (fun w_ hw_ => by obtain ⟨e_, rfl⟩ := hw_; exact range_below HRS.out (Ext.tr HX.out e_.has)) Tryz.underlying54 rfl info_sec ?_; simp only [Act.put, List.setIfInBounds_toArray, List.set_cons_succ, List.set_cons_zero]) | (refine wpQuiet_load_mid rfl 60 (.tmp 57) rfl bP (oP + m * 10) rfl p.cells _ (fun w_ hw_ => by obtain ⟨e_, rfl⟩ := hw_; exact range_below HRP.out (Ext.tr HX.out e_.has)) Tryz.underlying60 rfl info_pub ?_; simp only [Act.put, List.setIfInBounds_toArray, List.set_cons_succ, List.set_cons_zero])) | go_big_quiet_step (exact rfl))
             refine wpQuiet_nil ?_)
          | (with_reducible refine wpTr_one ?_)
          | (with_reducible refine wpTr_alt ?_ ?_)
          | (simp only [pickOps, List.flatMap_cons, List.flatMap_nil, List.drop_succ_cons, List.drop_zero, List.take_succ_cons, List.take_zero, List.cons_append, List.nil_append, List.append_nil]
             go_wp2_with (first
          | (go_at_call 27; refine (HHO.out _ hk_.has).mono ?_; rintro r_ x5 ⟨vE, vB, rfl, hE5, hB5, e5⟩; have hE5 := hE5.mono (Nat.le_refl 0) (Below.size hk_.has); obtain ⟨aE, cE, rfl, -, -⟩ := hE5.form; have hk5 := HoldT.step hstab hk_ e5; have e5' : Ext _ x5 := e5)
          | (refine wpList_allocB rfl _ rfl PasZ run_allocPas ?_; intro x6 g hG hg6 e6; have hg0 := Nat.le_trans (Below.size hk_.has) hg6; have hk6 := HoldT.step hstab hk_ e6; have e6' : Ext _ x6 := e6)
          | (refine wpList_store_row rfl 70 (.tmp 20) _ rfl g #[.slice aE RUN.es.length cE, .int .u64 RUN.p.c, .int .u64 RUN.p.s] _ _ rfl rfl (exBl hG) rfl info_pas (one_pas _ _ _ _ _) ?_; intro x7 hg7 hs7 hR7
             have hwg : w.heap.size ≤ g := Nat.le_trans (Below.size (Ext.tr hbel2 HX.out)) hg0
             have hbel7 : Ext wr x7 := ext_row hk_.has hg7 hg0
             have hk7 : HoldT (fun u => Ext wr u) w x7 := ⟨hbel7, ext_row hk_.up hg7 hwg⟩
             have hO7 := (hE5.ext (w := x5)).grownT hg7 (RowT.blk (exBl hG)) (by decide) (by decide) (fun _ _ => Nat.zero_le _)
             clear hs7))
             refine phPost_hold (by first | with_reducible assumption | exact HoldT.alloc hstab (by with_reducible assumption) _ | exact HoldT.alloc hstab (HoldT.alloc hstab (by with_reducible assumption) _) _) ?_
             intro hk_))
        all_goals (
          have hq7 : x7.cell? ⟨g, 0, none⟩ = some (.slice aE RUN.es.length cE) := by rw [hR7.cell]; rfl
          have ho7 : x7.cell? ⟨bO, oO + m, none⟩ = some (.slice ao od.length co) := (Below.cell (Ext.tr HX.out hbel7) (World.block_lt_of_cell? w _ HCO.out)).trans HCO.out
          have e9 : Ext x7 x7 := Ext.refl _
          go_wp2_with (first
            | (at_builtin; refine appL (W := w) (B := 0) rfl _ _ rfl (Nat.zero_le _) _ LSM rfl (HLS2.out.ext (Ext.tr hbel7 (Ext.alloc _ _))) (.slice (some ⟨x7.heap.size, 0, none⟩) 1 1) [RUN.es] rfl (SlR.lit1 (R := entsR) (y := RUN.es) (w := x7) (c := [.slice aE RUN.es.length cE]) ⟨_, rfl, hO7.sl⟩) (by have := HLN.out; simp only [List.length_cons, List.length_nil]; omega) (Ext.tr HX.out (Ext.tr hbel7 (Ext.alloc _ _))) ?_; intro v10 w10 hown10 hg10 hb10
               have hO10 := (hO7.ext (Ext.alloc _ _)).grownT hg10 (HLS2.out.ext (Ext.tr hbel7 (Ext.alloc _ _))).row (by decide) (by decide) (fun _ _ => Nat.zero_le _)))
          go_roundw
          case rel => exact ⟨m + 1, rfl, by omega, by rw [HSU.out]; exact hO10.sl, by rw [HSV.out]; exact hown10, by rw [HPN.out], hb10⟩
          case measure => (simp [intOf] <;> omega))
    · obtain rfl : m = H := by omega
      go_wp2_with fail
      go_ret2
      exact ⟨_, rfl, HLS2.out, HX.out⟩
end Go.Proofs.YtnmniblaefjekaaGreat
