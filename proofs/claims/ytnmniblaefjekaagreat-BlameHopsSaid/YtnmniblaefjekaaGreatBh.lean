/-
  BlameHops: walked.
-/
import Derived.Test.YtnmniblaefjekaaGreatMade
import Derived.Test.YtnmniblaefjekaaGreatHop3
import Derived.Test.YtnmniblaefjekaaGreatHon2
import Derived.Test.YtnmniblaefjekaaGreatBl8
import Derived.Test.YtnmniblaefjekaaGreatBfa
namespace Go.Proofs.YtnmniblaefjekaaGreat
set_option linter.unusedVariables false
set_option linter.unusedSimpArgs false
open Go Go.RowKit

theorem info_lst3 : (Tryz.prog.info? 55).map (fun i => (i.zero, i.size, i.bytes)) = some (some (.slice none 0 0), 1, 24) := by kernel_rfl
theorem info_stp3 : (Tryz.prog.info? 57).map (fun i => (i.zero, i.size, i.bytes)) = some (some (.agg StpZ), 8, 80) := by kernel_rfl
theorem appL {W w : World} {ops : Array Oper} {rest : List Oper} {o : Oper} {a : Act} {Q : Exit → Act → World → Prop} (hgd : o.guard = none) (s x : Operand)
    (ho : o.op = .call { callee := .builtin .append, args := #[s, x], argTypes := #[48, 48] })
    {B : Nat} (hBW : B ≤ W.heap.size) (v : Value) (l : List (List Ent)) (hs : a.eval s = v) (hown : OwR entsR B W.heap.size w v l) (vx : Value) (l' : List (List Ent)) (hx : a.eval x = vx) (hsee : SlR entsR B w vx l')
    (hl : l.length + l'.length ≤ 1000000000) (hW : Below W.heap.size W w)
    (h : ∀ v' w', OwR entsR B W.heap.size w' v' (l ++ l') → w.grownBy w' v.ownBlock → Below W.heap.size W w' → wpList Tryz.prog ops Q rest (a.put o.dst v') w') : wpList Tryz.prog ops Q (o :: rest) a w :=
  appR entsR hgd s x 48 ho Tryz.underlying48 info_lst3 rfl (by decide) (by decide) hBW v l hs hown vx l' hx hsee hl hW h
theorem appT {W w : World} {ops : Array Oper} {rest : List Oper} {o : Oper} {a : Act} {Q : Exit → Act → World → Prop} (hgd : o.guard = none) (s x : Operand)
    (ho : o.op = .call { callee := .builtin .append, args := #[s, x], argTypes := #[61, 61] })
    {B : Nat} (hBW : B ≤ W.heap.size) (v : Value) (l : List Stp) (hs : a.eval s = v) (hown : OwR stpR B W.heap.size w v l) (vx : Value) (l' : List Stp) (hx : a.eval x = vx) (hsee : SlR stpR B w vx l')
    (hl : l.length + l'.length ≤ 1000000000) (hW : Below W.heap.size W w)
    (h : ∀ v' w', OwR stpR B W.heap.size w' v' (l ++ l') → w.grownBy w' v.ownBlock → Below W.heap.size W w' → wpList Tryz.prog ops Q rest (a.put o.dst v') w') : wpList Tryz.prog ops Q (o :: rest) a w :=
  appR stpR hgd s x 61 ho Tryz.underlying61 info_stp3 rfl (by decide) (by decide) hBW v l hs hown vx l' hx hsee hl hW h
/-- A literal of one. -/
theorem OwR.lit1 {α : Type} {R : Rp α} {B B0 : Nat} {w : World} {c : List Value} {y : α} (h : R.rel B w c y) (hB : B0 ≤ w.heap.size) : OwR R B B0 (w.alloc (.cells c.toArray R.ty)) (.slice (some ⟨w.heap.size, 0, none⟩) 1 1) [y] := by
  refine ⟨[c], ElR.one_of (R.keep h ((Ext.alloc w _).same _ _)), ?_⟩
  have hc := R.len h
  refine ⟨by simp [hc], .inr ⟨w.heap.size, 1, c.toArray, rfl, hB, Blk.new _ _ _, Nat.le_refl _, by decide, by simp [hc], ?_⟩⟩
  simp [hc, List.take_of_length_le]
/-- A literal of one step. -/
def Ph.slT (t : Stp) : Ph Ext := ⟨fun v u => (∃ g, v = .slice (some ⟨g, 0, none⟩) 1 1) ∧ SlR stpR 0 u v [t], fun _ _ _ h e => ⟨h.1, h.2.ext e⟩⟩
set_option maxRecDepth 100000 in
set_option maxHeartbeats 8000000 in
theorem BlameHops_any (seed : List UInt8) (k n h at_ from_ dr : Int) (w : World) (h32 : seed.length = 32) (hk : inI k) (hn : inI n) (hpl : inI h) (hat : inI at_) (hf : in64 from_) (hdr : in64 dr) :
    Calls Tryz.prog 6 #[.agg (keyA seed), .int .i64 k, .int .i64 n, .int .i64 h, .int .i64 at_, .int .u64 from_, .int .u64 dr] w fun e w' => e = .returned (.bool true) ∧ Below w.heap.size w w' := by
  have HK := Lib.hid h32; clear h32
  have HKI := Lib.hid hk
  obtain ⟨k0, k1⟩ := hk
  obtain ⟨n0, n1⟩ := hn
  obtain ⟨p0, p1⟩ := hpl
  obtain ⟨t0, t1⟩ := hat
  have hk0 := Lib.hid (Blk.new w (keyA seed) 23)
  have hb0 := Lib.hid (show Below w.heap.size w (w.alloc (.cells (keyA seed) 23)) by go_grown)
  by_cases hr : 1 ≤ k ∧ k ≤ 6
  · have HD := Lib.hid (decide_eq_true hr)
    by_cases hg : (1 ≤ n ∧ n ≤ 6) ∧ (0 ≤ h ∧ h < k) ∧ (0 ≤ at_ ∧ at_ < n)
    · obtain ⟨⟨g1, g2⟩, ⟨g3, g4⟩, g5, g6⟩ := hg
      obtain ⟨K, rfl⟩ : ∃ K : Nat, k = K := ⟨k.toNat, by omega⟩
      obtain ⟨N, rfl⟩ : ∃ N : Nat, n = N := ⟨n.toNat, by omega⟩
      obtain ⟨PL, rfl⟩ : ∃ P : Nat, h = P := ⟨h.toNat, by omega⟩
      obtain ⟨A, rfl⟩ : ∃ A : Nat, at_ = A := ⟨at_.toNat, by omega⟩
      have hd1 : ¬ (N : Int) < 1 := by omega
      have hd2 : ¬ (6 : Int) < (N : Int) := by omega
      have hd3 : decide ((PL : Int) < 0) = false := decide_eq_false (by omega)
      have hd4 : decide (K ≤ PL) = false := decide_eq_false (by omega)
      have hd5 : decide ((A : Int) < 0) = false := decide_eq_false (by omega)
      have hd6 : decide (N ≤ A) = false := decide_eq_false (by omega)
      have hLS := length_keysSL seed 3 4 (K : Int).toNat
      have hSO := keysSL_ok seed 3 4 (K : Int).toNat
      have hPO : ∀ p ∈ keysP seed 3 4 (K : Int).toNat, p.ok := chainN_ok _ _ _
      have hRR := fun (u : World) => LChain_any seed K u HK.out HKI.out
      unfold RetC at hRR
      rw [show keysP seed 3 4 (K : Int).toNat = chainL (keysSL seed 3 4 (K : Int).toNat) (keysDL seed 3 4 (K : Int).toNat) from rfl] at hPO hRR
      generalize keysDL seed 3 4 (K : Int).toNat = dd at *
      generalize keysSL seed 3 4 (K : Int).toNat = ss at *
      rw [Int.toNat_natCast] at hLS
      have hLP : (chainL ss dd).length = K := by rw [length_chainL]; exact hLS
      have HRR := Lib.hid hRR; have HLS := Lib.hid hLS; have HLP := Lib.hid hLP; have HSO := Lib.hid hSO; have HPO := Lib.hid hPO
      have HPU := Lib.hid fun i s p (h1 : ss[i]? = some s) (h2 : (chainL ss dd)[i]? = some p) => pubOf_chain hSO h1 h2
      have HLV := Lib.hid fun (O : Nat → List Int) (i : Nat) (hi : i ≤ K) => lev_good (draw := from_) (O := O) hSO (show ss.length ≤ 1000 by omega) (show K ≤ ss.length by omega) (made_good (ss := ss) (dd := dd) (H := K) (from_ := from_) N) i hi
      have HGR := Lib.hid fun (i : Nat) (es : List Ent) (s : Sec) (h : ∀ e ∈ es, Good ss dd K i e) (hi : i < K) (hs : ss[i]? = some s) (p : Pub) (od : List Int) => good_run h hi hs hSO (show ss.length ≤ 1000 by omega) p od from_
      have HGK := Lib.hid fun (i : Nat) (e : Ent) (h : Good ss dd K i e) => (show e.ok ∧ e.box.length ≤ 20000000000000 from ⟨⟨Int.le_of_lt (h.ok hSO).1, Int.lt_trans (h.ok hSO).2 (by decide)⟩, Nat.le_trans (h.len (show ss.length ≤ 1000 by omega)) (by decide)⟩)
      have HOPN := Lib.hid fun (i : Nat) (e : Ent) (s : Sec) (h : Good ss dd K i e) (hi : i < K) (hs : ss[i]? = some s) => h.open hi hs hSO (show ss.length ≤ 1000 by omega)
      have HMD := Lib.hid fun (w' : World) (v : Value) (h : SeesP w' v (chainL ss dd)) => Made19_any (chainL ss dd) N from_ v w' h hPO (by omega) (by omega) (by omega) hf
      clear hRR hLS hLP hSO hPO
      generalize hPS : chainL ss dd = ps at *
      clear hPS
      have hPLK : PL < K := by omega
      obtain ⟨sP, hsP⟩ : ∃ s, ss[PL]? = some s := ⟨_, List.getElem?_eq_getElem (by rw [HLS.out]; exact hPLK)⟩
      obtain ⟨pP, hpP⟩ : ∃ p, ps[PL]? = some p := ⟨_, List.getElem?_eq_getElem (by rw [HLP.out]; exact hPLK)⟩
      have HSP := Lib.hid hsP; have HPP := Lib.hid hpP
      clear hsP hpP
      go_enter Tryz.func6, Tryz.ntmps6
      go_wp2_with (first
        | (go_at_call 20; refine (alive20_any _).mono ?_; rintro e w1 ⟨rfl, hb1⟩; have hkey1 := hk0.out.below hb1; have hbel1 := hb0.out.trans (hb1.mono hb0.out.size))
        | (refine wpList_load_row rfl 23 _ rfl w.heap.size rfl _ (keyA seed) (0, 0) _ hkey1 under_key rfl (by rw [keyA_size, HK.out]; exact info_key) ?_)
        | (go_at_call 10; refine (HRR.out _).mono ?_; rintro e w2 ⟨v2, u2, rfl, hok2, hb2⟩; rw [HD.out]; have hbel2 : Ext w w2 := hbel1.trans (hb2.mono hbel1.size)
           have HS2 := Lib.hid (show SeesS w2 v2 ss from sees_of_owns (hok2 hr).1)
           have HP2 := Lib.hid (show SeesP w2 u2 ps from sees_of_owns (hok2 hr).2)
           have HPR := Lib.hid (show SlR pubR 0 w2 u2 ps from slP_own (hok2 hr).2)
           clear hok2)
        | (go_at_call 26; refine (HMD.out _ _ HP2.out).mono ?_; rintro e w3 ⟨v3, rfl, hown3, hb3⟩
           obtain ⟨a3, c3, rfl, -, -⟩ := hown3.sl.form
           have hbel3 : Ext w w3 := Ext.tr hbel2 hb3))
      rw [Int.toNat_natCast] at hown3
      obtain ⟨bS, oS, cS, rfl, -, -, -⟩ := seesS_open HS2.out (by rw [HLS.out]; omega)
      obtain ⟨bP, oP, cP, rfl, -, -, -⟩ := seesP_open HP2.out (by rw [HLP.out]; omega)
      have HSA := Lib.hid fun i s (h : ss[i]? = some s) => seesS_at HS2.out (by rw [HLS.out]; omega) i s h
      have HPA := Lib.hid fun i p (h : ps[i]? = some p) => seesP_at HP2.out (by rw [HLP.out]; omega) i p h
      have HB3 : Hid (Ext w2 w3) := Lib.hid hb3
      have HBL3 := Lib.hid hbel3
      have HOW3 := Lib.hid hown3
      clear hown3 hb3 hbel3 HMD HRR
      rw [HLS.out, HLP.out]
      have HDR := Lib.hid hdr
      go_loopw [19, 20, 21, 22, 23] (fun lv lsv i _ _ wr => ∃ m : Nat, i = .int .i64 m ∧ m ≤ PL ∧ SlR entR 0 wr lv (levN ss ps from_ (fun _ => []) (madeL ps from_ N) m) ∧ OwR entsR 0 w2.heap.size wr lsv (lvs (fun i => levN ss ps from_ (fun _ => []) (madeL ps from_ N) i) m) ∧ Ext w2 wr) (fun _ _ i _ _ _ => PL - (intOf i).toNat)
      case atStart => exact ⟨0, rfl, Nat.zero_le _, HOW3.out.sl.ext (Ext.alloc _ _), OwR.lit1 (R := entsR) (c := [_]) ⟨_, rfl, HOW3.out.sl⟩ (Below.size HB3.out), Ext.tr HB3.out (Ext.alloc _ _)⟩
      case round =>
        obtain ⟨m, rfl, hm, hlv, hls, hX⟩ := hrel
        have HX := Lib.hid hX
        obtain ⟨aL, cL, rfl, -, -⟩ := hlv.form
        obtain ⟨aLS, cLS, rfl, -, -⟩ := hls.sl.form
        have HL := Lib.hid hlv
        have HLS2 := Lib.hid hls
        clear hX hlv hls
        obtain ⟨hl1, hl2⟩ := HLV.out (fun _ => []) m (by omega)
        rw [length_madeL] at hl1
        by_cases hlt : m < PL
        · obtain ⟨s, hs⟩ : ∃ s, ss[m]? = some s := ⟨_, List.getElem?_eq_getElem (by rw [HLS.out]; omega)⟩
          obtain ⟨p, hp⟩ : ∃ p, ps[m]? = some p := ⟨_, List.getElem?_eq_getElem (by rw [HLP.out]; omega)⟩
          have HSU := Lib.hid (levN_succ (draw := from_) (O := fun _ => []) (l0 := madeL ps from_ N) hs hp)
          have HSV := Lib.hid (lvs_succ (fun i => levN ss ps from_ (fun _ => []) (madeL ps from_ N) i) m)
          rw [HSU.out] at HSV
          have HHO := Lib.hid fun (w' : World) (h : Ext wr w') => Hopr_any s p m _ [] from_ 0 _ (.slice none 0 0) w' (HSO.out s (List.mem_of_getElem? hs)) (HPO.out p (List.mem_of_getElem? hp)) hf (HL.out.ext h) (SlR.nil 0 _) (fun e he => HGK.out m e (hl2 e he)) (by rw [hl1]; omega) (by simp)
          have HRS := Lib.hid (HSA.out m s hs); have HRP := Lib.hid (HPA.out m p hp)
          unfold RetH at HHO
          have HLL := Lib.hid hl1
          have HLN := Lib.hid (length_lvs (fun i => levN ss ps from_ (fun _ => []) (madeL ps from_ N) i) m)
          clear hs hp hl1 hl2
          generalize lvs (fun i => levN ss ps from_ (fun _ => []) (madeL ps from_ N) i) m = LSM at *
          generalize levN ss ps from_ (fun _ => []) (madeL ps from_ N) m = LM at *
          generalize runL s p m LM [] from_ = RUN at *
          generalize failsL s m LM = FL at *
          have hdS : decide (K ≤ m) = false := decide_eq_false (by omega)
          go_wp2_with fail
          have hstab := stabE wr
          have hkH : HoldT (fun u => Ext wr u) w wr.drew := HoldT.drew hstab ⟨Ext.refl _, Ext.tr hbel2 HX.out⟩
          try change Code.wp _ _ _ (Act.mk _ _) _
          haveI hne_ : Nonempty (InC (fun u => Ext wr u)) := ⟨⟨_, (hkH).1⟩⟩
          refine wp_region_tr (C := fun w_ => ∃ e_ : InC (fun u => Ext wr u), w_ = e_.u) (.step [0, 1, 2, 3, 4, 5, 6, 7, 8, 9, 10] (.alt 11 (.step [12, 13, 14] (.alt 15 (.step [] (.alt 16 (.fin [17]) .nil)) .nil)) (.alt 15 (.step [] (.alt 11 (.step [12, 13, 14] (.alt 16 (.fin [17]) .nil)) .nil)) .nil))) (by kernel_rfl) (by kernel_rfl) (fun _ _ _ _ hd_ h_ => ⟨hd_.symm.trans h_.1, h_.2⟩) ⟨⟨World.drew _, (hkH).1⟩, rfl⟩ ?_
          have hk_ := hkH
          repeat' (first
            | ((with_reducible refine wpTr_fin ?_)
               simp only [pickOps, List.flatMap_cons, List.flatMap_nil, List.drop_succ_cons, List.drop_zero, List.take_succ_cons, List.take_zero, List.cons_append, List.nil_append, List.append_nil]
               repeat (first | (first | (refine wpQuiet_load_mid rfl 54 (.tmp 81) rfl bS (oS + m * 3) rfl s.cells _ (fun w_ hw_ => by obtain ⟨e_, rfl⟩ := hw_; exact range_below HRS.out (Ext.tr HX.out e_.has)) Tryz.underlying54 rfl info_sec ?_; simp only [Act.put, List.setIfInBounds_toArray, List.set_cons_succ, List.set_cons_zero]) | (refine wpQuiet_load_mid rfl 60 (.tmp 85) rfl bP (oP + m * 10) rfl p.cells _ (fun w_ hw_ => by obtain ⟨e_, rfl⟩ := hw_; exact range_below HRP.out (Ext.tr HX.out e_.has)) Tryz.underlying60 rfl info_pub ?_; simp only [Act.put, List.setIfInBounds_toArray, List.set_cons_succ, List.set_cons_zero])) | go_big_quiet_step (exact rfl))
               refine wpQuiet_nil ?_)
            | ((with_reducible refine wpTr_step ?_); simp only [pickOps, List.flatMap_cons, List.flatMap_nil, List.drop_succ_cons, List.drop_zero, List.take_succ_cons, List.take_zero, List.cons_append, List.nil_append, List.append_nil]; repeat (first | (first | (refine wpQuiet_load_mid rfl 54 (.tmp 81) rfl bS (oS + m * 3) rfl s.cells _ (fun w_ hw_ => by obtain ⟨e_, rfl⟩ := hw_; exact range_below HRS.out (Ext.tr HX.out e_.has)) Tryz.underlying54 rfl info_sec ?_; simp only [Act.put, List.setIfInBounds_toArray, List.set_cons_succ, List.set_cons_zero]) | (refine wpQuiet_load_mid rfl 60 (.tmp 85) rfl bP (oP + m * 10) rfl p.cells _ (fun w_ hw_ => by obtain ⟨e_, rfl⟩ := hw_; exact range_below HRP.out (Ext.tr HX.out e_.has)) Tryz.underlying60 rfl info_pub ?_; simp only [Act.put, List.setIfInBounds_toArray, List.set_cons_succ, List.set_cons_zero])) | go_big_quiet_step (exact rfl))
               refine wpQuiet_nil ?_)
            | (with_reducible refine wpTr_one ?_)
            | (with_reducible refine wpTr_alt ?_ ?_)
            | (simp only [pickOps, List.flatMap_cons, List.flatMap_nil, List.drop_succ_cons, List.drop_zero, List.take_succ_cons, List.take_zero, List.cons_append, List.nil_append, List.append_nil]
               go_wp2_with (first
            | (go_at_call 27; refine (HHO.out _ hk_.has).mono ?_; rintro r_ x5 ⟨vE, vB, rfl, hE5, hB5, e5⟩; obtain ⟨aE, cE, rfl, -, -⟩ := hE5.form; have hk5 := HoldT.step hstab hk_ e5; have e5' : Ext _ x5 := e5)
            | (refine wpList_allocB rfl _ rfl PasZ run_allocPas ?_; intro x6 g hG hg6 e6; have hg0 := Nat.le_trans (Below.size hk_.has) hg6; have hk6 := HoldT.step hstab hk_ e6; have e6' : Ext _ x6 := e6)
            | (refine wpList_store_row rfl 70 (.tmp 22) _ rfl g #[.slice aE RUN.es.length cE, .int .u64 RUN.p.c, .int .u64 RUN.p.s] _ _ rfl rfl (exBl hG) rfl info_pas (one_pas _ _ _ _ _) ?_; intro x7 hg7 hs7 hR7
               have hwg : w.heap.size ≤ g := Nat.le_trans (Below.size (Ext.tr hbel2 HX.out)) hg0
               have hbel7 : Ext wr x7 := ext_row hk_.has hg7 hg0
               have hk7 : HoldT (fun u => Ext wr u) w x7 := ⟨hbel7, ext_row hk_.up hg7 hwg⟩
               have hO7 := (hE5.ext (w := x5)).grownT hg7 (RowT.blk (exBl hG)) (by decide) (by decide) (fun _ _ => Nat.zero_le _)
               clear hs7))
               refine phPost_hold (by first | with_reducible assumption | exact HoldT.alloc hstab (by with_reducible assumption) _ | exact HoldT.alloc hstab (HoldT.alloc hstab (by with_reducible assumption) _) _) ?_
               intro hk_))
          all_goals (
            have hq7 : x7.cell? ⟨g, 0, none⟩ = some (.slice aE RUN.es.length cE) := by rw [hR7.cell]; rfl
            go_wp2_with (first
              | (at_builtin; refine appL (W := w2) (B := 0) rfl _ _ rfl (Nat.zero_le _) _ LSM rfl (HLS2.out.ext (Ext.tr hbel7 (Ext.alloc _ _))) (.slice (some ⟨x7.heap.size, 0, none⟩) 1 1) [RUN.es] rfl (SlR.lit1 (R := entsR) (y := RUN.es) (w := x7) (c := [.slice aE RUN.es.length cE]) ⟨_, rfl, hO7.sl⟩) (by have := HLN.out; simp only [List.length_cons, List.length_nil]; omega) (Ext.tr HX.out (Ext.tr hbel7 (Ext.alloc _ _))) ?_; intro v8 w8 hown8 hg8 hb8
                 have hO8 := (hO7.ext (Ext.alloc _ _)).grownT hg8 (HLS2.out.ext (Ext.tr hbel7 (Ext.alloc _ _))).row (by decide) (by decide) (fun _ _ => Nat.zero_le _)))
            go_roundw
            case rel => exact ⟨m + 1, rfl, by omega, by rw [HSU.out]; exact hO8.sl, by rw [HSV.out]; exact hown8, hb8⟩
            case measure => (simp [intOf] <;> omega))
        · obtain rfl : m = PL := by omega
          have hF : ∀ i : Nat, ∃ t : Sec × Pub × Ent, i ≤ m → ss[i]? = some t.1 ∧ ps[i]? = some t.2.1 ∧ (levN ss ps from_ (fun _ => []) (madeL ps from_ N) i)[A]? = some t.2.2 := by
            intro i
            by_cases hi : i ≤ m
            · obtain ⟨s, hs⟩ : ∃ s, ss[i]? = some s := ⟨_, List.getElem?_eq_getElem (by rw [HLS.out]; omega)⟩
              obtain ⟨p, hp⟩ : ∃ p, ps[i]? = some p := ⟨_, List.getElem?_eq_getElem (by rw [HLP.out]; omega)⟩
              obtain ⟨g1, g2⟩ := HLV.out (fun _ => []) i (by omega)
              rw [length_madeL] at g1
              obtain ⟨e, he⟩ : ∃ e, (levN ss ps from_ (fun _ => []) (madeL ps from_ N) i)[A]? = some e := ⟨_, List.getElem?_eq_getElem (by rw [g1]; omega)⟩
              exact ⟨(s, p, e), fun _ => ⟨hs, hp, he⟩⟩
            · exact ⟨(sP, pP, ⟨0, []⟩), fun h => absurd h hi⟩
          obtain ⟨F, hF⟩ := Classical.axiomOfChoice hF
          have hEO := fun (i : Nat) (hi : i ≤ m) => (show (F i).2.2.ok ∧ (F i).2.2.box.length ≤ 20000000000000 from HGK.out i _ ((HLV.out (fun _ => []) i (by omega)).2 _ (List.mem_of_getElem? (hF i hi).2.2)))
          have hd1' := (show in64 (IntKind.u64.wrap (dr + 1)) from by rw [IntKind.wrap_u64]; exact ⟨Int.emod_nonneg _ (by decide), Int.emod_lt_of_pos _ (by decide)⟩)
          generalize hd1e : IntKind.u64.wrap (dr + 1) = dr1 at hd1'
          obtain ⟨out, hopen, -⟩ := HOPN.out m _ _ ((HLV.out (fun _ => []) m (by omega)).2 _ (List.mem_of_getElem? (hF m (Nat.le_refl _)).2.2)) hPLK (hF m (Nat.le_refl _)).1
          generalize hAT : (fun i : Nat => answerL (F i).1 (F i).2.1 A (F i).2.2 dr dr1) = AT
          have hATi := fun i : Nat => congrFun hAT i
          have hlaw := blamed_hop (ps := ps) (lists := lvs (fun i => levN ss ps from_ (fun _ => []) (madeL ps from_ N) i) m) (steps := lvs (fun j => AT (m - j)) m) (length_lvs _ _) (lvs_get _ (Nat.le_refl _)) (hF m (Nat.le_refl _)).2.1 (hF m (Nat.le_refl _)).2.2 (by rw [lvs_get _ (Nat.zero_le _), Nat.sub_zero, ← hATi]) hopen
          obtain ⟨bT, oT, cT, e1, -, -⟩ := HLS2.out.sl.open (by rw [length_lvs]; omega)
          obtain ⟨rfl, rfl⟩ : aLS = some ⟨bT, oT, none⟩ ∧ cLS = cT := by injection e1 with e1 _ e3; exact ⟨e1, e3⟩
          clear e1
          have hPL := fun (i : Nat) (hi : i ≤ m) => (show ∃ bi oi ci a0 c0, wr.rangeAt bT (oT + i) [.slice (some ⟨bi, oi, none⟩) N ci] ∧ wr.rangeAt bi (oi + A * 2) [.int .u64 (F i).2.2.x, .slice a0 (F i).2.2.box.length c0] ∧ SlR byteR 0 wr (.slice a0 (F i).2.2.box.length c0) (F i).2.2.box by
            obtain ⟨ch, ⟨v, rfl, hv⟩, _, hr⟩ := HLS2.out.sl.at i _ (lvs_get _ hi)
            obtain ⟨g1, _⟩ := HLV.out (fun _ => []) i (by omega)
            rw [length_madeL] at g1
            obtain ⟨bi, oi, ci, rfl, -, -⟩ := hv.open (by rw [g1]; omega)
            rw [g1] at hr hv
            obtain ⟨v0, h1, h2⟩ := slE_atR hv A _ (hF i hi).2.2
            obtain ⟨a0, c0, rfl, -, -⟩ := h2.form
            exact ⟨bi, oi, ci, a0, c0, by rw [show entsR.sz = 1 from rfl, Nat.mul_one] at hr; exact hr, h1, h2⟩)
          have hSOK := fun (i : Nat) (hi : i ≤ m) => HSO.out _ (List.mem_of_getElem? (hF i hi).1)
          have hPOK := fun (i : Nat) (hi : i ≤ m) => HPO.out _ (List.mem_of_getElem? (hF i hi).2.1)
          have hAN := fun (i : Nat) (hi : i ≤ m) (ve : Value) (w' : World) (h : SeesB w' ve (F i).2.2.box) => BAnswer_any (F i).1 (F i).2.1 A (F i).2.2 dr dr1 ve w' (hSOK i hi) (hPOK i hi) (hEO i hi).1 HDR.out hd1' h (hEO i hi).2
          have hATj : ∀ i : Nat, answerL (F i).1 (F i).2.1 A (F i).2.2 dr dr1 = AT i := hATi
          simp only [hATj] at hAN
          have HAN := Lib.hid hAN
          clear hAN hATj
          have HALO := Lib.hid fun (i : Nat) (hi : i ≤ m) => (show (AT i).ok by rw [← hATi i]; exact answerL_ok (by omega) (hEO i hi).1)
          have HATE := Lib.hid fun (i : Nat) => (show (AT i).e = (F i).2.2 by rw [← hATi i]; rfl)
          have HATB := Lib.hid hATi
          have HRS := Lib.hid fun (i : Nat) (hi : i ≤ m) => HSA.out i _ (hF i hi).1
          have HRP := Lib.hid fun (i : Nat) (hi : i ≤ m) => HPA.out i _ (hF i hi).2.1
          have HPLL := Lib.hid hPL
          have HLAW := Lib.hid hlaw
          have HD1 := Lib.hid hd1e
          have HPOK := Lib.hid hPOK
          have HEO := Lib.hid hEO
          clear hF hAT hlaw hPL hATi hopen hd1e hEO hSOK hPOK
          have hd1e := HD1.out
          rw [length_lvs]
          have HLSO := Lib.hid (show ∀ es ∈ lvs (fun i => levN ss ps from_ (fun _ => []) (madeL ps from_ N) i) m, es.length ≤ 1000000000 ∧ ∀ e ∈ es, e.ok ∧ e.box.length ≤ 20000000000000 from fun es he => by
            unfold lvs at he
            obtain ⟨i, hi, rfl⟩ := List.mem_map.1 he
            have hi := List.mem_range.1 hi
            obtain ⟨g1, g2⟩ := HLV.out (fun _ => []) i (by omega)
            rw [length_madeL] at g1
            exact ⟨by rw [g1]; omega, fun e he => HGK.out i e (g2 e he)⟩)
          generalize levN ss ps from_ (fun _ => []) (madeL ps from_ N) = LV at *
          obtain ⟨bi, oi, ci, a0, c0, hq1, hq2, hq3⟩ := HPLL.out m (Nat.le_refl _)
          have HQ1 := Lib.hid hq1; have HQ2 := Lib.hid hq2; have HQ3 := Lib.hid hq3
          have HAM := Lib.hid (HAN.out m (Nat.le_refl _))
          have HRM := Lib.hid (HRS.out m (Nat.le_refl _)); have HPM := Lib.hid (HRP.out m (Nat.le_refl _))
          clear hq1 hq2 hq3
          have hst := stabE wr
          have hk13 : HoldT (fun u => Ext wr u) w wr.drew := HoldT.drew hst ⟨Ext.refl _, Ext.tr hbel2 HX.out⟩
          have hdK : decide (K ≤ m) = false := decide_eq_false (by omega)
          have hdM : decide (m + 1 ≤ m) = false := decide_eq_false (by omega)
          have hdN : decide (N ≤ A) = false := decide_eq_false (by omega)
          go_wp2_with fail
          try change Code.wp _ _ _ (Act.mk _ _) _
          refine wp_region_runR Ext 20 157 (HoldT (fun u => Ext wr u) _) [[], [], [(0, 99), (1, 100)], [(2, 101)], [], [], [(4, 103), (5, 104)], [(6, 105)], [], [], [], [(9, 108), (10, 109)], [(11, 110)], [], [(12, 111), (13, 112)], [(14, 113)], [], [], [(17, 116)], [(3, 102), (7, 106), (8, 107), (15, 114), (16, 115), (18, 117)]] [(0, 99), (1, 100), (2, 101), (3, 102), (4, 103), (5, 104), (6, 105), (7, 106), (8, 107), (9, 108), (10, 109), (11, 110), (12, 111), (13, 112), (14, 113), (15, 114), (16, 115), (17, 116), (18, 117), (19, 118)] (by kernel_rfl) (by kernel_rfl) (by first | rfl | simp) (hk13) ?_
          simp only [List.take_succ_cons, List.take_zero, List.drop_succ_cons, List.drop_zero]
          refine sp_op (Ph.eq _) (fun u hu => by
            refine spArg_nil ?_
            have k0 : u.cell? ⟨bT, oT + m, none⟩ = some (.slice (some ⟨bi, oi, none⟩) N ci) := range_below HQ1.out hu.has 0 _ rfl
            go_wp2_with (fail)
            exact ⟨rfl, hu, Ext.refl _, slot_eq rfl⟩) ?_
          refine sp_op (Ph.eq _) (fun u hu => by
            refine spArg_nil ?_
            have k0 : u.cell? ⟨bT, oT + m, none⟩ = some (.slice (some ⟨bi, oi, none⟩) N ci) := range_below HQ1.out hu.has 0 _ rfl
            go_wp2_with (fail)
            exact ⟨rfl, hu, Ext.refl _, slot_eq rfl⟩) ?_
          refine sp_op (Ph.eq _) (fun u hu => by
            refine spArg_eq 1 rfl rfl ?_
            refine spArg_eq 0 rfl rfl ?_
            refine spArg_nil ?_
            simp only [Act.put, List.setIfInBounds_toArray, List.set_cons_succ, List.set_cons_zero]
            have k0 : u.cell? ⟨bT, oT + m, none⟩ = some (.slice (some ⟨bi, oi, none⟩) N ci) := range_below HQ1.out hu.has 0 _ rfl
            go_wp2_with (fail)
            exact ⟨rfl, hu, Ext.refl _, slot_eq rfl⟩) ?_
          refine sp_op (Ph.eq _) (fun u hu => by
            refine spArg_eq 0 rfl rfl ?_
            refine spArg_nil ?_
            simp only [Act.put, List.setIfInBounds_toArray, List.set_cons_succ, List.set_cons_zero]
            have k0 : u.cell? ⟨bT, oT + m, none⟩ = some (.slice (some ⟨bi, oi, none⟩) N ci) := range_below HQ1.out hu.has 0 _ rfl
            go_wp2_with ((refine wpList_load_midG rfl 54 _ rfl (bS) (oS + m * 3) rfl _ _ (range_below HRM.out (Ext.tr HX.out hu.has)) Tryz.underlying54 rfl (info_sec) ?_))
            exact ⟨rfl, hu, Ext.refl _, slot_eq rfl⟩) ?_
          refine sp_op (Ph.eq _) (fun u hu => by
            refine spArg_nil ?_
            have k0 : u.cell? ⟨bT, oT + m, none⟩ = some (.slice (some ⟨bi, oi, none⟩) N ci) := range_below HQ1.out hu.has 0 _ rfl
            go_wp2_with (fail)
            exact ⟨rfl, hu, Ext.refl _, slot_eq rfl⟩) ?_
          refine sp_op (Ph.eq _) (fun u hu => by
            refine spArg_nil ?_
            have k0 : u.cell? ⟨bT, oT + m, none⟩ = some (.slice (some ⟨bi, oi, none⟩) N ci) := range_below HQ1.out hu.has 0 _ rfl
            go_wp2_with (fail)
            exact ⟨rfl, hu, Ext.refl _, slot_eq rfl⟩) ?_
          refine sp_op (Ph.eq _) (fun u hu => by
            refine spArg_eq 1 rfl rfl ?_
            refine spArg_eq 0 rfl rfl ?_
            refine spArg_nil ?_
            simp only [Act.put, List.setIfInBounds_toArray, List.set_cons_succ, List.set_cons_zero]
            have k0 : u.cell? ⟨bT, oT + m, none⟩ = some (.slice (some ⟨bi, oi, none⟩) N ci) := range_below HQ1.out hu.has 0 _ rfl
            go_wp2_with (fail)
            exact ⟨rfl, hu, Ext.refl _, slot_eq rfl⟩) ?_
          refine sp_op (Ph.eq _) (fun u hu => by
            refine spArg_eq 0 rfl rfl ?_
            refine spArg_nil ?_
            simp only [Act.put, List.setIfInBounds_toArray, List.set_cons_succ, List.set_cons_zero]
            have k0 : u.cell? ⟨bT, oT + m, none⟩ = some (.slice (some ⟨bi, oi, none⟩) N ci) := range_below HQ1.out hu.has 0 _ rfl
            go_wp2_with ((refine wpList_load_midG rfl 60 _ rfl (bP) (oP + m * 10) rfl _ _ (range_below HPM.out (Ext.tr HX.out hu.has)) Tryz.underlying60 rfl (info_pub) ?_))
            exact ⟨rfl, hu, Ext.refl _, slot_eq rfl⟩) ?_
          refine sp_op (Ph.eq _) (fun u hu => by
            refine spArg_nil ?_
            have k0 : u.cell? ⟨bT, oT + m, none⟩ = some (.slice (some ⟨bi, oi, none⟩) N ci) := range_below HQ1.out hu.has 0 _ rfl
            go_wp2_with (fail)
            exact ⟨rfl, hu, Ext.refl _, slot_eq rfl⟩) ?_
          refine sp_op (Ph.eq _) (fun u hu => by
            refine spArg_nil ?_
            have k0 : u.cell? ⟨bT, oT + m, none⟩ = some (.slice (some ⟨bi, oi, none⟩) N ci) := range_below HQ1.out hu.has 0 _ rfl
            go_wp2_with (fail)
            exact ⟨rfl, hu, Ext.refl _, slot_eq rfl⟩) ?_
          refine sp_op (Ph.eq _) (fun u hu => by
            refine spArg_nil ?_
            have k0 : u.cell? ⟨bT, oT + m, none⟩ = some (.slice (some ⟨bi, oi, none⟩) N ci) := range_below HQ1.out hu.has 0 _ rfl
            go_wp2_with (fail)
            exact ⟨rfl, hu, Ext.refl _, slot_eq rfl⟩) ?_
          refine sp_op (Ph.eq _) (fun u hu => by
            refine spArg_eq 1 rfl rfl ?_
            refine spArg_eq 0 rfl rfl ?_
            refine spArg_nil ?_
            simp only [Act.put, List.setIfInBounds_toArray, List.set_cons_succ, List.set_cons_zero]
            have k0 : u.cell? ⟨bT, oT + m, none⟩ = some (.slice (some ⟨bi, oi, none⟩) N ci) := range_below HQ1.out hu.has 0 _ rfl
            go_wp2_with (fail)
            exact ⟨rfl, hu, Ext.refl _, slot_eq rfl⟩) ?_
          refine sp_op (Ph.eq _) (fun u hu => by
            refine spArg_eq 0 rfl rfl ?_
            refine spArg_nil ?_
            simp only [Act.put, List.setIfInBounds_toArray, List.set_cons_succ, List.set_cons_zero]
            have k0 : u.cell? ⟨bT, oT + m, none⟩ = some (.slice (some ⟨bi, oi, none⟩) N ci) := range_below HQ1.out hu.has 0 _ rfl
            go_wp2_with (fail)
            exact ⟨rfl, hu, Ext.refl _, slot_eq rfl⟩) ?_
          refine sp_op (Ph.eq _) (fun u hu => by
            refine spArg_nil ?_
            have k0 : u.cell? ⟨bT, oT + m, none⟩ = some (.slice (some ⟨bi, oi, none⟩) N ci) := range_below HQ1.out hu.has 0 _ rfl
            go_wp2_with (fail)
            exact ⟨rfl, hu, Ext.refl _, slot_eq rfl⟩) ?_
          refine sp_op (Ph.eq _) (fun u hu => by
            refine spArg_eq 1 rfl rfl ?_
            refine spArg_eq 0 rfl rfl ?_
            refine spArg_nil ?_
            simp only [Act.put, List.setIfInBounds_toArray, List.set_cons_succ, List.set_cons_zero]
            have k0 : u.cell? ⟨bT, oT + m, none⟩ = some (.slice (some ⟨bi, oi, none⟩) N ci) := range_below HQ1.out hu.has 0 _ rfl
            go_wp2_with (fail)
            exact ⟨rfl, hu, Ext.refl _, slot_eq rfl⟩) ?_
          refine sp_op (Ph.eq _) (fun u hu => by
            refine spArg_eq 0 rfl rfl ?_
            refine spArg_nil ?_
            simp only [Act.put, List.setIfInBounds_toArray, List.set_cons_succ, List.set_cons_zero]
            have k0 : u.cell? ⟨bT, oT + m, none⟩ = some (.slice (some ⟨bi, oi, none⟩) N ci) := range_below HQ1.out hu.has 0 _ rfl
            go_wp2_with ((refine wpList_load_midG rfl 32 _ rfl (bi) (oi + A * 2) rfl _ _ (range_below HQ2.out hu.has) Tryz.underlying32 rfl (info_entry) ?_))
            exact ⟨rfl, hu, Ext.refl _, slot_eq rfl⟩) ?_
          refine sp_op (Ph.eq _) (fun u hu => by
            refine spArg_nil ?_
            have k0 : u.cell? ⟨bT, oT + m, none⟩ = some (.slice (some ⟨bi, oi, none⟩) N ci) := range_below HQ1.out hu.has 0 _ rfl
            go_wp2_with (fail)
            exact ⟨rfl, hu, Ext.refl _, slot_eq rfl⟩) ?_
          refine sp_op (Ph.eq _) (fun u hu => by
            refine spArg_nil ?_
            have k0 : u.cell? ⟨bT, oT + m, none⟩ = some (.slice (some ⟨bi, oi, none⟩) N ci) := range_below HQ1.out hu.has 0 _ rfl
            go_wp2_with (fail)
            exact ⟨rfl, hu, Ext.refl _, slot_eq rfl⟩) ?_
          refine sp_op (Ph.eq _) (fun u hu => by
            refine spArg_eq 0 rfl rfl ?_
            refine spArg_nil ?_
            simp only [Act.put, List.setIfInBounds_toArray, List.set_cons_succ, List.set_cons_zero]
            have k0 : u.cell? ⟨bT, oT + m, none⟩ = some (.slice (some ⟨bi, oi, none⟩) N ci) := range_below HQ1.out hu.has 0 _ rfl
            go_wp2_with (fail)
            exact ⟨rfl, hu, Ext.refl _, slot_eq rfl⟩) ?_
          refine sp_op (Ph.map (fun v => .agg (stpC (AT m) v)) (Ph.ownB wr.heap.size (AT m).e.box)) (fun u hu => by
            refine spArg_eq 15 rfl rfl ?_
            refine spArg_eq 11 rfl rfl ?_
            refine spArg_eq 10 rfl rfl ?_
            refine spArg_eq 3 rfl rfl ?_
            refine spArg_eq 2 rfl rfl ?_
            refine spArg_eq 0 rfl rfl ?_
            refine spArg_nil ?_
            simp only [Act.put, List.setIfInBounds_toArray, List.set_cons_succ, List.set_cons_zero]
            have k0 : u.cell? ⟨bT, oT + m, none⟩ = some (.slice (some ⟨bi, oi, none⟩) N ci) := range_below HQ1.out hu.has 0 _ rfl
            go_wp2_with ((go_at_call 23; refine (HAM.out _ _ (HQ3.out.ext hu.has).bytes).mono ?_; rintro r_ x_ ⟨v_, rfl, how_, hb_⟩))
            exact ⟨rfl, HoldT.step hst hu hb_, hb_, slot_of rfl ⟨v_, rfl, owns_mono how_ (Below.size hu.has)⟩⟩) ?_
          refine sp_end ?_
          intro u hu
          refine spArg_eq 19 rfl rfl ?_
          refine spArg_eq 18 rfl rfl ?_
          refine spArg_eq 17 rfl rfl ?_
          refine spArg_eq 16 rfl rfl ?_
          refine spArg_eq 15 rfl rfl ?_
          refine spArg_eq 14 rfl rfl ?_
          refine spArg_eq 13 rfl rfl ?_
          refine spArg_eq 12 rfl rfl ?_
          refine spArg_eq 11 rfl rfl ?_
          refine spArg_eq 10 rfl rfl ?_
          refine spArg_eq 9 rfl rfl ?_
          refine spArg_eq 8 rfl rfl ?_
          refine spArg_eq 7 rfl rfl ?_
          refine spArg_eq 6 rfl rfl ?_
          refine spArg_eq 5 rfl rfl ?_
          refine spArg_eq 4 rfl rfl ?_
          refine spArg_eq 3 rfl rfl ?_
          refine spArg_eq 2 rfl rfl ?_
          refine spArg_eq 1 rfl rfl ?_
          refine spArg_in (φ := Ph.map (fun v => .agg (stpC (AT m) v)) (Ph.ownB wr.heap.size (AT m).e.box)) 0 rfl rfl ?_; intro v19 h19
          obtain ⟨v19, rfl, h19'⟩ := h19
          obtain ⟨a19, c19, rfl, -, -⟩ := owns_form h19'
          refine spArg_nil ?_
          simp only [Act.put, List.setIfInBounds_toArray, List.set_cons_succ, List.set_cons_zero]
          have h19o : OwnB u wr.heap.size (.slice a19 (AT m).e.box.length c19) (AT m).e.box := h19'
          clear h19'
          unfold stpC
          go_wp2_with fail
          clear hl1 hl2 hF
          obtain ⟨wO, hwO⟩ : ∃ x : World, wr = x := ⟨_, rfl⟩
          subst wr
          go_loopw [24, 25] (fun sv i wr => ∃ t : Nat, i = .int .i64 ((m : Int) - 1 - t) ∧ t ≤ m ∧ OwR stpR 0 wO.heap.size wr sv (lvs (fun j => AT (m - j)) t) ∧ Ext wO wr) (fun _ i _ => (intOf i + 1).toNat)
          case atStart => exact ⟨0, by simp, Nat.zero_le _, OwR.lit1 (R := stpR) (c := (stpC (AT m) (.slice a19 (AT m).e.box.length c19)).toList) ⟨_, rfl, slB_own h19o⟩ (Below.size hu.has), Ext.tr hu.has (Ext.alloc _ _)⟩
          case round =>
            obtain ⟨t, rfl, ht, hsv, hZ⟩ := hrel
            have HZ := Lib.hid hZ; have HSV := Lib.hid hsv
            obtain ⟨aS, cS', rfl, -, -⟩ := hsv.sl.form
            clear hZ hsv hu h19o hst HQ1 HQ2 HQ3 HAM HRM HPM
            have HSL := Lib.hid (length_lvs (fun j => AT (m - j)) t)
            by_cases hlt2 : t < m
            · obtain ⟨q, hqm⟩ : ∃ q : Nat, q = m - (t + 1) := ⟨_, rfl⟩
              have hqi : (m : Int) - 1 - t = q := by omega
              have hqle : q ≤ m := by omega
              rw [hqi]
              have HSUC := Lib.hid (show lvs (fun j => AT (m - j)) (t + 1) = lvs (fun j => AT (m - j)) t ++ [AT q] by rw [lvs_succ, hqm])
              generalize lvs (fun j => AT (m - j)) t = SV at *
              obtain ⟨bi, oi, ci, a1, c1, hq1, hq2, hq3⟩ := HPLL.out q hqle
              have HQ1 := Lib.hid hq1; have HQ2 := Lib.hid hq2; have HQ3 := Lib.hid hq3
              have HAM := Lib.hid (HAN.out q hqle)
              have HRM := Lib.hid (HRS.out q hqle); have HPM := Lib.hid (HRP.out q hqle)
              have HQM := Lib.hid hqm
              clear hq1 hq2 hq3 hqi hqm
              have hst := stabE wr
              have hk17 : HoldT (fun u => Ext wr u) w wr.drew := HoldT.drew hst ⟨Ext.refl _, Ext.tr (Ext.tr hbel2 HX.out) HZ.out⟩
              have hdK2 : decide (K ≤ q) = false := decide_eq_false (by omega)
              have hdM2 : decide (m + 1 ≤ q) = false := decide_eq_false (by omega)
              go_wp2_with fail
              try change Code.wp _ _ _ (Act.mk _ _) _
              refine wp_region_runR Ext 22 157 (HoldT (fun u => Ext wr u) _) [[], [], [], [(1, 127), (2, 128)], [(3, 129)], [], [], [(5, 131), (6, 132)], [(7, 133)], [], [], [], [(10, 136), (11, 137)], [(12, 138)], [], [(13, 139), (14, 140)], [(15, 141)], [], [], [(18, 144)], [(4, 130), (8, 134), (9, 135), (16, 142), (17, 143), (19, 145)], [(20, 146)]] [(0, 126), (1, 127), (2, 128), (3, 129), (4, 130), (5, 131), (6, 132), (7, 133), (8, 134), (9, 135), (10, 136), (11, 137), (12, 138), (13, 139), (14, 140), (15, 141), (16, 142), (17, 143), (18, 144), (19, 145), (20, 146), (21, 147)] (by kernel_rfl) (by kernel_rfl) (by first | rfl | simp) (hk17) ?_
              simp only [List.take_succ_cons, List.take_zero, List.drop_succ_cons, List.drop_zero]
              refine sp_op (Ph.eq _) (fun u hu => by
                refine spArg_nil ?_
                have k0 : u.cell? ⟨bT, oT + q, none⟩ = some (.slice (some ⟨bi, oi, none⟩) N ci) := range_below HQ1.out (Ext.tr HZ.out hu.has) 0 _ rfl
                go_wp2_with (fail)
                exact ⟨rfl, hu, Ext.refl _, slot_eq rfl⟩) ?_
              refine sp_op (Ph.eq _) (fun u hu => by
                refine spArg_nil ?_
                have k0 : u.cell? ⟨bT, oT + q, none⟩ = some (.slice (some ⟨bi, oi, none⟩) N ci) := range_below HQ1.out (Ext.tr HZ.out hu.has) 0 _ rfl
                go_wp2_with (fail)
                exact ⟨rfl, hu, Ext.refl _, slot_eq rfl⟩) ?_
              refine sp_op (Ph.eq _) (fun u hu => by
                refine spArg_nil ?_
                have k0 : u.cell? ⟨bT, oT + q, none⟩ = some (.slice (some ⟨bi, oi, none⟩) N ci) := range_below HQ1.out (Ext.tr HZ.out hu.has) 0 _ rfl
                go_wp2_with (fail)
                exact ⟨rfl, hu, Ext.refl _, slot_eq rfl⟩) ?_
              refine sp_op (Ph.eq _) (fun u hu => by
                refine spArg_eq 1 rfl rfl ?_
                refine spArg_eq 0 rfl rfl ?_
                refine spArg_nil ?_
                simp only [Act.put, List.setIfInBounds_toArray, List.set_cons_succ, List.set_cons_zero]
                have k0 : u.cell? ⟨bT, oT + q, none⟩ = some (.slice (some ⟨bi, oi, none⟩) N ci) := range_below HQ1.out (Ext.tr HZ.out hu.has) 0 _ rfl
                go_wp2_with (fail)
                exact ⟨rfl, hu, Ext.refl _, slot_eq rfl⟩) ?_
              refine sp_op (Ph.eq _) (fun u hu => by
                refine spArg_eq 0 rfl rfl ?_
                refine spArg_nil ?_
                simp only [Act.put, List.setIfInBounds_toArray, List.set_cons_succ, List.set_cons_zero]
                have k0 : u.cell? ⟨bT, oT + q, none⟩ = some (.slice (some ⟨bi, oi, none⟩) N ci) := range_below HQ1.out (Ext.tr HZ.out hu.has) 0 _ rfl
                go_wp2_with ((refine wpList_load_midG rfl 54 _ rfl (bS) (oS + q * 3) rfl _ _ (range_below HRM.out (Ext.tr HX.out (Ext.tr HZ.out hu.has))) Tryz.underlying54 rfl (info_sec) ?_))
                exact ⟨rfl, hu, Ext.refl _, slot_eq rfl⟩) ?_
              refine sp_op (Ph.eq _) (fun u hu => by
                refine spArg_nil ?_
                have k0 : u.cell? ⟨bT, oT + q, none⟩ = some (.slice (some ⟨bi, oi, none⟩) N ci) := range_below HQ1.out (Ext.tr HZ.out hu.has) 0 _ rfl
                go_wp2_with (fail)
                exact ⟨rfl, hu, Ext.refl _, slot_eq rfl⟩) ?_
              refine sp_op (Ph.eq _) (fun u hu => by
                refine spArg_nil ?_
                have k0 : u.cell? ⟨bT, oT + q, none⟩ = some (.slice (some ⟨bi, oi, none⟩) N ci) := range_below HQ1.out (Ext.tr HZ.out hu.has) 0 _ rfl
                go_wp2_with (fail)
                exact ⟨rfl, hu, Ext.refl _, slot_eq rfl⟩) ?_
              refine sp_op (Ph.eq _) (fun u hu => by
                refine spArg_eq 1 rfl rfl ?_
                refine spArg_eq 0 rfl rfl ?_
                refine spArg_nil ?_
                simp only [Act.put, List.setIfInBounds_toArray, List.set_cons_succ, List.set_cons_zero]
                have k0 : u.cell? ⟨bT, oT + q, none⟩ = some (.slice (some ⟨bi, oi, none⟩) N ci) := range_below HQ1.out (Ext.tr HZ.out hu.has) 0 _ rfl
                go_wp2_with (fail)
                exact ⟨rfl, hu, Ext.refl _, slot_eq rfl⟩) ?_
              refine sp_op (Ph.eq _) (fun u hu => by
                refine spArg_eq 0 rfl rfl ?_
                refine spArg_nil ?_
                simp only [Act.put, List.setIfInBounds_toArray, List.set_cons_succ, List.set_cons_zero]
                have k0 : u.cell? ⟨bT, oT + q, none⟩ = some (.slice (some ⟨bi, oi, none⟩) N ci) := range_below HQ1.out (Ext.tr HZ.out hu.has) 0 _ rfl
                go_wp2_with ((refine wpList_load_midG rfl 60 _ rfl (bP) (oP + q * 10) rfl _ _ (range_below HPM.out (Ext.tr HX.out (Ext.tr HZ.out hu.has))) Tryz.underlying60 rfl (info_pub) ?_))
                exact ⟨rfl, hu, Ext.refl _, slot_eq rfl⟩) ?_
              refine sp_op (Ph.eq _) (fun u hu => by
                refine spArg_nil ?_
                have k0 : u.cell? ⟨bT, oT + q, none⟩ = some (.slice (some ⟨bi, oi, none⟩) N ci) := range_below HQ1.out (Ext.tr HZ.out hu.has) 0 _ rfl
                go_wp2_with (fail)
                exact ⟨rfl, hu, Ext.refl _, slot_eq rfl⟩) ?_
              refine sp_op (Ph.eq _) (fun u hu => by
                refine spArg_nil ?_
                have k0 : u.cell? ⟨bT, oT + q, none⟩ = some (.slice (some ⟨bi, oi, none⟩) N ci) := range_below HQ1.out (Ext.tr HZ.out hu.has) 0 _ rfl
                go_wp2_with (fail)
                exact ⟨rfl, hu, Ext.refl _, slot_eq rfl⟩) ?_
              refine sp_op (Ph.eq _) (fun u hu => by
                refine spArg_nil ?_
                have k0 : u.cell? ⟨bT, oT + q, none⟩ = some (.slice (some ⟨bi, oi, none⟩) N ci) := range_below HQ1.out (Ext.tr HZ.out hu.has) 0 _ rfl
                go_wp2_with (fail)
                exact ⟨rfl, hu, Ext.refl _, slot_eq rfl⟩) ?_
              refine sp_op (Ph.eq _) (fun u hu => by
                refine spArg_eq 1 rfl rfl ?_
                refine spArg_eq 0 rfl rfl ?_
                refine spArg_nil ?_
                simp only [Act.put, List.setIfInBounds_toArray, List.set_cons_succ, List.set_cons_zero]
                have k0 : u.cell? ⟨bT, oT + q, none⟩ = some (.slice (some ⟨bi, oi, none⟩) N ci) := range_below HQ1.out (Ext.tr HZ.out hu.has) 0 _ rfl
                go_wp2_with (fail)
                exact ⟨rfl, hu, Ext.refl _, slot_eq rfl⟩) ?_
              refine sp_op (Ph.eq _) (fun u hu => by
                refine spArg_eq 0 rfl rfl ?_
                refine spArg_nil ?_
                simp only [Act.put, List.setIfInBounds_toArray, List.set_cons_succ, List.set_cons_zero]
                have k0 : u.cell? ⟨bT, oT + q, none⟩ = some (.slice (some ⟨bi, oi, none⟩) N ci) := range_below HQ1.out (Ext.tr HZ.out hu.has) 0 _ rfl
                go_wp2_with (fail)
                exact ⟨rfl, hu, Ext.refl _, slot_eq rfl⟩) ?_
              refine sp_op (Ph.eq _) (fun u hu => by
                refine spArg_nil ?_
                have k0 : u.cell? ⟨bT, oT + q, none⟩ = some (.slice (some ⟨bi, oi, none⟩) N ci) := range_below HQ1.out (Ext.tr HZ.out hu.has) 0 _ rfl
                go_wp2_with (fail)
                exact ⟨rfl, hu, Ext.refl _, slot_eq rfl⟩) ?_
              refine sp_op (Ph.eq _) (fun u hu => by
                refine spArg_eq 1 rfl rfl ?_
                refine spArg_eq 0 rfl rfl ?_
                refine spArg_nil ?_
                simp only [Act.put, List.setIfInBounds_toArray, List.set_cons_succ, List.set_cons_zero]
                have k0 : u.cell? ⟨bT, oT + q, none⟩ = some (.slice (some ⟨bi, oi, none⟩) N ci) := range_below HQ1.out (Ext.tr HZ.out hu.has) 0 _ rfl
                go_wp2_with (fail)
                exact ⟨rfl, hu, Ext.refl _, slot_eq rfl⟩) ?_
              refine sp_op (Ph.eq _) (fun u hu => by
                refine spArg_eq 0 rfl rfl ?_
                refine spArg_nil ?_
                simp only [Act.put, List.setIfInBounds_toArray, List.set_cons_succ, List.set_cons_zero]
                have k0 : u.cell? ⟨bT, oT + q, none⟩ = some (.slice (some ⟨bi, oi, none⟩) N ci) := range_below HQ1.out (Ext.tr HZ.out hu.has) 0 _ rfl
                go_wp2_with ((refine wpList_load_midG rfl 32 _ rfl (bi) (oi + A * 2) rfl _ _ (range_below HQ2.out (Ext.tr HZ.out hu.has)) Tryz.underlying32 rfl (info_entry) ?_))
                exact ⟨rfl, hu, Ext.refl _, slot_eq rfl⟩) ?_
              refine sp_op (Ph.eq _) (fun u hu => by
                refine spArg_nil ?_
                have k0 : u.cell? ⟨bT, oT + q, none⟩ = some (.slice (some ⟨bi, oi, none⟩) N ci) := range_below HQ1.out (Ext.tr HZ.out hu.has) 0 _ rfl
                go_wp2_with (fail)
                exact ⟨rfl, hu, Ext.refl _, slot_eq rfl⟩) ?_
              refine sp_op (Ph.eq _) (fun u hu => by
                refine spArg_nil ?_
                have k0 : u.cell? ⟨bT, oT + q, none⟩ = some (.slice (some ⟨bi, oi, none⟩) N ci) := range_below HQ1.out (Ext.tr HZ.out hu.has) 0 _ rfl
                go_wp2_with (fail)
                exact ⟨rfl, hu, Ext.refl _, slot_eq rfl⟩) ?_
              refine sp_op (Ph.eq _) (fun u hu => by
                refine spArg_eq 0 rfl rfl ?_
                refine spArg_nil ?_
                simp only [Act.put, List.setIfInBounds_toArray, List.set_cons_succ, List.set_cons_zero]
                have k0 : u.cell? ⟨bT, oT + q, none⟩ = some (.slice (some ⟨bi, oi, none⟩) N ci) := range_below HQ1.out (Ext.tr HZ.out hu.has) 0 _ rfl
                go_wp2_with (fail)
                exact ⟨rfl, hu, Ext.refl _, slot_eq rfl⟩) ?_
              refine sp_op (Ph.map (fun v => .agg (stpC (AT q) v)) (Ph.ownB wO.heap.size (AT q).e.box)) (fun u hu => by
                refine spArg_eq 15 rfl rfl ?_
                refine spArg_eq 11 rfl rfl ?_
                refine spArg_eq 10 rfl rfl ?_
                refine spArg_eq 3 rfl rfl ?_
                refine spArg_eq 2 rfl rfl ?_
                refine spArg_eq 0 rfl rfl ?_
                refine spArg_nil ?_
                simp only [Act.put, List.setIfInBounds_toArray, List.set_cons_succ, List.set_cons_zero]
                have k0 : u.cell? ⟨bT, oT + q, none⟩ = some (.slice (some ⟨bi, oi, none⟩) N ci) := range_below HQ1.out (Ext.tr HZ.out hu.has) 0 _ rfl
                go_wp2_with ((go_at_call 23; refine (HAM.out _ _ (HQ3.out.ext (Ext.tr HZ.out hu.has)).bytes).mono ?_; rintro r_ x_ ⟨v_, rfl, how_, hb_⟩))
                exact ⟨rfl, HoldT.step hst hu hb_, hb_, slot_of rfl ⟨v_, rfl, owns_mono how_ (Below.size (Ext.tr HZ.out hu.has))⟩⟩) ?_
              refine sp_op (Ph.slT (AT q)) (fun u hu => by
                refine spArg_in (φ := Ph.map (fun v => .agg (stpC (AT q) v)) (Ph.ownB wO.heap.size (AT q).e.box)) 0 rfl rfl ?_; intro v20 h20
                obtain ⟨v20, rfl, h20'⟩ := h20
                obtain ⟨a20, c20, rfl, -, -⟩ := owns_form h20'
                (try unfold stpC)
                refine spArg_nil ?_
                simp only [Act.put, List.setIfInBounds_toArray, List.set_cons_succ, List.set_cons_zero]
                have k0 : u.cell? ⟨bT, oT + q, none⟩ = some (.slice (some ⟨bi, oi, none⟩) N ci) := range_below HQ1.out (Ext.tr HZ.out hu.has) 0 _ rfl
                go_wp2_with (fail)
                exact ⟨rfl, HoldT.step hst hu (Ext.alloc _ _), Ext.alloc _ _, slot_of rfl ⟨⟨_, rfl⟩, SlR.lit1 (R := stpR) (y := AT q) (w := u) (c := (stpC (AT q) (.slice a20 (AT q).e.box.length c20)).toList) ⟨_, rfl, slB_own h20'⟩⟩⟩) ?_
              refine sp_end ?_
              intro u hu
              refine spArg_eq 21 rfl rfl ?_
              refine spArg_eq 20 rfl rfl ?_
              refine spArg_eq 19 rfl rfl ?_
              refine spArg_eq 18 rfl rfl ?_
              refine spArg_eq 17 rfl rfl ?_
              refine spArg_eq 16 rfl rfl ?_
              refine spArg_eq 15 rfl rfl ?_
              refine spArg_eq 14 rfl rfl ?_
              refine spArg_eq 13 rfl rfl ?_
              refine spArg_eq 12 rfl rfl ?_
              refine spArg_eq 11 rfl rfl ?_
              refine spArg_eq 10 rfl rfl ?_
              refine spArg_eq 9 rfl rfl ?_
              refine spArg_eq 8 rfl rfl ?_
              refine spArg_eq 7 rfl rfl ?_
              refine spArg_eq 6 rfl rfl ?_
              refine spArg_eq 5 rfl rfl ?_
              refine spArg_eq 4 rfl rfl ?_
              refine spArg_eq 3 rfl rfl ?_
              refine spArg_eq 2 rfl rfl ?_
              refine spArg_in (φ := Ph.map (fun v => .agg (stpC (AT q) v)) (Ph.ownB wO.heap.size (AT q).e.box)) 1 rfl rfl ?_; intro v20 h20
              obtain ⟨v20, rfl, h20'⟩ := h20
              obtain ⟨a20, c20, rfl, -, -⟩ := owns_form h20'
              (try unfold stpC)
              refine spArg_in (φ := Ph.slT (AT q)) 0 rfl rfl ?_; intro v21 h21
              obtain ⟨⟨g21, rfl⟩, h21'⟩ := h21
              refine spArg_nil ?_
              simp only [Act.put, List.setIfInBounds_toArray, List.set_cons_succ, List.set_cons_zero]
              have h21o : SlR stpR 0 u (.slice (some ⟨g21, 0, none⟩) 1 1) [AT q] := h21'
              clear h21'
              go_wp2_with (at_builtin; refine appT (W := wO) (B := 0) rfl _ _ rfl (Nat.zero_le _) _ SV rfl (HSV.out.ext hu.has) (.slice (some ⟨g21, 0, none⟩) 1 1) [AT q] rfl h21o (by have := HSL.out; simp only [List.length_cons, List.length_nil]; omega) (Ext.tr HZ.out hu.has) ?_; intro v8 w8 hown8 hg8 hb8)
              go_roundw
              case rel => exact ⟨t + 1, by (show Value.int .i64 _ = Value.int .i64 _); congr 1; have := HQM.out; omega, by omega, by rw [HSUC.out]; exact hown8, hb8⟩
              case measure => (simp [intOf] <;> omega)
            · obtain rfl : m = t := by omega
              have HSO3 := Lib.hid (show ∀ t ∈ lvs (fun j => AT (m - j)) m, t.ok ∧ t.e.box.length ≤ 20000000000000 from fun t ht => by
                unfold lvs at ht
                obtain ⟨j, hj, rfl⟩ := List.mem_map.1 ht
                have hj := List.mem_range.1 hj
                exact ⟨HALO.out _ (by omega), by rw [HATE.out]; exact (HEO.out _ (by omega)).2⟩)
              have hTR := Trace_any ps (lvs (fun i => LV i) m) A (lvs (fun j => AT (m - j)) m) 0 _ _ _ wr (HPR.out.ext (Ext.tr HX.out HZ.out)) (HLS2.out.sl.ext HZ.out) HSV.out.sl HPO.out HSO3.out HLSO.out ⟨by omega, by omega⟩ (by rw [HLP.out]; omega) (by rw [length_lvs]; omega) (by rw [length_lvs]; omega)
              rw [HLAW.out, HLP.out] at hTR
              simp only [length_lvs] at hTR
              have HTR := Lib.hid hTR
              clear hTR
              rw [length_lvs]
              go_wp2_with (first
                | (go_at_call 25; refine HTR.out.mono ?_; rintro r_ x9 ⟨rfl, hb9⟩)
                | (refine wpList_eql rfl 65 _ _ rfl _ _ _ rfl rfl guard_verd (run_eqV _ _ _ _) ?_))
              go_ret
              exact ⟨by simp, Ext.tr hbel2 (Ext.tr HX.out (Ext.tr HZ.out hb9))⟩
    · go_enter Tryz.func6, Tryz.ntmps6
      go_wp2_with (first
        | (go_at_call 20; refine (alive20_any _).mono ?_; rintro e w1 ⟨rfl, hb1⟩; have hkey1 := hk0.out.below hb1; have hbel1 := hb0.out.trans (hb1.mono hb0.out.size))
        | (refine wpList_load_row rfl 23 _ rfl w.heap.size rfl _ (keyA seed) (0, 0) _ hkey1 under_key rfl (by rw [keyA_size, HK.out]; exact info_key) ?_)
        | (go_at_call 10; refine (LChain_any seed k _ HK.out HKI.out).mono ?_; rintro e w2 ⟨v2, u2, rfl, hok2, hb2⟩; rw [HD.out]; have hbel2 : Ext w w2 := hbel1.trans (hb2.mono hbel1.size)))
      all_goals (first | (exfalso; omega) | (go_ret; exact ⟨rfl, hbel2⟩))
  · have HD := Lib.hid (decide_eq_false hr)
    go_enter Tryz.func6, Tryz.ntmps6
    go_wp2_with (first
      | (go_at_call 20; refine (alive20_any _).mono ?_; rintro e w1 ⟨rfl, hb1⟩; have hkey1 := hk0.out.below hb1; have hbel1 := hb0.out.trans (hb1.mono hb0.out.size))
      | (refine wpList_load_row rfl 23 _ rfl w.heap.size rfl _ (keyA seed) (0, 0) _ hkey1 under_key rfl (by rw [keyA_size, HK.out]; exact info_key) ?_)
      | (go_at_call 10; refine (LChain_any seed k _ HK.out HKI.out).mono ?_; rintro e w2 ⟨v2, u2, rfl, hok2, hb2⟩; rw [HD.out]; have hbel2 : Ext w w2 := hbel1.trans (hb2.mono hbel1.size)))
    go_ret
    exact ⟨rfl, hbel2⟩
end Go.Proofs.YtnmniblaefjekaaGreat
