/-
  BlameSpoilers: walked.
-/
import Derived.Test.YtnmniblaefjekaaGreatBh0
import Derived.Test.YtnmniblaefjekaaGreatSet
namespace Go.Proofs.YtnmniblaefjekaaGreat
set_option linter.unusedVariables false
set_option linter.unusedSimpArgs false
open Go Go.RowKit

def tbox (l : List UInt8) : List UInt8 := l.set 0 (l.getD 0 0 ^^^ 1)
theorem length_tbox (l : List UInt8) : (tbox l).length = l.length := by unfold tbox; rw [List.length_set]
theorem xor1_ne (x : UInt8) : x ≠ x ^^^ 1 := fun h => by
  have h1 := congrArg (fun y => x ^^^ y) h
  simp only [← UInt8.xor_assoc, UInt8.xor_self] at h1
  revert h1; simp
theorem tbox_ne {l : List UInt8} (h : 0 < l.length) : l ≠ tbox l := by
  cases l with
  | nil => simp at h
  | cons x l => intro e; simp [tbox] at e; exact xor1_ne x e
theorem setCell_sz (w : World) (a : Addr) (v : Value) : (w.setCell a v).heap.size = w.heap.size := by simp [World.setCell]
theorem own_blk {α : Type} {R : Rp α} {B B0 : Nat} {w : World} {a : Option Addr} {n c : Nat} {l : List α} (h : OwR R B B0 w (.slice a n c) l) (hl : 0 < l.length) : ∃ g, a = some ⟨g, 0, none⟩ ∧ ∃ cur, Blk w g cur R.ty ∧ B0 ≤ g := by
  obtain ⟨chs, h1, _, h2⟩ := h
  rcases h2 with ⟨_, h0⟩ | ⟨g, cap, cur, e, hg, hh, _⟩
  · omega
  · injection e with e1 _ _
    exact ⟨g, e1, cur, hh, hg⟩
/-- Bytes of one's own, one at least. -/
theorem own_bytes {w : World} {B : Nat} {v : Value} {l : List UInt8} (h : OwnB w B v l) (hl : 0 < l.length) : ∃ g c b0 rs, v = .slice (some ⟨g, 0, none⟩) l.length c ∧ (l = b0 :: rs ∧ w.cell? ⟨g, 0, none⟩ = some (BV b0)) ∧ ∃ cur, Blk w g cur 5 ∧ B ≤ g := by
  rcases h.2 with ⟨_, h0⟩ | ⟨g, cap, cur, rfl, hg, hh, hcap, hmax, hsz, htake⟩
  · omega
  · cases l with
    | nil => simp at hl
    | cons b0 rs =>
      refine ⟨g, cap, b0, rs, rfl, ⟨rfl, ?_⟩, cur, hh, hg⟩
      rw [Blk.cell hh]
      have h1 := congrArg (·[0]?) htake
      simp only [List.map_cons, List.getElem?_cons_zero] at h1
      rw [List.getElem?_take_of_lt (by simp), Array.getElem?_toList] at h1
      exact h1
theorem own_tbox {w : World} {B g n c : Nat} {l : List UInt8} {b0 : UInt8} {rs : List UInt8} (h : OwnB w B (.slice (some ⟨g, 0, none⟩) n c) l) (e : l = b0 :: rs) : SlR byteR 0 (w.setCell ⟨g, 0, none⟩ (BV (b0 ^^^ 1))) (.slice (some ⟨g, 0, none⟩) n c) (tbox l) := by
  subst e
  have h1 : OwR byteR 0 B w (.slice (some ⟨g, 0, none⟩) n c) (b0 :: rs) := owR_flat (by rw [flatMap_one]; exact h)
  have h2 := OwR.setAt h1 (i := 0) (j := 0) (a := b0) (a' := b0 ^^^ 1) rfl (by decide) (BV (b0 ^^^ 1)) (fun cs hc => by
    have hc' : cs = [BV b0] := hc
    rw [hc']; rfl) (by show _ ∉ ([] : List TypeId); simp) (Nat.zero_le _)
  rw [show 0 + 0 * byteR.sz + 0 = 0 from by simp] at h2
  exact h2.sl
set_option maxRecDepth 100000 in
set_option maxHeartbeats 8000000 in
theorem BlameSpoilers_any (seed : List UInt8) (k n bad at_ from_ : Int) (w : World) (h32 : seed.length = 32) (hk : inI k) (hn : inI n) (hpl : inI bad) (hat : inI at_) (hf : in64 from_) :
    Calls Tryz.prog 7 #[.agg (keyA seed), .int .i64 k, .int .i64 n, .int .i64 bad, .int .i64 at_, .int .u64 from_] w fun e w' => e = .returned (.bool true) ∧ Below w.heap.size w w' := by
  have HK := Lib.hid h32; clear h32
  have HKI := Lib.hid hk
  obtain ⟨k0, k1⟩ := hk
  obtain ⟨n0, n1⟩ := hn
  obtain ⟨p0, p1⟩ := hpl
  obtain ⟨t0, t1⟩ := hat
  have hk0 := Lib.hid (Blk.new w (keyA seed) 23)
  have hb0 := Lib.hid (show Below w.heap.size w (w.alloc (.cells (keyA seed) 23)) by go_grown)
  by_cases hr : 1 ≤ k ∧ k ≤ 6
  · have HD := Lib.hid (decide_eq_true hr)
    by_cases hg : (1 ≤ n ∧ n ≤ 6) ∧ (0 ≤ bad ∧ bad < k - 1) ∧ (0 ≤ at_ ∧ at_ < n)
    · obtain ⟨⟨g1, g2⟩, ⟨g3, g4⟩, g5, g6⟩ := hg
      obtain ⟨K, rfl⟩ : ∃ K : Nat, k = K := ⟨k.toNat, by omega⟩
      obtain ⟨N, rfl⟩ : ∃ N : Nat, n = N := ⟨n.toNat, by omega⟩
      obtain ⟨PL, rfl⟩ : ∃ P : Nat, bad = P := ⟨bad.toNat, by omega⟩
      obtain ⟨A, rfl⟩ : ∃ A : Nat, at_ = A := ⟨at_.toNat, by omega⟩
      have hd1 : ¬ (N : Int) < 1 := by omega
      have hd2 : ¬ (6 : Int) < (N : Int) := by omega
      have hd3 : decide ((PL : Int) < 0) = false := decide_eq_false (by omega)
      have hd4 : decide ((K : Int) - 1 ≤ (PL : Int)) = false := decide_eq_false (by omega)
      have hd4' : ¬ ((K : Int) - 1 ≤ (PL : Int)) := by omega
      have hd5 : decide ((A : Int) < 0) = false := decide_eq_false (by omega)
      have hd6 : decide (N ≤ A) = false := decide_eq_false (by omega)
      have hLS := length_keysSL seed 3 4 (K : Int).toNat
      have hSO := keysSL_ok seed 3 4 (K : Int).toNat
      have hPO : ∀ p ∈ keysP seed 3 4 (K : Int).toNat, p.ok := chainN_ok _ _ _
      have hRR := fun (u : World) => LChain_any seed K u HK.out HKI.out
      unfold RetC at hRR
      rw [show keysP seed 3 4 (K : Int).toNat = chainL (keysSL seed 3 4 (K : Int).toNat) (keysDL seed 3 4 (K : Int).toNat) from rfl] at hPO hRR
      generalize keysDL seed 3 4 (K : Int).toNat = dd at *
      generalize keysSL seed 3 4 (K : Int).toNat = ss at *
      rw [Int.toNat_natCast] at hLS
      have hLP : (chainL ss dd).length = K := by rw [length_chainL]; exact hLS
      have HRR := Lib.hid hRR; have HLS := Lib.hid hLS; have HLP := Lib.hid hLP; have HSO := Lib.hid hSO; have HPO := Lib.hid hPO
      have HPU := Lib.hid fun i s p (h1 : ss[i]? = some s) (h2 : (chainL ss dd)[i]? = some p) => pubOf_chain hSO h1 h2
      have HLV := Lib.hid fun (O : Nat → List Int) (i : Nat) (hi : i ≤ K) => lev_good (draw := from_) (O := O) hSO (show ss.length ≤ 1000 by omega) (show K ≤ ss.length by omega) (made_good (ss := ss) (dd := dd) (H := K) (from_ := from_) N) i hi
      have HGR := Lib.hid fun (i : Nat) (es : List Ent) (s : Sec) (h : ∀ e ∈ es, Good ss dd K i e) (hi : i < K) (hs : ss[i]? = some s) (p : Pub) (od : List Int) => good_run h hi hs hSO (show ss.length ≤ 1000 by omega) p od from_
      have HGK := Lib.hid fun (i : Nat) (e : Ent) (h : Good ss dd K i e) => (show e.ok ∧ e.box.length ≤ 20000000000000 from ⟨⟨Int.le_of_lt (h.ok hSO).1, Int.lt_trans (h.ok hSO).2 (by decide)⟩, Nat.le_trans (h.len (show ss.length ≤ 1000 by omega)) (by decide)⟩)
      have HOPN := Lib.hid fun (i : Nat) (e : Ent) (s : Sec) (h : Good ss dd K i e) (hi : i < K) (hs : ss[i]? = some s) => h.open hi hs hSO (show ss.length ≤ 1000 by omega)
      have HMD := Lib.hid fun (w' : World) (v : Value) (h : SeesP w' v (chainL ss dd)) => Made19_any (chainL ss dd) N from_ v w' h hPO (by omega) (by omega) (by omega) hf
      have HBX := Lib.hid fun (i : Nat) (e : Ent) (h : Good ss dd K i e) (hi : i < K) => (show 0 < e.box.length from by
        obtain ⟨x, ins, bd, _, _, _, rfl⟩ := h
        show 0 < (spoilL (chainL ss dd) x ins bd ((chainL ss dd).length - i)).length
        rw [length_spoilL, hLP]; omega)
      have HGO := Lib.hid fun (i : Nat) (e : Ent) (h : Good ss dd K i e) => h.ok hSO
      clear hRR hLS hLP hSO hPO
      generalize hPS : chainL ss dd = ps at *
      clear hPS
      have hPLK : PL < K := by omega
      obtain ⟨sP, hsP⟩ : ∃ s, ss[PL]? = some s := ⟨_, List.getElem?_eq_getElem (by rw [HLS.out]; exact hPLK)⟩
      obtain ⟨pP, hpP⟩ : ∃ p, ps[PL]? = some p := ⟨_, List.getElem?_eq_getElem (by rw [HLP.out]; exact hPLK)⟩
      have HSP := Lib.hid hsP; have HPP := Lib.hid hpP
      clear hsP hpP
      go_enter Tryz.func7, Tryz.ntmps7
      go_wp2_with (first
        | (go_at_call 20; refine (alive20_any _).mono ?_; rintro e w1 ⟨rfl, hb1⟩; have hkey1 := hk0.out.below hb1; have hbel1 := hb0.out.trans (hb1.mono hb0.out.size))
        | (refine wpList_load_row rfl 23 _ rfl w.heap.size rfl _ (keyA seed) (0, 0) _ hkey1 under_key rfl (by rw [keyA_size, HK.out]; exact info_key) ?_)
        | (go_at_call 10; refine (HRR.out _).mono ?_; rintro e w2 ⟨v2, u2, rfl, hok2, hb2⟩; rw [HD.out]; have hbel2 : Ext w w2 := hbel1.trans (hb2.mono hbel1.size)
           have HS2 := Lib.hid (show SeesS w2 v2 ss from sees_of_owns (hok2 hr).1)
           have HP2 := Lib.hid (show SeesP w2 u2 ps from sees_of_owns (hok2 hr).2)
           have HPR := Lib.hid (show SlR pubR 0 w2 u2 ps from slP_own (hok2 hr).2)
           clear hok2)
        | (go_at_call 26; refine (HMD.out _ _ HP2.out).mono ?_; rintro e w3 ⟨v3, rfl, hown3, hb3⟩
           obtain ⟨a3, c3, rfl, -, -⟩ := hown3.sl.form
           have hbel3 : Ext w w3 := Ext.tr hbel2 hb3))
      rw [Int.toNat_natCast] at hown3
      obtain ⟨bS, oS, cS, rfl, -, -, -⟩ := seesS_open HS2.out (by rw [HLS.out]; omega)
      obtain ⟨bP, oP, cP, rfl, -, -, -⟩ := seesP_open HP2.out (by rw [HLP.out]; omega)
      have HSA := Lib.hid fun i s (h : ss[i]? = some s) => seesS_at HS2.out (by rw [HLS.out]; omega) i s h
      have HPA := Lib.hid fun i p (h : ps[i]? = some p) => seesP_at HP2.out (by rw [HLP.out]; omega) i p h
      have HB3 : Hid (Ext w2 w3) := Lib.hid hb3
      have HBL3 := Lib.hid hbel3
      have HOW3 := Lib.hid hown3
      clear hown3 hb3 hbel3 HMD HRR
      rw [HLS.out, HLP.out]
      have hM : ∃ M : Nat, (PL : Int) + 1 = (M : Int) := ⟨PL + 1, by omega⟩
      obtain ⟨M, hM⟩ := hM
      have HMP := Lib.hid (show M = PL + 1 by omega)
      have HMI := Lib.hid hM
      clear hM
      have hMK : M < K := by have := HMP.out; omega
      -- the levels, the last one with a box turned
      have hgood := fun (i : Nat) (hi : i ≤ M) => HLV.out (fun _ => []) i (by omega)
      obtain ⟨eN, heN⟩ : ∃ e, (levN ss ps from_ (fun _ => []) (madeL ps from_ N) M)[A]? = some e := ⟨_, List.getElem?_eq_getElem (by rw [(hgood M (Nat.le_refl _)).1, length_madeL]; omega)⟩
      have hgN := (hgood M (Nat.le_refl _)).2 eN (List.mem_of_getElem? heN)
      have HBN := Lib.hid (HBX.out M eN hgN hMK)
      obtain ⟨LT, hLT⟩ : ∃ LT : Nat → List Ent, LT = fun j => if j = M then (levN ss ps from_ (fun _ => []) (madeL ps from_ N) j).set A ⟨eN.x, tbox eN.box⟩ else levN ss ps from_ (fun _ => []) (madeL ps from_ N) j := ⟨_, rfl⟩
      have HLT1 := Lib.hid (show ∀ j, j < M → LT j = levN ss ps from_ (fun _ => []) (madeL ps from_ N) j from fun j hj => by rw [hLT]; exact if_neg (by omega))
      have HLT2 := Lib.hid (show LT M = (levN ss ps from_ (fun _ => []) (madeL ps from_ N) M).set A ⟨eN.x, tbox eN.box⟩ by rw [hLT]; exact if_pos rfl)
      have HLT0 := Lib.hid (show LT 0 = madeL ps from_ N from by rw [HLT1.out 0 (by have := HMP.out; omega)]; rfl)
      have HLTN := Lib.hid (show ∀ j, j ≤ M → (LT j).length = N from fun j hj => by
        by_cases h : j < M
        · rw [HLT1.out j h, (hgood j hj).1, length_madeL]
        · obtain rfl : j = M := by omega
          rw [HLT2.out, List.length_set, (hgood j hj).1, length_madeL])
      have HLTG := Lib.hid (show ∀ j, j ≤ M → ∀ e ∈ LT j, e.ok ∧ e.box.length ≤ 20000000000000 from fun j hj e he => by
        by_cases h : j < M
        · rw [HLT1.out j h] at he
          exact HGK.out j e ((hgood j hj).2 e he)
        · obtain rfl : j = M := by omega
          rw [HLT2.out] at he
          rcases List.mem_or_eq_of_mem_set he with he | rfl
          · exact HGK.out j e ((hgood j hj).2 e he)
          · have := HGK.out j eN hgN
            exact ⟨this.1, by show (tbox eN.box).length ≤ _; rw [length_tbox]; exact this.2⟩)
      have HEN := Lib.hid heN
      clear hLT hgood heN hgN
      go_loopw [17, 18, 19, 20, 21, 22] (fun lv lsv i _ _ _ wr => ∃ m : Nat, i = .int .i64 m ∧ m ≤ M ∧ SlR entR 0 wr lv (LT m) ∧ OwR entsR 0 w2.heap.size wr lsv (lvs LT m) ∧ Ext w2 wr) (fun _ _ i _ _ _ _ => M - (intOf i).toNat)
      case atStart => exact ⟨0, rfl, Nat.zero_le _, by rw [HLT0.out]; exact HOW3.out.sl.ext (Ext.alloc _ _), by rw [lvs_zero, HLT0.out]; exact OwR.lit1 (R := entsR) (c := [_]) ⟨_, rfl, HOW3.out.sl⟩ (Below.size HB3.out), Ext.tr HB3.out (Ext.alloc _ _)⟩
      case round =>
        obtain ⟨m, rfl, hm, hlv, hls, hX⟩ := hrel
        have HX := Lib.hid hX
        obtain ⟨aL, cL, rfl, -, -⟩ := hlv.form
        obtain ⟨aLS, cLS, rfl, -, -⟩ := hls.sl.form
        have HL := Lib.hid hlv
        have HLS2 := Lib.hid hls
        clear hX hlv hls
        have hl1 := HLTN.out m hm
        by_cases hlt : m < M
        · have hmPL : (m : Int) ≤ (PL : Int) := by have := HMP.out; omega
          obtain ⟨hl0, hl2⟩ := HLV.out (fun _ => []) m (by omega)
          obtain ⟨s, hs⟩ : ∃ s, ss[m]? = some s := ⟨_, List.getElem?_eq_getElem (by rw [HLS.out]; omega)⟩
          obtain ⟨p, hp⟩ : ∃ p, ps[m]? = some p := ⟨_, List.getElem?_eq_getElem (by rw [HLP.out]; omega)⟩
          have HSU := Lib.hid (levN_succ (draw := from_) (O := fun _ => []) (l0 := madeL ps from_ N) hs hp)
          have HSV := Lib.hid (lvs_succ LT m)
          have HHO := Lib.hid fun (w' : World) (h : Ext wr w') => Hopr_any s p m _ [] from_ 0 _ (.slice none 0 0) w' (HSO.out s (List.mem_of_getElem? hs)) (HPO.out p (List.mem_of_getElem? hp)) hf (HL.out.ext h) (SlR.nil 0 _) (fun e he => HLTG.out m hm e he) (by rw [hl1]; omega) (by simp)
          have HRS := Lib.hid (HSA.out m s hs); have HRP := Lib.hid (HPA.out m p hp)
          unfold RetH at HHO
          rw [← HLT1.out m hlt] at HSU
          have HLL := Lib.hid hl1
          have HLN := Lib.hid (length_lvs LT m)
          have hrl : (runL s p m (LT m) [] from_).es.length = N := by
            have := (HLV.out (fun _ => []) (m + 1) (by omega)).1
            rw [HSU.out, length_madeL] at this; exact this
          have HRL := Lib.hid hrl
          clear hs hp hl0 hl1 hl2 hrl
          generalize lvs LT m = LSM at *
          generalize LT m = LM at *
          generalize runL s p m LM [] from_ = RUN at *
          generalize failsL s m LM = FL at *
          have hdS : decide (K ≤ m) = false := decide_eq_false (by omega)
          by_cases hmb : m = PL
          · have hmb' : ((m : Int) == (PL : Int)) = true := by rw [beq_iff_eq]; omega
            have HMB := Lib.hid (show m + 1 = M by have := HMP.out; omega)
            have HRE := Lib.hid (show RUN.es[A]? = some eN from by rw [← HSU.out, HMB.out]; exact HEN.out)
            clear hmb
            go_wp2_with fail
            have hstab := stabE wr
            have hkH : HoldT (fun u => Ext wr u) w wr.drew := HoldT.drew hstab ⟨Ext.refl _, Ext.tr hbel2 HX.out⟩
            try change Code.wp _ _ _ (Act.mk _ _) _
            haveI hne_ : Nonempty (InC (fun u => Ext wr u)) := ⟨⟨_, (hkH).1⟩⟩
            refine wp_region_tr (C := fun w_ => ∃ e_ : InC (fun u => Ext wr u), w_ = e_.u) (.step [0, 1, 2, 3, 4, 5, 6, 7, 8, 9, 10] (.alt 11 (.step [12, 13, 14] (.alt 15 (.step [] (.alt 16 (.fin [17]) .nil)) .nil)) (.alt 15 (.step [] (.alt 11 (.step [12, 13, 14] (.alt 16 (.fin [17]) .nil)) .nil)) .nil))) (by kernel_rfl) (by kernel_rfl) (fun _ _ _ _ hd_ h_ => ⟨hd_.symm.trans h_.1, h_.2⟩) ⟨⟨World.drew _, (hkH).1⟩, rfl⟩ ?_
            have hk_ := hkH
            repeat' (first
              | ((with_reducible refine wpTr_fin ?_)
                 simp only [pickOps, List.flatMap_cons, List.flatMap_nil, List.drop_succ_cons, List.drop_zero, List.take_succ_cons, List.take_zero, List.cons_append, List.nil_append, List.append_nil]
                 repeat (first | (first | (refine wpQuiet_load_mid rfl 54 (.tmp 84) rfl bS (oS + m * 3) rfl s.cells _ (fun w_ hw_ => by obtain ⟨e_, rfl⟩ := hw_; exact range_below HRS.out (Ext.tr HX.out e_.has)) Tryz.underlying54 rfl info_sec ?_; simp only [Act.put, List.setIfInBounds_toArray, List.set_cons_succ, List.set_cons_zero]) | (refine wpQuiet_load_mid rfl 60 (.tmp 88) rfl bP (oP + m * 10) rfl p.cells _ (fun w_ hw_ => by obtain ⟨e_, rfl⟩ := hw_; exact range_below HRP.out (Ext.tr HX.out e_.has)) Tryz.underlying60 rfl info_pub ?_; simp only [Act.put, List.setIfInBounds_toArray, List.set_cons_succ, List.set_cons_zero])) | go_big_quiet_step (exact rfl))
                 refine wpQuiet_nil ?_)
              | ((with_reducible refine wpTr_step ?_); simp only [pickOps, List.flatMap_cons, List.flatMap_nil, List.drop_succ_cons, List.drop_zero, List.take_succ_cons, List.take_zero, List.cons_append, List.nil_append, List.append_nil]; repeat (first | (first | (refine wpQuiet_load_mid rfl 54 (.tmp 84) rfl bS (oS + m * 3) rfl s.cells _ (fun w_ hw_ => by obtain ⟨e_, rfl⟩ := hw_; exact range_below HRS.out (Ext.tr HX.out e_.has)) Tryz.underlying54 rfl info_sec ?_; simp only [Act.put, List.setIfInBounds_toArray, List.set_cons_succ, List.set_cons_zero]) | (refine wpQuiet_load_mid rfl 60 (.tmp 88) rfl bP (oP + m * 10) rfl p.cells _ (fun w_ hw_ => by obtain ⟨e_, rfl⟩ := hw_; exact range_below HRP.out (Ext.tr HX.out e_.has)) Tryz.underlying60 rfl info_pub ?_; simp only [Act.put, List.setIfInBounds_toArray, List.set_cons_succ, List.set_cons_zero])) | go_big_quiet_step (exact rfl))
                 refine wpQuiet_nil ?_)
              | (with_reducible refine wpTr_one ?_)
              | (with_reducible refine wpTr_alt ?_ ?_)
              | (simp only [pickOps, List.flatMap_cons, List.flatMap_nil, List.drop_succ_cons, List.drop_zero, List.take_succ_cons, List.take_zero, List.cons_append, List.nil_append, List.append_nil]
                 go_wp2_with (first
              | (go_at_call 27; refine (HHO.out _ hk_.has).mono ?_; rintro r_ x5 ⟨vE, vB, rfl, hE5, hB5, e5⟩; have hE5 := hE5.mono (Nat.le_refl 0) (Below.size hk_.has); obtain ⟨aE, cE, rfl, -, -⟩ := hE5.form; have hk5 := HoldT.step hstab hk_ e5; have e5' : Ext _ x5 := e5)
              | (refine wpList_allocB rfl _ rfl PasZ run_allocPas ?_; intro x6 g hG hg6 e6; have hg0 := Nat.le_trans (Below.size hk_.has) hg6; have hk6 := HoldT.step hstab hk_ e6; have e6' : Ext _ x6 := e6)
              | (refine wpList_store_row rfl 70 (.tmp 20) _ rfl g #[.slice aE RUN.es.length cE, .int .u64 RUN.p.c, .int .u64 RUN.p.s] _ _ rfl rfl (exBl hG) rfl info_pas (one_pas _ _ _ _ _) ?_; intro x7 hg7 hs7 hR7
                 have hwg : w.heap.size ≤ g := Nat.le_trans (Below.size (Ext.tr hbel2 HX.out)) hg0
                 have hbel7 : Ext wr x7 := ext_row hk_.has hg7 hg0
                 have hk7 : HoldT (fun u => Ext wr u) w x7 := ⟨hbel7, ext_row hk_.up hg7 hwg⟩
                 have hO7 := (hE5.ext (w := x5)).grownT hg7 (RowT.blk (exBl hG)) (by decide) (by decide) (fun _ _ => Nat.zero_le _)
                 clear hs7))
                 refine phPost_hold (by first | with_reducible assumption | exact HoldT.alloc hstab (by with_reducible assumption) _ | exact HoldT.alloc hstab (HoldT.alloc hstab (by with_reducible assumption) _) _) ?_
                 intro hk_))
            all_goals (
              have hq7 : x7.cell? ⟨g, 0, none⟩ = some (.slice aE RUN.es.length cE) := by rw [hR7.cell]; rfl
              obtain ⟨bE, hbE, cur, hblkE, hgE⟩ := own_blk hO7 (by rw [HRL.out]; omega)
              subst hbE
              obtain ⟨vX, hrE, hsX⟩ := slE_atR hO7.sl A eN HRE.out
              obtain ⟨aX, cX, rfl, -, -⟩ := hsX.form
              have hbx : x7.cell? ⟨bE, A * 2 + 1, none⟩ = some (.slice aX eN.box.length cX) := by have := hrE 1 _ rfl; simpa using this
              have hblN := (HLTG.out M (Nat.le_refl _) _ (show (⟨eN.x, tbox eN.box⟩ : Ent) ∈ LT M from by rw [HLT2.out]; exact List.mem_set (by have := (List.getElem?_eq_some_iff.1 HEN.out).1; exact this) _)).2
              have hblN2 : eN.box.length ≤ 20000000000000 := by have h : (tbox eN.box).length ≤ 20000000000000 := hblN; rwa [length_tbox] at h
              have HBL := Lib.hid hblN2
              have HO7 := Lib.hid hO7; have HSX := Lib.hid hsX; have HBE := Lib.hid hblkE; have HRX := Lib.hid (hrE 0 _ rfl)
              have hcx := fun h0 : UInt8 => (show bits .xor .u8 (h0.toNat : Int) 1 = ((h0 ^^^ 1).toNat : Int) from xor_u8 h0 1)
              have hdA : decide (N ≤ A) = false := decide_eq_false (by omega)
              rw [HRL.out] at hq7
              clear hblN hblN2 hsX hrE hblkE
              go_wp2_with (first
                | (at_builtin; refine appB (W := x7) rfl _ _ rfl (.slice none 0 0) [] rfl (ownB_nil _ _) (.slice aX eN.box.length cX) eN.box rfl HSX.out.bytes (by have := HBL.out; simp only [List.length_nil]; omega) (Below.refl _ _) ?_; intro v8 x8 hown8 hg8 hb8
                   rw [List.nil_append] at hown8
                   have e8 : Ext x7 x8 := ext_none hg8
                   obtain ⟨gb, cb, b0, rs, hv8, hbx0, cur8, hblk8, hgb⟩ := own_bytes hown8 HBN.out
                   subst hv8
                   have hc8 : x8.cell? ⟨gb, 0, none⟩ = some (BV b0) := hbx0.2
                   have hf8 : x8.frozen? ⟨gb, 0, none⟩ = false := Blk.free hblk8 0
                   have hE8 := HBE.out.below e8
                   have hnE : bE ≠ gb := fun e => by have := Blk.lt HBE.out; omega
                   have hcE : x8.cell? ⟨bE, A * 2 + 1, none⟩ = some (.slice aX eN.box.length cX) := (Below.cell e8 (Blk.lt HBE.out)).trans hbx
                   have hfE : x8.frozen? ⟨bE, A * 2 + 1, none⟩ = false := Blk.free hE8 _
                   have e9 : Ext x7 (x8.setCell ⟨gb, 0, none⟩ (BV (b0 ^^^ 1))) := ext_rowK e8 (grownBy_cell x8 gb 0 _) hgb
                   have hO9 := HO7.out.ext e9
                   have ht8 := own_tbox hown8 hbx0.1
                   have hx9 : x8.cell? ⟨gb, 0, none⟩ = some (BV b0) := hc8
                   have hO10 := OwR.setAt hO9 (i := A) (j := 1) (a := eN) (a' := ⟨eN.x, tbox eN.box⟩) HRE.out (by decide) (.slice (some ⟨gb, 0, none⟩) eN.box.length cb) (fun cs hc => by
                     obtain ⟨v, hcs, _⟩ := hc
                     refine ⟨_, by rw [hcs]; rfl, ?_⟩
                     exact ht8.keep (Same.grown (grownBy_cell _ _ _ _) (RowT.blk (show Blk (x8.setCell ⟨gb, 0, none⟩ (BV (b0 ^^^ 1))) bE _ _ from hE8.setCell ⟨gb, 0, none⟩ _ hnE)) (by decide) (fun _ _ => Nat.zero_le _))) (by decide) (Nat.zero_le _)
                   rw [show 0 + A * entR.sz + 1 = A * 2 + 1 from by show 0 + A * 2 + 1 = _; omega] at hO10
                   have HO10 := Lib.hid hO10
                   have EX := Lib.hid (show Ext wr ((x8.setCell ⟨gb, 0, none⟩ (BV (b0 ^^^ 1))).setCell ⟨bE, A * 2 + 1, none⟩ (.slice (some ⟨gb, 0, none⟩) eN.box.length cb)) from ext_rowK (Ext.tr hbel7 e9) (grownBy_cell _ bE _ _) hgE)
                   have hlit : SlR entsR 0 (((x8.setCell ⟨gb, 0, none⟩ (BV (b0 ^^^ 1))).setCell ⟨bE, A * 2 + 1, none⟩ (.slice (some ⟨gb, 0, none⟩) eN.box.length cb)).alloc (.cells #[.slice (some ⟨bE, 0, none⟩) N cE] 55)) (.slice (some ⟨x8.heap.size, 0, none⟩) 1 1) [RUN.es.set A ⟨eN.x, tbox eN.box⟩] := by
                     have h := SlR.lit1 (R := entsR) (y := RUN.es.set A ⟨eN.x, tbox eN.box⟩) (c := [.slice (some ⟨bE, 0, none⟩) RUN.es.length cE]) ⟨_, rfl, hO10.sl⟩
                     rw [setCell_sz, setCell_sz, HRL.out] at h
                     exact h
                   have HLIT := Lib.hid hlit
                   clear hE8 hown8 hb8 hg8 hbx0 hO9 ht8 hO10 hlit e9)
                | (at_builtin; refine appL (W := w2) (B := 0) rfl _ _ rfl (Nat.zero_le _) _ LSM rfl (HLS2.out.ext (Ext.tr EX.out (Ext.alloc _ _))) (.slice (some ⟨x8.heap.size, 0, none⟩) 1 1) [RUN.es.set A ⟨eN.x, tbox eN.box⟩] rfl HLIT.out (by have := HLN.out; simp only [List.length_cons, List.length_nil]; omega) (Ext.tr HX.out (Ext.tr EX.out (Ext.alloc _ _))) ?_; intro v9 w9 hown9 hg9 hb9
                   have hO11 := (HO10.out.ext (Ext.alloc _ _)).grownT hg9 (HLS2.out.ext (Ext.tr EX.out (Ext.alloc _ _))).row (by decide) (by decide) (fun _ _ => Nat.zero_le _)))
              have HLM := Lib.hid (show LT (m + 1) = RUN.es.set A ⟨eN.x, tbox eN.box⟩ from by rw [HMB.out, HLT2.out, ← HMB.out, HSU.out])
              go_roundw
              case rel => exact ⟨m + 1, rfl, by omega, by rw [HLM.out]; have := hO11.sl; rw [HRL.out] at this; exact this, by rw [HSV.out, HLM.out]; exact hown9, hb9⟩
              case measure => (simp [intOf] <;> omega))
          · have hmb' : ((m : Int) == (PL : Int)) = false := by rw [beq_eq_false_iff_ne]; omega
            have HLV1 := Lib.hid (show LT (m + 1) = RUN.es from by rw [HLT1.out (m + 1) (by have := HMP.out; omega), HSU.out])
            rw [HLV1.out] at HSV
            clear hmb
            go_wp2_with fail
            have hstab := stabE wr
            have hkH : HoldT (fun u => Ext wr u) w wr.drew := HoldT.drew hstab ⟨Ext.refl _, Ext.tr hbel2 HX.out⟩
            try change Code.wp _ _ _ (Act.mk _ _) _
            haveI hne_ : Nonempty (InC (fun u => Ext wr u)) := ⟨⟨_, (hkH).1⟩⟩
            refine wp_region_tr (C := fun w_ => ∃ e_ : InC (fun u => Ext wr u), w_ = e_.u) (.step [0, 1, 2, 3, 4, 5, 6, 7, 8, 9, 10] (.alt 11 (.step [12, 13, 14] (.alt 15 (.step [] (.alt 16 (.fin [17]) .nil)) .nil)) (.alt 15 (.step [] (.alt 11 (.step [12, 13, 14] (.alt 16 (.fin [17]) .nil)) .nil)) .nil))) (by kernel_rfl) (by kernel_rfl) (fun _ _ _ _ hd_ h_ => ⟨hd_.symm.trans h_.1, h_.2⟩) ⟨⟨World.drew _, (hkH).1⟩, rfl⟩ ?_
            have hk_ := hkH
            repeat' (first
              | ((with_reducible refine wpTr_fin ?_)
                 simp only [pickOps, List.flatMap_cons, List.flatMap_nil, List.drop_succ_cons, List.drop_zero, List.take_succ_cons, List.take_zero, List.cons_append, List.nil_append, List.append_nil]
                 repeat (first | (first | (refine wpQuiet_load_mid rfl 54 (.tmp 84) rfl bS (oS + m * 3) rfl s.cells _ (fun w_ hw_ => by obtain ⟨e_, rfl⟩ := hw_; exact range_below HRS.out (Ext.tr HX.out e_.has)) Tryz.underlying54 rfl info_sec ?_; simp only [Act.put, List.setIfInBounds_toArray, List.set_cons_succ, List.set_cons_zero]) | (refine wpQuiet_load_mid rfl 60 (.tmp 88) rfl bP (oP + m * 10) rfl p.cells _ (fun w_ hw_ => by obtain ⟨e_, rfl⟩ := hw_; exact range_below HRP.out (Ext.tr HX.out e_.has)) Tryz.underlying60 rfl info_pub ?_; simp only [Act.put, List.setIfInBounds_toArray, List.set_cons_succ, List.set_cons_zero])) | go_big_quiet_step (exact rfl))
                 refine wpQuiet_nil ?_)
              | ((with_reducible refine wpTr_step ?_); simp only [pickOps, List.flatMap_cons, List.flatMap_nil, List.drop_succ_cons, List.drop_zero, List.take_succ_cons, List.take_zero, List.cons_append, List.nil_append, List.append_nil]; repeat (first | (first | (refine wpQuiet_load_mid rfl 54 (.tmp 84) rfl bS (oS + m * 3) rfl s.cells _ (fun w_ hw_ => by obtain ⟨e_, rfl⟩ := hw_; exact range_below HRS.out (Ext.tr HX.out e_.has)) Tryz.underlying54 rfl info_sec ?_; simp only [Act.put, List.setIfInBounds_toArray, List.set_cons_succ, List.set_cons_zero]) | (refine wpQuiet_load_mid rfl 60 (.tmp 88) rfl bP (oP + m * 10) rfl p.cells _ (fun w_ hw_ => by obtain ⟨e_, rfl⟩ := hw_; exact range_below HRP.out (Ext.tr HX.out e_.has)) Tryz.underlying60 rfl info_pub ?_; simp only [Act.put, List.setIfInBounds_toArray, List.set_cons_succ, List.set_cons_zero])) | go_big_quiet_step (exact rfl))
                 refine wpQuiet_nil ?_)
              | (with_reducible refine wpTr_one ?_)
              | (with_reducible refine wpTr_alt ?_ ?_)
              | (simp only [pickOps, List.flatMap_cons, List.flatMap_nil, List.drop_succ_cons, List.drop_zero, List.take_succ_cons, List.take_zero, List.cons_append, List.nil_append, List.append_nil]
                 go_wp2_with (first
              | (go_at_call 27; refine (HHO.out _ hk_.has).mono ?_; rintro r_ x5 ⟨vE, vB, rfl, hE5, hB5, e5⟩; have hE5 := hE5.mono (Nat.le_refl 0) (Below.size hk_.has); obtain ⟨aE, cE, rfl, -, -⟩ := hE5.form; have hk5 := HoldT.step hstab hk_ e5; have e5' : Ext _ x5 := e5)
              | (refine wpList_allocB rfl _ rfl PasZ run_allocPas ?_; intro x6 g hG hg6 e6; have hg0 := Nat.le_trans (Below.size hk_.has) hg6; have hk6 := HoldT.step hstab hk_ e6; have e6' : Ext _ x6 := e6)
              | (refine wpList_store_row rfl 70 (.tmp 20) _ rfl g #[.slice aE RUN.es.length cE, .int .u64 RUN.p.c, .int .u64 RUN.p.s] _ _ rfl rfl (exBl hG) rfl info_pas (one_pas _ _ _ _ _) ?_; intro x7 hg7 hs7 hR7
                 have hwg : w.heap.size ≤ g := Nat.le_trans (Below.size (Ext.tr hbel2 HX.out)) hg0
                 have hbel7 : Ext wr x7 := ext_row hk_.has hg7 hg0
                 have hk7 : HoldT (fun u => Ext wr u) w x7 := ⟨hbel7, ext_row hk_.up hg7 hwg⟩
                 have hO7 := (hE5.ext (w := x5)).grownT hg7 (RowT.blk (exBl hG)) (by decide) (by decide) (fun _ _ => Nat.zero_le _)
                 clear hs7))
                 refine phPost_hold (by first | with_reducible assumption | exact HoldT.alloc hstab (by with_reducible assumption) _ | exact HoldT.alloc hstab (HoldT.alloc hstab (by with_reducible assumption) _) _) ?_
                 intro hk_))
            all_goals (
              have hq7 : x7.cell? ⟨g, 0, none⟩ = some (.slice aE RUN.es.length cE) := by rw [hR7.cell]; rfl
              go_wp2_with (first
                | (at_builtin; refine appL (W := w2) (B := 0) rfl _ _ rfl (Nat.zero_le _) _ LSM rfl (HLS2.out.ext (Ext.tr hbel7 (Ext.alloc _ _))) (.slice (some ⟨x7.heap.size, 0, none⟩) 1 1) [RUN.es] rfl (SlR.lit1 (R := entsR) (y := RUN.es) (w := x7) (c := [.slice aE RUN.es.length cE]) ⟨_, rfl, hO7.sl⟩) (by have := HLN.out; simp only [List.length_cons, List.length_nil]; omega) (Ext.tr HX.out (Ext.tr hbel7 (Ext.alloc _ _))) ?_; intro v8 w8 hown8 hg8 hb8
                   have hO8 := (hO7.ext (Ext.alloc _ _)).grownT hg8 (HLS2.out.ext (Ext.tr hbel7 (Ext.alloc _ _))).row (by decide) (by decide) (fun _ _ => Nat.zero_le _)))
              go_roundw
              case rel => exact ⟨m + 1, rfl, by omega, by rw [HLV1.out]; exact hO8.sl, by rw [HSV.out]; exact hown8, hb8⟩
              case measure => (simp [intOf] <;> omega))
        · obtain rfl : m = M := by omega
          have hF : ∀ i : Nat, ∃ t : Sec × Pub × Ent, i ≤ m → ss[i]? = some t.1 ∧ ps[i]? = some t.2.1 ∧ (LT i)[A]? = some t.2.2 := by
            intro i
            by_cases hi : i ≤ m
            · obtain ⟨s, hs⟩ : ∃ s, ss[i]? = some s := ⟨_, List.getElem?_eq_getElem (by rw [HLS.out]; omega)⟩
              obtain ⟨p, hp⟩ : ∃ p, ps[i]? = some p := ⟨_, List.getElem?_eq_getElem (by rw [HLP.out]; omega)⟩
              obtain ⟨e, he⟩ : ∃ e, (LT i)[A]? = some e := ⟨_, List.getElem?_eq_getElem (by rw [HLTN.out i hi]; omega)⟩
              exact ⟨(s, p, e), fun _ => ⟨hs, hp, he⟩⟩
            · exact ⟨(sP, pP, ⟨0, []⟩), fun h => absurd h hi⟩
          obtain ⟨F, hF⟩ := Classical.axiomOfChoice hF
          have hEO := fun (i : Nat) (hi : i ≤ m) => HLTG.out i hi _ (List.mem_of_getElem? (hF i hi).2.2)
          generalize hAT : (fun i : Nat => answerL (F i).1 (F i).2.1 A (F i).2.2 1 2) = AT
          have hATi := fun i : Nat => congrFun hAT i
          have hlaw : opE (F m).1 m (F m).2.2 = none → traceL ps (lvs LT m) A (lvs (fun j => AT (m - j)) m) = (2, (PL : Int)) := fun hno => by
            have e := HMP.out
            have hPm : PL < m := by omega
            obtain ⟨g1, g2⟩ := HLV.out (fun _ => []) PL (by omega)
            have hFP := hF PL (by omega)
            have hFm := hF m (Nat.le_refl _)
            rw [HLT1.out PL hPm] at hFP
            have hgP := g2 _ (List.mem_of_getElem? hFP.2.2)
            obtain ⟨out, ho, -⟩ := HOPN.out PL _ _ hgP (by omega) hFP.1
            obtain ⟨-, hes, -⟩ := HGR.out PL _ _ g2 (by omega) hFP.1 (F PL).2.1 []
            have hnx := levN_succ (draw := from_) (O := fun _ => []) (l0 := madeL ps from_ N) hFP.1 hFP.2.1
            have hgN := (HLV.out (fun _ => []) m (by omega)).2 eN (List.mem_of_getElem? HEN.out)
            have hout : eN = out := by
              have h1 := HEN.out
              rw [e, hnx, hes] at h1
              have h2 := orderL_get_no (order := []) (n := A) (by intro h; have := h.1; rw [length_opened, g1, length_madeL] at this; simp at this; omega) (opened_get hFP.2.2 ho)
              rw [h2] at h1; injection h1 with h1; exact h1.symm
            have hFme : (F m).2.2 = ⟨eN.x, tbox eN.box⟩ := by
              have h1 := hFm.2.2
              rw [HLT2.out, List.getElem?_set_self (List.getElem?_eq_some_iff.1 HEN.out).1] at h1
              injection h1 with h1; exact h1.symm
            refine blamed_spoiler (h := PL) (n := A) (ins := LT PL) (last := LT m) (p := (F PL).2.1) (p' := (F m).2.1) (s := (F PL).1) (s' := (F m).1) (e := (F PL).2.2) (e' := (F m).2.2) (out := out) (a := 1) (b := 2) (frm := A) (frm' := A) (by rw [length_lvs, e]) (lvs_get _ (by omega)) (by rw [← e]; exact lvs_get _ (Nat.le_refl _)) hFP.2.1 (by rw [← e]; exact hFm.2.1) hFm.2.2 (by rw [lvs_get _ (Nat.zero_le _), Nat.sub_zero, ← hATi]) (by rw [lvs_get _ (by omega), show m - 1 = PL from by omega, ← hATi]) ho ?_ (HPU.out m _ _ hFm.1 hFm.2.1) (HSO.out _ (List.mem_of_getElem? hFm.1)) ?_ (by rw [← e]; exact hno) ⟨by decide, by decide⟩
            · rw [hFme, ← hout]; exact tbox_ne HBN.out
            · rw [hFme]; exact HGO.out m eN hgN
          obtain ⟨bT, oT, cT, e1, -, -⟩ := HLS2.out.sl.open (by rw [length_lvs]; omega)
          obtain ⟨rfl, rfl⟩ : aLS = some ⟨bT, oT, none⟩ ∧ cLS = cT := by injection e1 with e1 _ e3; exact ⟨e1, e3⟩
          clear e1
          have hPL := fun (i : Nat) (hi : i ≤ m) => (show ∃ bi oi ci a0 c0, wr.rangeAt bT (oT + i) [.slice (some ⟨bi, oi, none⟩) N ci] ∧ wr.rangeAt bi (oi + A * 2) [.int .u64 (F i).2.2.x, .slice a0 (F i).2.2.box.length c0] ∧ SlR byteR 0 wr (.slice a0 (F i).2.2.box.length c0) (F i).2.2.box by
            obtain ⟨ch, ⟨v, rfl, hv⟩, _, hr⟩ := HLS2.out.sl.at i _ (lvs_get _ hi)
            have g1 := HLTN.out i hi
            obtain ⟨bi, oi, ci, rfl, -, -⟩ := hv.open (by rw [g1]; omega)
            rw [g1] at hr hv
            obtain ⟨v0, h1, h2⟩ := slE_atR hv A _ (hF i hi).2.2
            obtain ⟨a0, c0, rfl, -, -⟩ := h2.form
            exact ⟨bi, oi, ci, a0, c0, by rw [show entsR.sz = 1 from rfl, Nat.mul_one] at hr; exact hr, h1, h2⟩)
          have hSOK := fun (i : Nat) (hi : i ≤ m) => HSO.out _ (List.mem_of_getElem? (hF i hi).1)
          have hPOK := fun (i : Nat) (hi : i ≤ m) => HPO.out _ (List.mem_of_getElem? (hF i hi).2.1)
          have hAN := fun (i : Nat) (hi : i ≤ m) (ve : Value) (w' : World) (h : SeesB w' ve (F i).2.2.box) => BAnswer_any (F i).1 (F i).2.1 A (F i).2.2 1 2 ve w' (hSOK i hi) (hPOK i hi) (hEO i hi).1 ⟨by decide, by decide⟩ ⟨by decide, by decide⟩ h (hEO i hi).2
          have hATj : ∀ i : Nat, answerL (F i).1 (F i).2.1 A (F i).2.2 1 2 = AT i := hATi
          simp only [hATj] at hAN
          have HAN := Lib.hid hAN
          clear hAN hATj
          have HALO := Lib.hid fun (i : Nat) (hi : i ≤ m) => (show (AT i).ok by rw [← hATi i]; exact answerL_ok (by omega) (hEO i hi).1)
          have HATE := Lib.hid fun (i : Nat) => (show (AT i).e = (F i).2.2 by rw [← hATi i]; rfl)
          have HRS := Lib.hid fun (i : Nat) (hi : i ≤ m) => HSA.out i _ (hF i hi).1
          have HRP := Lib.hid fun (i : Nat) (hi : i ≤ m) => HPA.out i _ (hF i hi).2.1
          have HPLL := Lib.hid hPL
          have HLAW := Lib.hid hlaw
          have HEO := Lib.hid hEO
          have HSOK := Lib.hid hSOK
          have HLSO := Lib.hid (show ∀ es ∈ lvs LT m, es.length ≤ 1000000000 ∧ ∀ e ∈ es, e.ok ∧ e.box.length ≤ 20000000000000 from fun es he => by
            unfold lvs at he
            obtain ⟨i, hi, rfl⟩ := List.mem_map.1 he
            have hi := List.mem_range.1 hi
            exact ⟨by rw [HLTN.out i (by omega)]; omega, HLTG.out i (by omega)⟩)
          have HOH := Lib.hid fun (u : World) (v : Value) (h : SeesB u v (F m).2.2.box) => OpenHop_any (F m).1.blind (F m).1.mix (F m).1.inner m (F m).2.2.x (F m).2.2.box v u (hSOK m (Nat.le_refl _)).1 (hSOK m (Nat.le_refl _)).2.1 (hEO m (Nat.le_refl _)).1 h (hEO m (Nat.le_refl _)).2
          clear hF hAT hlaw hPL hATi hEO hSOK hPOK hl1
          rw [length_lvs]
          obtain ⟨bi, oi, ci, a0, c0, hq1, hq2, hq3⟩ := HPLL.out m (Nat.le_refl _)
          have HQ1 := Lib.hid hq1; have HQ2 := Lib.hid hq2; have HQ3 := Lib.hid hq3
          have HAM := Lib.hid (HAN.out m (Nat.le_refl _))
          have HRM := Lib.hid (HRS.out m (Nat.le_refl _)); have HPM := Lib.hid (HRP.out m (Nat.le_refl _))
          clear hq1 hq2 hq3
          have hst := stabE wr
          have hk13 : HoldT (fun u => Ext wr u) w wr.drew := HoldT.drew hst ⟨Ext.refl _, Ext.tr hbel2 HX.out⟩
          have hdK : decide (K ≤ m) = false := decide_eq_false (by omega)
          have hdM : decide (m + 1 ≤ m) = false := decide_eq_false (by omega)
          have hdN : decide (N ≤ A) = false := decide_eq_false (by omega)
          have hMi := HMI.out
          have hMlt : ¬ ((m : Int) ≤ (PL : Int)) := by omega
          have hMlt2 : decide (m ≤ PL) = false := decide_eq_false (by omega)
          go_wp2_with fail
          try change Code.wp _ _ _ (Act.mk _ _) _
          refine wp_region_runR Ext 17 192 (HoldT (fun u => Ext wr u) _) [[], [], [(0, 124), (1, 125)], [(2, 126)], [], [], [(4, 128), (5, 129)], [(6, 130)], [], [], [], [(9, 133), (10, 134)], [(11, 135)], [], [(12, 136), (13, 137)], [(14, 138)], [(3, 127), (7, 131), (8, 132), (15, 139)]] [(0, 124), (1, 125), (2, 126), (3, 127), (4, 128), (5, 129), (6, 130), (7, 131), (8, 132), (9, 133), (10, 134), (11, 135), (12, 136), (13, 137), (14, 138), (15, 139), (16, 140)] (by kernel_rfl) (by kernel_rfl) (by first | rfl | simp) (hk13) ?_
          simp only [List.take_succ_cons, List.take_zero, List.drop_succ_cons, List.drop_zero]
          refine sp_op (Ph.eq _) (fun u hu => by
            refine spArg_nil ?_
            have k0 : u.cell? ⟨bT, oT + m, none⟩ = some (.slice (some ⟨bi, oi, none⟩) N ci) := range_below HQ1.out hu.has 0 _ rfl
            go_wp2_with (fail)
            exact ⟨rfl, hu, Ext.refl _, slot_eq rfl⟩) ?_
          refine sp_op (Ph.eq _) (fun u hu => by
            refine spArg_nil ?_
            have k0 : u.cell? ⟨bT, oT + m, none⟩ = some (.slice (some ⟨bi, oi, none⟩) N ci) := range_below HQ1.out hu.has 0 _ rfl
            go_wp2_with (fail)
            exact ⟨rfl, hu, Ext.refl _, slot_eq rfl⟩) ?_
          refine sp_op (Ph.eq _) (fun u hu => by
            refine spArg_eq 1 rfl rfl ?_
            refine spArg_eq 0 rfl rfl ?_
            refine spArg_nil ?_
            simp only [Act.put, List.setIfInBounds_toArray, List.set_cons_succ, List.set_cons_zero]
            have k0 : u.cell? ⟨bT, oT + m, none⟩ = some (.slice (some ⟨bi, oi, none⟩) N ci) := range_below HQ1.out hu.has 0 _ rfl
            go_wp2_with (fail)
            exact ⟨rfl, hu, Ext.refl _, slot_eq rfl⟩) ?_
          refine sp_op (Ph.eq _) (fun u hu => by
            refine spArg_eq 0 rfl rfl ?_
            refine spArg_nil ?_
            simp only [Act.put, List.setIfInBounds_toArray, List.set_cons_succ, List.set_cons_zero]
            have k0 : u.cell? ⟨bT, oT + m, none⟩ = some (.slice (some ⟨bi, oi, none⟩) N ci) := range_below HQ1.out hu.has 0 _ rfl
            go_wp2_with ((refine wpList_load_midG rfl 54 _ rfl (bS) (oS + m * 3) rfl _ _ (range_below HRM.out (Ext.tr HX.out hu.has)) Tryz.underlying54 rfl (info_sec) ?_))
            exact ⟨rfl, hu, Ext.refl _, slot_eq rfl⟩) ?_
          refine sp_op (Ph.eq _) (fun u hu => by
            refine spArg_nil ?_
            have k0 : u.cell? ⟨bT, oT + m, none⟩ = some (.slice (some ⟨bi, oi, none⟩) N ci) := range_below HQ1.out hu.has 0 _ rfl
            go_wp2_with (fail)
            exact ⟨rfl, hu, Ext.refl _, slot_eq rfl⟩) ?_
          refine sp_op (Ph.eq _) (fun u hu => by
            refine spArg_nil ?_
            have k0 : u.cell? ⟨bT, oT + m, none⟩ = some (.slice (some ⟨bi, oi, none⟩) N ci) := range_below HQ1.out hu.has 0 _ rfl
            go_wp2_with (fail)
            exact ⟨rfl, hu, Ext.refl _, slot_eq rfl⟩) ?_
          refine sp_op (Ph.eq _) (fun u hu => by
            refine spArg_eq 1 rfl rfl ?_
            refine spArg_eq 0 rfl rfl ?_
            refine spArg_nil ?_
            simp only [Act.put, List.setIfInBounds_toArray, List.set_cons_succ, List.set_cons_zero]
            have k0 : u.cell? ⟨bT, oT + m, none⟩ = some (.slice (some ⟨bi, oi, none⟩) N ci) := range_below HQ1.out hu.has 0 _ rfl
            go_wp2_with (fail)
            exact ⟨rfl, hu, Ext.refl _, slot_eq rfl⟩) ?_
          refine sp_op (Ph.eq _) (fun u hu => by
            refine spArg_eq 0 rfl rfl ?_
            refine spArg_nil ?_
            simp only [Act.put, List.setIfInBounds_toArray, List.set_cons_succ, List.set_cons_zero]
            have k0 : u.cell? ⟨bT, oT + m, none⟩ = some (.slice (some ⟨bi, oi, none⟩) N ci) := range_below HQ1.out hu.has 0 _ rfl
            go_wp2_with ((refine wpList_load_midG rfl 60 _ rfl (bP) (oP + m * 10) rfl _ _ (range_below HPM.out (Ext.tr HX.out hu.has)) Tryz.underlying60 rfl (info_pub) ?_))
            exact ⟨rfl, hu, Ext.refl _, slot_eq rfl⟩) ?_
          refine sp_op (Ph.eq _) (fun u hu => by
            refine spArg_nil ?_
            have k0 : u.cell? ⟨bT, oT + m, none⟩ = some (.slice (some ⟨bi, oi, none⟩) N ci) := range_below HQ1.out hu.has 0 _ rfl
            go_wp2_with (fail)
            exact ⟨rfl, hu, Ext.refl _, slot_eq rfl⟩) ?_
          refine sp_op (Ph.eq _) (fun u hu => by
            refine spArg_nil ?_
            have k0 : u.cell? ⟨bT, oT + m, none⟩ = some (.slice (some ⟨bi, oi, none⟩) N ci) := range_below HQ1.out hu.has 0 _ rfl
            go_wp2_with (fail)
            exact ⟨rfl, hu, Ext.refl _, slot_eq rfl⟩) ?_
          refine sp_op (Ph.eq _) (fun u hu => by
            refine spArg_nil ?_
            have k0 : u.cell? ⟨bT, oT + m, none⟩ = some (.slice (some ⟨bi, oi, none⟩) N ci) := range_below HQ1.out hu.has 0 _ rfl
            go_wp2_with (fail)
            exact ⟨rfl, hu, Ext.refl _, slot_eq rfl⟩) ?_
          refine sp_op (Ph.eq _) (fun u hu => by
            refine spArg_eq 1 rfl rfl ?_
            refine spArg_eq 0 rfl rfl ?_
            refine spArg_nil ?_
            simp only [Act.put, List.setIfInBounds_toArray, List.set_cons_succ, List.set_cons_zero]
            have k0 : u.cell? ⟨bT, oT + m, none⟩ = some (.slice (some ⟨bi, oi, none⟩) N ci) := range_below HQ1.out hu.has 0 _ rfl
            go_wp2_with (fail)
            exact ⟨rfl, hu, Ext.refl _, slot_eq rfl⟩) ?_
          refine sp_op (Ph.eq _) (fun u hu => by
            refine spArg_eq 0 rfl rfl ?_
            refine spArg_nil ?_
            simp only [Act.put, List.setIfInBounds_toArray, List.set_cons_succ, List.set_cons_zero]
            have k0 : u.cell? ⟨bT, oT + m, none⟩ = some (.slice (some ⟨bi, oi, none⟩) N ci) := range_below HQ1.out hu.has 0 _ rfl
            go_wp2_with (fail)
            exact ⟨rfl, hu, Ext.refl _, slot_eq rfl⟩) ?_
          refine sp_op (Ph.eq _) (fun u hu => by
            refine spArg_nil ?_
            have k0 : u.cell? ⟨bT, oT + m, none⟩ = some (.slice (some ⟨bi, oi, none⟩) N ci) := range_below HQ1.out hu.has 0 _ rfl
            go_wp2_with (fail)
            exact ⟨rfl, hu, Ext.refl _, slot_eq rfl⟩) ?_
          refine sp_op (Ph.eq _) (fun u hu => by
            refine spArg_eq 1 rfl rfl ?_
            refine spArg_eq 0 rfl rfl ?_
            refine spArg_nil ?_
            simp only [Act.put, List.setIfInBounds_toArray, List.set_cons_succ, List.set_cons_zero]
            have k0 : u.cell? ⟨bT, oT + m, none⟩ = some (.slice (some ⟨bi, oi, none⟩) N ci) := range_below HQ1.out hu.has 0 _ rfl
            go_wp2_with (fail)
            exact ⟨rfl, hu, Ext.refl _, slot_eq rfl⟩) ?_
          refine sp_op (Ph.eq _) (fun u hu => by
            refine spArg_eq 0 rfl rfl ?_
            refine spArg_nil ?_
            simp only [Act.put, List.setIfInBounds_toArray, List.set_cons_succ, List.set_cons_zero]
            have k0 : u.cell? ⟨bT, oT + m, none⟩ = some (.slice (some ⟨bi, oi, none⟩) N ci) := range_below HQ1.out hu.has 0 _ rfl
            go_wp2_with ((refine wpList_load_midG rfl 32 _ rfl (bi) (oi + A * 2) rfl _ _ (range_below HQ2.out hu.has) Tryz.underlying32 rfl (info_entry) ?_))
            exact ⟨rfl, hu, Ext.refl _, slot_eq rfl⟩) ?_
          refine sp_op (Ph.map (fun v => .agg (stpC (AT m) v)) (Ph.ownB wr.heap.size (AT m).e.box)) (fun u hu => by
            refine spArg_eq 12 rfl rfl ?_
            refine spArg_eq 8 rfl rfl ?_
            refine spArg_eq 7 rfl rfl ?_
            refine spArg_eq 0 rfl rfl ?_
            refine spArg_nil ?_
            simp only [Act.put, List.setIfInBounds_toArray, List.set_cons_succ, List.set_cons_zero]
            have k0 : u.cell? ⟨bT, oT + m, none⟩ = some (.slice (some ⟨bi, oi, none⟩) N ci) := range_below HQ1.out hu.has 0 _ rfl
            go_wp2_with ((go_at_call 23; refine (HAM.out _ _ (HQ3.out.ext hu.has).bytes).mono ?_; rintro r_ x_ ⟨v_, rfl, how_, hb_⟩))
            exact ⟨rfl, HoldT.step hst hu hb_, hb_, slot_of rfl ⟨v_, rfl, owns_mono how_ (Below.size hu.has)⟩⟩) ?_
          refine sp_end ?_
          intro u hu
          refine spArg_eq 16 rfl rfl ?_
          refine spArg_eq 15 rfl rfl ?_
          refine spArg_eq 14 rfl rfl ?_
          refine spArg_eq 13 rfl rfl ?_
          refine spArg_eq 12 rfl rfl ?_
          refine spArg_eq 11 rfl rfl ?_
          refine spArg_eq 10 rfl rfl ?_
          refine spArg_eq 9 rfl rfl ?_
          refine spArg_eq 8 rfl rfl ?_
          refine spArg_eq 7 rfl rfl ?_
          refine spArg_eq 6 rfl rfl ?_
          refine spArg_eq 5 rfl rfl ?_
          refine spArg_eq 4 rfl rfl ?_
          refine spArg_eq 3 rfl rfl ?_
          refine spArg_eq 2 rfl rfl ?_
          refine spArg_eq 1 rfl rfl ?_
          refine spArg_in (φ := Ph.map (fun v => .agg (stpC (AT m) v)) (Ph.ownB wr.heap.size (AT m).e.box)) 0 rfl rfl ?_; intro v16 h16
          obtain ⟨v16, rfl, h16'⟩ := h16
          obtain ⟨a16, c16, rfl, -, -⟩ := owns_form h16'
          refine spArg_nil ?_
          simp only [Act.put, List.setIfInBounds_toArray, List.set_cons_succ, List.set_cons_zero]
          have h16o : OwnB u wr.heap.size (.slice a16 (AT m).e.box.length c16) (AT m).e.box := h16'
          clear h16'
          unfold stpC
          go_wp2_with fail
          clear hMi hMlt hMlt2
          obtain ⟨wO, hwO⟩ : ∃ x : World, wr = x := ⟨_, rfl⟩
          subst wr
          go_loopw [24, 25] (fun sv i wr => ∃ t : Nat, i = .int .i64 ((m : Int) - 1 - t) ∧ t ≤ m ∧ OwR stpR 0 wO.heap.size wr sv (lvs (fun j => AT (m - j)) t) ∧ Ext wO wr) (fun _ i _ => (intOf i + 1).toNat)
          case atStart => exact ⟨0, by (show Value.int .i64 _ = Value.int .i64 _); congr 1; have := HMI.out; omega, Nat.zero_le _, OwR.lit1 (R := stpR) (c := (stpC (AT m) (.slice a16 (AT m).e.box.length c16)).toList) ⟨_, rfl, slB_own h16o⟩ (Below.size hu.has), Ext.tr hu.has (Ext.alloc _ _)⟩
          case round =>
            obtain ⟨t, rfl, ht, hsv, hZ⟩ := hrel
            have HZ := Lib.hid hZ; have HSV := Lib.hid hsv
            obtain ⟨aS, cS', rfl, -, -⟩ := hsv.sl.form
            clear hZ hsv hu h16o hst HQ1 HQ2 HQ3 HAM HRM HPM
            have HSL := Lib.hid (length_lvs (fun j => AT (m - j)) t)
            by_cases hlt2 : t < m
            · obtain ⟨q, hqm⟩ : ∃ q : Nat, q = m - (t + 1) := ⟨_, rfl⟩
              have hqi : (m : Int) - 1 - t = q := by omega
              have hqle : q ≤ m := by omega
              rw [hqi]
              have HSUC := Lib.hid (show lvs (fun j => AT (m - j)) (t + 1) = lvs (fun j => AT (m - j)) t ++ [AT q] by rw [lvs_succ, hqm])
              generalize lvs (fun j => AT (m - j)) t = SV at *
              obtain ⟨bi, oi, ci, a1, c1, hq1, hq2, hq3⟩ := HPLL.out q hqle
              have HQ1 := Lib.hid hq1; have HQ2 := Lib.hid hq2; have HQ3 := Lib.hid hq3
              have HAM := Lib.hid (HAN.out q hqle)
              have HRM := Lib.hid (HRS.out q hqle); have HPM := Lib.hid (HRP.out q hqle)
              have HQM := Lib.hid hqm
              clear hq1 hq2 hq3 hqi hqm
              have hst := stabE wr
              have hk17 : HoldT (fun u => Ext wr u) w wr.drew := HoldT.drew hst ⟨Ext.refl _, Ext.tr (Ext.tr hbel2 HX.out) HZ.out⟩
              have hdK2 : decide (K ≤ q) = false := decide_eq_false (by omega)
              have hdM2 : decide (m + 1 ≤ q) = false := decide_eq_false (by omega)
              go_wp2_with fail
              try change Code.wp _ _ _ (Act.mk _ _) _
              refine wp_region_runR Ext 19 192 (HoldT (fun u => Ext wr u) _) [[], [], [], [(1, 148), (2, 149)], [(3, 150)], [], [], [(5, 152), (6, 153)], [(7, 154)], [], [], [], [(10, 157), (11, 158)], [(12, 159)], [], [(13, 160), (14, 161)], [(15, 162)], [(4, 151), (8, 155), (9, 156), (16, 163)], [(17, 164)]] [(0, 147), (1, 148), (2, 149), (3, 150), (4, 151), (5, 152), (6, 153), (7, 154), (8, 155), (9, 156), (10, 157), (11, 158), (12, 159), (13, 160), (14, 161), (15, 162), (16, 163), (17, 164), (18, 165)] (by kernel_rfl) (by kernel_rfl) (by first | rfl | simp) (hk17) ?_
              simp only [List.take_succ_cons, List.take_zero, List.drop_succ_cons, List.drop_zero]
              refine sp_op (Ph.eq _) (fun u hu => by
                refine spArg_nil ?_
                have k0 : u.cell? ⟨bT, oT + q, none⟩ = some (.slice (some ⟨bi, oi, none⟩) N ci) := range_below HQ1.out (Ext.tr HZ.out hu.has) 0 _ rfl
                go_wp2_with (fail)
                exact ⟨rfl, hu, Ext.refl _, slot_eq rfl⟩) ?_
              refine sp_op (Ph.eq _) (fun u hu => by
                refine spArg_nil ?_
                have k0 : u.cell? ⟨bT, oT + q, none⟩ = some (.slice (some ⟨bi, oi, none⟩) N ci) := range_below HQ1.out (Ext.tr HZ.out hu.has) 0 _ rfl
                go_wp2_with (fail)
                exact ⟨rfl, hu, Ext.refl _, slot_eq rfl⟩) ?_
              refine sp_op (Ph.eq _) (fun u hu => by
                refine spArg_nil ?_
                have k0 : u.cell? ⟨bT, oT + q, none⟩ = some (.slice (some ⟨bi, oi, none⟩) N ci) := range_below HQ1.out (Ext.tr HZ.out hu.has) 0 _ rfl
                go_wp2_with (fail)
                exact ⟨rfl, hu, Ext.refl _, slot_eq rfl⟩) ?_
              refine sp_op (Ph.eq _) (fun u hu => by
                refine spArg_eq 1 rfl rfl ?_
                refine spArg_eq 0 rfl rfl ?_
                refine spArg_nil ?_
                simp only [Act.put, List.setIfInBounds_toArray, List.set_cons_succ, List.set_cons_zero]
                have k0 : u.cell? ⟨bT, oT + q, none⟩ = some (.slice (some ⟨bi, oi, none⟩) N ci) := range_below HQ1.out (Ext.tr HZ.out hu.has) 0 _ rfl
                go_wp2_with (fail)
                exact ⟨rfl, hu, Ext.refl _, slot_eq rfl⟩) ?_
              refine sp_op (Ph.eq _) (fun u hu => by
                refine spArg_eq 0 rfl rfl ?_
                refine spArg_nil ?_
                simp only [Act.put, List.setIfInBounds_toArray, List.set_cons_succ, List.set_cons_zero]
                have k0 : u.cell? ⟨bT, oT + q, none⟩ = some (.slice (some ⟨bi, oi, none⟩) N ci) := range_below HQ1.out (Ext.tr HZ.out hu.has) 0 _ rfl
                go_wp2_with ((refine wpList_load_midG rfl 54 _ rfl (bS) (oS + q * 3) rfl _ _ (range_below HRM.out (Ext.tr HX.out (Ext.tr HZ.out hu.has))) Tryz.underlying54 rfl (info_sec) ?_))
                exact ⟨rfl, hu, Ext.refl _, slot_eq rfl⟩) ?_
              refine sp_op (Ph.eq _) (fun u hu => by
                refine spArg_nil ?_
                have k0 : u.cell? ⟨bT, oT + q, none⟩ = some (.slice (some ⟨bi, oi, none⟩) N ci) := range_below HQ1.out (Ext.tr HZ.out hu.has) 0 _ rfl
                go_wp2_with (fail)
                exact ⟨rfl, hu, Ext.refl _, slot_eq rfl⟩) ?_
              refine sp_op (Ph.eq _) (fun u hu => by
                refine spArg_nil ?_
                have k0 : u.cell? ⟨bT, oT + q, none⟩ = some (.slice (some ⟨bi, oi, none⟩) N ci) := range_below HQ1.out (Ext.tr HZ.out hu.has) 0 _ rfl
                go_wp2_with (fail)
                exact ⟨rfl, hu, Ext.refl _, slot_eq rfl⟩) ?_
              refine sp_op (Ph.eq _) (fun u hu => by
                refine spArg_eq 1 rfl rfl ?_
                refine spArg_eq 0 rfl rfl ?_
                refine spArg_nil ?_
                simp only [Act.put, List.setIfInBounds_toArray, List.set_cons_succ, List.set_cons_zero]
                have k0 : u.cell? ⟨bT, oT + q, none⟩ = some (.slice (some ⟨bi, oi, none⟩) N ci) := range_below HQ1.out (Ext.tr HZ.out hu.has) 0 _ rfl
                go_wp2_with (fail)
                exact ⟨rfl, hu, Ext.refl _, slot_eq rfl⟩) ?_
              refine sp_op (Ph.eq _) (fun u hu => by
                refine spArg_eq 0 rfl rfl ?_
                refine spArg_nil ?_
                simp only [Act.put, List.setIfInBounds_toArray, List.set_cons_succ, List.set_cons_zero]
                have k0 : u.cell? ⟨bT, oT + q, none⟩ = some (.slice (some ⟨bi, oi, none⟩) N ci) := range_below HQ1.out (Ext.tr HZ.out hu.has) 0 _ rfl
                go_wp2_with ((refine wpList_load_midG rfl 60 _ rfl (bP) (oP + q * 10) rfl _ _ (range_below HPM.out (Ext.tr HX.out (Ext.tr HZ.out hu.has))) Tryz.underlying60 rfl (info_pub) ?_))
                exact ⟨rfl, hu, Ext.refl _, slot_eq rfl⟩) ?_
              refine sp_op (Ph.eq _) (fun u hu => by
                refine spArg_nil ?_
                have k0 : u.cell? ⟨bT, oT + q, none⟩ = some (.slice (some ⟨bi, oi, none⟩) N ci) := range_below HQ1.out (Ext.tr HZ.out hu.has) 0 _ rfl
                go_wp2_with (fail)
                exact ⟨rfl, hu, Ext.refl _, slot_eq rfl⟩) ?_
              refine sp_op (Ph.eq _) (fun u hu => by
                refine spArg_nil ?_
                have k0 : u.cell? ⟨bT, oT + q, none⟩ = some (.slice (some ⟨bi, oi, none⟩) N ci) := range_below HQ1.out (Ext.tr HZ.out hu.has) 0 _ rfl
                go_wp2_with (fail)
                exact ⟨rfl, hu, Ext.refl _, slot_eq rfl⟩) ?_
              refine sp_op (Ph.eq _) (fun u hu => by
                refine spArg_nil ?_
                have k0 : u.cell? ⟨bT, oT + q, none⟩ = some (.slice (some ⟨bi, oi, none⟩) N ci) := range_below HQ1.out (Ext.tr HZ.out hu.has) 0 _ rfl
                go_wp2_with (fail)
                exact ⟨rfl, hu, Ext.refl _, slot_eq rfl⟩) ?_
              refine sp_op (Ph.eq _) (fun u hu => by
                refine spArg_eq 1 rfl rfl ?_
                refine spArg_eq 0 rfl rfl ?_
                refine spArg_nil ?_
                simp only [Act.put, List.setIfInBounds_toArray, List.set_cons_succ, List.set_cons_zero]
                have k0 : u.cell? ⟨bT, oT + q, none⟩ = some (.slice (some ⟨bi, oi, none⟩) N ci) := range_below HQ1.out (Ext.tr HZ.out hu.has) 0 _ rfl
                go_wp2_with (fail)
                exact ⟨rfl, hu, Ext.refl _, slot_eq rfl⟩) ?_
              refine sp_op (Ph.eq _) (fun u hu => by
                refine spArg_eq 0 rfl rfl ?_
                refine spArg_nil ?_
                simp only [Act.put, List.setIfInBounds_toArray, List.set_cons_succ, List.set_cons_zero]
                have k0 : u.cell? ⟨bT, oT + q, none⟩ = some (.slice (some ⟨bi, oi, none⟩) N ci) := range_below HQ1.out (Ext.tr HZ.out hu.has) 0 _ rfl
                go_wp2_with (fail)
                exact ⟨rfl, hu, Ext.refl _, slot_eq rfl⟩) ?_
              refine sp_op (Ph.eq _) (fun u hu => by
                refine spArg_nil ?_
                have k0 : u.cell? ⟨bT, oT + q, none⟩ = some (.slice (some ⟨bi, oi, none⟩) N ci) := range_below HQ1.out (Ext.tr HZ.out hu.has) 0 _ rfl
                go_wp2_with (fail)
                exact ⟨rfl, hu, Ext.refl _, slot_eq rfl⟩) ?_
              refine sp_op (Ph.eq _) (fun u hu => by
                refine spArg_eq 1 rfl rfl ?_
                refine spArg_eq 0 rfl rfl ?_
                refine spArg_nil ?_
                simp only [Act.put, List.setIfInBounds_toArray, List.set_cons_succ, List.set_cons_zero]
                have k0 : u.cell? ⟨bT, oT + q, none⟩ = some (.slice (some ⟨bi, oi, none⟩) N ci) := range_below HQ1.out (Ext.tr HZ.out hu.has) 0 _ rfl
                go_wp2_with (fail)
                exact ⟨rfl, hu, Ext.refl _, slot_eq rfl⟩) ?_
              refine sp_op (Ph.eq _) (fun u hu => by
                refine spArg_eq 0 rfl rfl ?_
                refine spArg_nil ?_
                simp only [Act.put, List.setIfInBounds_toArray, List.set_cons_succ, List.set_cons_zero]
                have k0 : u.cell? ⟨bT, oT + q, none⟩ = some (.slice (some ⟨bi, oi, none⟩) N ci) := range_below HQ1.out (Ext.tr HZ.out hu.has) 0 _ rfl
                go_wp2_with ((refine wpList_load_midG rfl 32 _ rfl (bi) (oi + A * 2) rfl _ _ (range_below HQ2.out (Ext.tr HZ.out hu.has)) Tryz.underlying32 rfl (info_entry) ?_))
                exact ⟨rfl, hu, Ext.refl _, slot_eq rfl⟩) ?_
              refine sp_op (Ph.map (fun v => .agg (stpC (AT q) v)) (Ph.ownB wO.heap.size (AT q).e.box)) (fun u hu => by
                refine spArg_eq 12 rfl rfl ?_
                refine spArg_eq 8 rfl rfl ?_
                refine spArg_eq 7 rfl rfl ?_
                refine spArg_eq 0 rfl rfl ?_
                refine spArg_nil ?_
                simp only [Act.put, List.setIfInBounds_toArray, List.set_cons_succ, List.set_cons_zero]
                have k0 : u.cell? ⟨bT, oT + q, none⟩ = some (.slice (some ⟨bi, oi, none⟩) N ci) := range_below HQ1.out (Ext.tr HZ.out hu.has) 0 _ rfl
                go_wp2_with ((go_at_call 23; refine (HAM.out _ _ (HQ3.out.ext (Ext.tr HZ.out hu.has)).bytes).mono ?_; rintro r_ x_ ⟨v_, rfl, how_, hb_⟩))
                exact ⟨rfl, HoldT.step hst hu hb_, hb_, slot_of rfl ⟨v_, rfl, owns_mono how_ (Below.size (Ext.tr HZ.out hu.has))⟩⟩) ?_
              refine sp_op (Ph.slT (AT q)) (fun u hu => by
                refine spArg_in (φ := Ph.map (fun v => .agg (stpC (AT q) v)) (Ph.ownB wO.heap.size (AT q).e.box)) 0 rfl rfl ?_; intro v17 h17
                obtain ⟨v17, rfl, h17'⟩ := h17
                obtain ⟨a17, c17, rfl, -, -⟩ := owns_form h17'
                (try unfold stpC)
                refine spArg_nil ?_
                simp only [Act.put, List.setIfInBounds_toArray, List.set_cons_succ, List.set_cons_zero]
                have k0 : u.cell? ⟨bT, oT + q, none⟩ = some (.slice (some ⟨bi, oi, none⟩) N ci) := range_below HQ1.out (Ext.tr HZ.out hu.has) 0 _ rfl
                go_wp2_with (fail)
                exact ⟨rfl, HoldT.step hst hu (Ext.alloc _ _), Ext.alloc _ _, slot_of rfl ⟨⟨_, rfl⟩, SlR.lit1 (R := stpR) (y := AT q) (w := u) (c := (stpC (AT q) (.slice a17 (AT q).e.box.length c17)).toList) ⟨_, rfl, slB_own h17'⟩⟩⟩) ?_
              refine sp_end ?_
              intro u hu
              refine spArg_eq 18 rfl rfl ?_
              refine spArg_eq 17 rfl rfl ?_
              refine spArg_eq 16 rfl rfl ?_
              refine spArg_eq 15 rfl rfl ?_
              refine spArg_eq 14 rfl rfl ?_
              refine spArg_eq 13 rfl rfl ?_
              refine spArg_eq 12 rfl rfl ?_
              refine spArg_eq 11 rfl rfl ?_
              refine spArg_eq 10 rfl rfl ?_
              refine spArg_eq 9 rfl rfl ?_
              refine spArg_eq 8 rfl rfl ?_
              refine spArg_eq 7 rfl rfl ?_
              refine spArg_eq 6 rfl rfl ?_
              refine spArg_eq 5 rfl rfl ?_
              refine spArg_eq 4 rfl rfl ?_
              refine spArg_eq 3 rfl rfl ?_
              refine spArg_eq 2 rfl rfl ?_
              refine spArg_in (φ := Ph.map (fun v => .agg (stpC (AT q) v)) (Ph.ownB wO.heap.size (AT q).e.box)) 1 rfl rfl ?_; intro v17 h17
              obtain ⟨v17, rfl, h17'⟩ := h17
              obtain ⟨a17, c17, rfl, -, -⟩ := owns_form h17'
              (try unfold stpC)
              refine spArg_in (φ := Ph.slT (AT q)) 0 rfl rfl ?_; intro v18 h18
              obtain ⟨⟨g18, rfl⟩, h18'⟩ := h18
              refine spArg_nil ?_
              simp only [Act.put, List.setIfInBounds_toArray, List.set_cons_succ, List.set_cons_zero]
              have h18o : SlR stpR 0 u (.slice (some ⟨g18, 0, none⟩) 1 1) [AT q] := h18'
              clear h18'
              go_wp2_with (at_builtin; refine appT (W := wO) (B := 0) rfl _ _ rfl (Nat.zero_le _) _ SV rfl (HSV.out.ext hu.has) (.slice (some ⟨g18, 0, none⟩) 1 1) [AT q] rfl h18o (by have := HSL.out; simp only [List.length_cons, List.length_nil]; omega) (Ext.tr HZ.out hu.has) ?_; intro v8 w8 hown8 hg8 hb8)
              go_roundw
              case rel => exact ⟨t + 1, by (show Value.int .i64 _ = Value.int .i64 _); congr 1; have := HQM.out; omega, by omega, by rw [HSUC.out]; exact hown8, hb8⟩
              case measure => (simp [intOf] <;> omega)
            · obtain rfl : m = t := by omega
              have HSO3 := Lib.hid (show ∀ t ∈ lvs (fun j => AT (m - j)) m, t.ok ∧ t.e.box.length ≤ 20000000000000 from fun t ht => by
                unfold lvs at ht
                obtain ⟨j, hj, rfl⟩ := List.mem_map.1 ht
                have hj := List.mem_range.1 hj
                exact ⟨HALO.out _ (by omega), by rw [HATE.out]; exact (HEO.out _ (by omega)).2⟩)
              obtain ⟨bi, oi, ci, a0, c0, hq1, hq2, hq3⟩ := HPLL.out m (Nat.le_refl _)
              have HQ1 := Lib.hid hq1; have HQ2 := Lib.hid hq2; have HQ3 := Lib.hid hq3
              have HRM := Lib.hid (HRS.out m (Nat.le_refl _))
              clear hq1 hq2 hq3
              have hstab := stabE wr
              have hkO : HoldT (fun u => Ext wr u) w wr.drew := HoldT.drew hstab ⟨Ext.refl _, Ext.tr (Ext.tr hbel2 HX.out) HZ.out⟩
              have hqL : ∀ e : InC (fun u => Ext wr u), e.u.cell? ⟨bT, oT + m, none⟩ = some (.slice (some ⟨bi, oi, none⟩) N ci) := fun e => range_below HQ1.out (Ext.tr HZ.out e.has) 0 _ rfl
              have hqE0 : ∀ e : InC (fun u => Ext wr u), e.u.cell? ⟨bi, oi + A * 2, none⟩ = some (.int .u64 (F m).2.2.x) := fun e => by have := range_below HQ2.out (Ext.tr HZ.out e.has) 0 _ rfl; rwa [Nat.add_zero] at this
              have hqE1 : ∀ e : InC (fun u => Ext wr u), e.u.cell? ⟨bi, oi + A * 2 + 1, none⟩ = some (.slice a0 (F m).2.2.box.length c0) := fun e => range_below HQ2.out (Ext.tr HZ.out e.has) 1 _ rfl
              rw [length_lvs]
              have hop : opE (F m).1 m (F m).2.2 = (openE (F m).1.blind (F m).1.mix m (F m).2.2.x (F m).2.2.box).map fun p => ⟨p.1, p.2⟩ := rfl
              generalize openE (F m).1.blind (F m).1.mix m (F m).2.2.x (F m).2.2.box = o at *
              cases o with
              | some r =>
                clear hop
                have HOH2 := Lib.hid HOH.out
                unfold RetOE at HOH2
                simp only [Option.getD_some, Option.isSome_some] at HOH2
                go_wp2_with fail
                try change Code.wp _ _ _ (Act.mk _ _) _
                haveI hne_ : Nonempty (InC (fun u => Ext wr u)) := ⟨⟨_, (hkO).1⟩⟩
                refine wp_region_tr (C := fun w_ => ∃ e_ : InC (fun u => Ext wr u), w_ = e_.u) (.step [0, 1, 2, 3, 4, 5, 6, 7, 8, 9, 10, 11] (.alt 12 (.step [13, 14, 15] (.alt 16 (.step [] (.alt 17 (.fin [18]) .nil)) .nil)) (.alt 16 (.step [] (.alt 12 (.step [13, 14, 15] (.alt 17 (.fin [18]) .nil)) .nil)) .nil))) (by kernel_rfl) (by kernel_rfl) (fun _ _ _ _ hd_ h_ => ⟨hd_.symm.trans h_.1, h_.2⟩) ⟨⟨World.drew _, (hkO).1⟩, rfl⟩ ?_
                have hk_ := hkO
                repeat' (first
                  | ((with_reducible refine wpTr_fin ?_)
                     simp only [pickOps, List.flatMap_cons, List.flatMap_nil, List.drop_succ_cons, List.drop_zero, List.take_succ_cons, List.take_zero, List.cons_append, List.nil_append, List.append_nil]
                     repeat (first | ((refine wpQuiet_load_mid rfl 54 (.tmp 170) rfl bS (oS + m * 3) rfl (F m).1.cells _ (fun w_ hw_ => by obtain ⟨e_, rfl⟩ := hw_; exact range_below HRM.out (Ext.tr HX.out (Ext.tr HZ.out e_.has))) Tryz.underlying54 rfl info_sec ?_; simp only [Act.put, List.setIfInBounds_toArray, List.set_cons_succ, List.set_cons_zero])) | go_big_quiet_step (exact rfl))
                     refine wpQuiet_nil ?_)
                  | ((with_reducible refine wpTr_step ?_); simp only [pickOps, List.flatMap_cons, List.flatMap_nil, List.drop_succ_cons, List.drop_zero, List.take_succ_cons, List.take_zero, List.cons_append, List.nil_append, List.append_nil]; repeat (first | ((refine wpQuiet_load_mid rfl 54 (.tmp 170) rfl bS (oS + m * 3) rfl (F m).1.cells _ (fun w_ hw_ => by obtain ⟨e_, rfl⟩ := hw_; exact range_below HRM.out (Ext.tr HX.out (Ext.tr HZ.out e_.has))) Tryz.underlying54 rfl info_sec ?_; simp only [Act.put, List.setIfInBounds_toArray, List.set_cons_succ, List.set_cons_zero])) | go_big_quiet_step (exact rfl))
                     refine wpQuiet_nil ?_)
                  | (with_reducible refine wpTr_one ?_)
                  | (with_reducible refine wpTr_alt ?_ ?_)
                  | (simp only [pickOps, List.flatMap_cons, List.flatMap_nil, List.drop_succ_cons, List.drop_zero, List.take_succ_cons, List.take_zero, List.cons_append, List.nil_append, List.append_nil]
                     go_wp2_with (first
                  | (go_at_call 22; refine (HOH2.out _ _ (HQ3.out.ext (Ext.tr HZ.out hk_.has)).bytes).mono ?_; rintro r_ x5 ⟨v5, rfl, how5, e5⟩; obtain ⟨a5, c5, rfl, -, -⟩ := owns_form how5; have hk5 := HoldT.step hstab hk_ e5; have e5' : Ext _ x5 := e5)
                  | (refine wpList_allocB rfl _ rfl #[.int .u64 0, .slice none 0 0] run_allocEnt ?_; intro x6 g hG hg6 e6; have hg0 := Nat.le_trans (Below.size hk_.has) hg6; have hk6 := HoldT.step hstab hk_ e6; have e6' : Ext _ x6 := e6)
                  | (refine wpList_store_row rfl 32 (.tmp 26) _ rfl g _ _ _ rfl rfl (exBl hG) rfl info_entry (by intro v hv; simp at hv; rcases hv with rfl | rfl <;> rfl) ?_; intro x7 hg7 hs7 hR7
                     have hbel7 : Ext wr x7 := ext_row hk_.has hg7 hg0
                     have hk7 : HoldT (fun u => Ext wr u) w x7 := ⟨hbel7, Ext.tr (Ext.tr (Ext.tr hbel2 HX.out) HZ.out) hbel7⟩
                     clear hs7))
                     refine phPost_hold (by first | with_reducible assumption | exact HoldT.alloc hstab (by with_reducible assumption) _ | exact HoldT.alloc hstab (HoldT.alloc hstab (by with_reducible assumption) _) _) ?_
                     intro hk_))
                all_goals (
                  go_wp2_with fail
                  go_ret
                  exact ⟨rfl, hk_.up⟩)
              | none =>
                have hlw := HLAW.out (by rw [hop]; rfl)
                clear hop
                have HOH2 := Lib.hid HOH.out
                unfold RetOE at HOH2
                simp only [Option.getD_none, Option.isSome_none] at HOH2
                have hTR := fun (u : World) (e : Ext wr u) => Trace_any ps (lvs LT m) A (lvs (fun j => AT (m - j)) m) 0 _ _ _ u (HPR.out.ext (Ext.tr HX.out (Ext.tr HZ.out e))) (HLS2.out.sl.ext (Ext.tr HZ.out e)) (HSV.out.sl.ext e) HPO.out HSO3.out HLSO.out ⟨by omega, by omega⟩ (by rw [HLP.out]; omega) (by rw [length_lvs]; omega) (by rw [length_lvs]; omega)
                rw [hlw, HLP.out] at hTR
                simp only [length_lvs] at hTR
                have HTR := Lib.hid hTR
                clear hTR hlw
                go_wp2_with fail
                try change Code.wp _ _ _ (Act.mk _ _) _
                haveI hne_ : Nonempty (InC (fun u => Ext wr u)) := ⟨⟨_, (hkO).1⟩⟩
                refine wp_region_tr (C := fun w_ => ∃ e_ : InC (fun u => Ext wr u), w_ = e_.u) (.step [0, 1, 2, 3, 4, 5, 6, 7, 8, 9, 10, 11] (.alt 12 (.step [13, 14, 15] (.alt 16 (.step [] (.alt 17 (.fin [18]) .nil)) .nil)) (.alt 16 (.step [] (.alt 12 (.step [13, 14, 15] (.alt 17 (.fin [18]) .nil)) .nil)) .nil))) (by kernel_rfl) (by kernel_rfl) (fun _ _ _ _ hd_ h_ => ⟨hd_.symm.trans h_.1, h_.2⟩) ⟨⟨World.drew _, (hkO).1⟩, rfl⟩ ?_
                have hk_ := hkO
                repeat' (first
                  | ((with_reducible refine wpTr_fin ?_)
                     simp only [pickOps, List.flatMap_cons, List.flatMap_nil, List.drop_succ_cons, List.drop_zero, List.take_succ_cons, List.take_zero, List.cons_append, List.nil_append, List.append_nil]
                     repeat (first | ((refine wpQuiet_load_mid rfl 54 (.tmp 170) rfl bS (oS + m * 3) rfl (F m).1.cells _ (fun w_ hw_ => by obtain ⟨e_, rfl⟩ := hw_; exact range_below HRM.out (Ext.tr HX.out (Ext.tr HZ.out e_.has))) Tryz.underlying54 rfl info_sec ?_; simp only [Act.put, List.setIfInBounds_toArray, List.set_cons_succ, List.set_cons_zero])) | go_big_quiet_step (exact rfl))
                     refine wpQuiet_nil ?_)
                  | ((with_reducible refine wpTr_step ?_); simp only [pickOps, List.flatMap_cons, List.flatMap_nil, List.drop_succ_cons, List.drop_zero, List.take_succ_cons, List.take_zero, List.cons_append, List.nil_append, List.append_nil]; repeat (first | ((refine wpQuiet_load_mid rfl 54 (.tmp 170) rfl bS (oS + m * 3) rfl (F m).1.cells _ (fun w_ hw_ => by obtain ⟨e_, rfl⟩ := hw_; exact range_below HRM.out (Ext.tr HX.out (Ext.tr HZ.out e_.has))) Tryz.underlying54 rfl info_sec ?_; simp only [Act.put, List.setIfInBounds_toArray, List.set_cons_succ, List.set_cons_zero])) | go_big_quiet_step (exact rfl))
                     refine wpQuiet_nil ?_)
                  | (with_reducible refine wpTr_one ?_)
                  | (with_reducible refine wpTr_alt ?_ ?_)
                  | (simp only [pickOps, List.flatMap_cons, List.flatMap_nil, List.drop_succ_cons, List.drop_zero, List.take_succ_cons, List.take_zero, List.cons_append, List.nil_append, List.append_nil]
                     go_wp2_with (first
                  | (go_at_call 22; refine (HOH2.out _ _ (HQ3.out.ext (Ext.tr HZ.out hk_.has)).bytes).mono ?_; rintro r_ x5 ⟨v5, rfl, how5, e5⟩; obtain ⟨a5, c5, rfl, -, -⟩ := owns_form how5; have hk5 := HoldT.step hstab hk_ e5; have e5' : Ext _ x5 := e5)
                  | (refine wpList_allocB rfl _ rfl #[.int .u64 0, .slice none 0 0] run_allocEnt ?_; intro x6 g hG hg6 e6; have hg0 := Nat.le_trans (Below.size hk_.has) hg6; have hk6 := HoldT.step hstab hk_ e6; have e6' : Ext _ x6 := e6)
                  | (refine wpList_store_row rfl 32 (.tmp 26) _ rfl g _ _ _ rfl rfl (exBl hG) rfl info_entry (by intro v hv; simp at hv; rcases hv with rfl | rfl <;> rfl) ?_; intro x7 hg7 hs7 hR7
                     have hbel7 : Ext wr x7 := ext_row hk_.has hg7 hg0
                     have hk7 : HoldT (fun u => Ext wr u) w x7 := ⟨hbel7, Ext.tr (Ext.tr (Ext.tr hbel2 HX.out) HZ.out) hbel7⟩
                     clear hs7))
                     refine phPost_hold (by first | with_reducible assumption | exact HoldT.alloc hstab (by with_reducible assumption) _ | exact HoldT.alloc hstab (HoldT.alloc hstab (by with_reducible assumption) _) _) ?_
                     intro hk_))
                all_goals (
                  go_wp2_with (first
                    | (go_at_call 25; refine (HTR.out _ hbel7).mono ?_; rintro r_ x9 ⟨rfl, hb9⟩)
                    | (refine wpList_eql rfl 65 _ _ rfl _ _ _ rfl rfl guard_verd (run_eqV _ _ _ _) ?_))
                  go_ret
                  exact ⟨by simp, Ext.tr hk_.up hb9⟩)
    · go_enter Tryz.func7, Tryz.ntmps7
      go_wp2_with (first
        | (go_at_call 20; refine (alive20_any _).mono ?_; rintro e w1 ⟨rfl, hb1⟩; have hkey1 := hk0.out.below hb1; have hbel1 := hb0.out.trans (hb1.mono hb0.out.size))
        | (refine wpList_load_row rfl 23 _ rfl w.heap.size rfl _ (keyA seed) (0, 0) _ hkey1 under_key rfl (by rw [keyA_size, HK.out]; exact info_key) ?_)
        | (go_at_call 10; refine (LChain_any seed k _ HK.out HKI.out).mono ?_; rintro e w2 ⟨v2, u2, rfl, hok2, hb2⟩; rw [HD.out]; have hbel2 : Ext w w2 := hbel1.trans (hb2.mono hbel1.size)))
      all_goals (first | (exfalso; omega) | (go_ret; exact ⟨rfl, hbel2⟩))
  · have HD := Lib.hid (decide_eq_false hr)
    go_enter Tryz.func7, Tryz.ntmps7
    go_wp2_with (first
      | (go_at_call 20; refine (alive20_any _).mono ?_; rintro e w1 ⟨rfl, hb1⟩; have hkey1 := hk0.out.below hb1; have hbel1 := hb0.out.trans (hb1.mono hb0.out.size))
      | (refine wpList_load_row rfl 23 _ rfl w.heap.size rfl _ (keyA seed) (0, 0) _ hkey1 under_key rfl (by rw [keyA_size, HK.out]; exact info_key) ?_)
      | (go_at_call 10; refine (LChain_any seed k _ HK.out HKI.out).mono ?_; rintro e w2 ⟨v2, u2, rfl, hok2, hb2⟩; rw [HD.out]; have hbel2 : Ext w w2 := hbel1.trans (hb2.mono hbel1.size)))
    go_ret
    exact ⟨rfl, hbel2⟩
end Go.Proofs.YtnmniblaefjekaaGreat
