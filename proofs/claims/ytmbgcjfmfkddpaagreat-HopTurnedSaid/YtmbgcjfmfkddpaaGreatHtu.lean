/-
  HopTurned: walked.
-/
import Derived.Test.YtmbgcjfmfkddpaaGreatHcr
import Derived.Test.YtmbgcjfmfkddpaaGreatHfl
import Derived.Test.YtmbgcjfmfkddpaaGreatBu2
namespace Go.Proofs.YtmbgcjfmfkddpaaGreat
set_option linter.unusedVariables false
set_option linter.unusedSimpArgs false
open Go Go.RowKit

theorem made_len {ss : List Sec} {dd : List (List Int)} {from_ : Int} {n : Nat} : ∀ e ∈ madeL (chainL ss dd) from_ n, e.box.length = 8 + 16 * ss.length := by
  intro e he
  rw [madeL_map] at he
  obtain ⟨i, _, rfl⟩ := List.mem_map.1 he
  show (spoilL _ _ _ _ _).length = _
  rw [length_spoilL, length_put64, length_chainL]
theorem SlR.take2 {α : Type} {R : Rp α} {B : Nat} {w : World} {a : Option Addr} {n c : Nat} {l : List α} (h : SlR R B w (.slice a n c) l) (k c' : Nat) (hk : k ≤ l.length) (hkc : k ≤ c') (hcc : c' ≤ c) : SlR R B w (.slice a k c') (l.take k) := by
  have hlen : (l.take k).length = k := by rw [List.length_take]; omega
  obtain ⟨chs, h1, ⟨hl, a', c1, he, hc, hm, hnc, hb⟩, hz⟩ := h
  injection he with e1 e2 e3
  subst e1; subst e3
  have hcl := h1.1
  have hf : ∀ (L : List (List Value)) (m : Nat), (∀ x ∈ L, x.length = R.sz) → (L.take m).flatten = L.flatten.take (m * R.sz) := fun L => by
    induction L with
    | nil => intro m _; simp
    | cons x L ih =>
      intro m hx
      cases m with
      | zero => simp
      | succ m =>
        have hx0 := hx x (by simp)
        rw [List.take_succ_cons, List.flatten_cons, List.flatten_cons, ih m (fun y hy => hx y (by simp [hy])), List.take_append, List.take_of_length_le (l := x) (by rw [hx0, Nat.succ_mul]; omega), hx0, show (m + 1) * R.sz - R.sz = m * R.sz from by rw [Nat.succ_mul]; omega]
  refine ⟨chs.take k, ⟨by rw [List.length_take, List.length_take, hcl], fun i ch b hi hb2 => ?_⟩, ?_, ?_⟩
  · rw [List.getElem?_take] at hi hb2
    split at hi
    · rename_i hik
      rw [if_pos hik] at hb2
      exact h1.2 i ch b hi hb2
    · cases hi
  · rw [hlen, hf chs k h1.lens]
    refine ⟨by rw [List.length_take, hl, Nat.min_eq_left (Nat.mul_le_mul_right _ hk)], _, c', rfl, by omega, Nat.le_trans hcc hm, fun e => by have := hnc e; omega, fun h0 => ?_⟩
    obtain ⟨b, o, e, hcell⟩ := hb (by omega)
    refine ⟨b, o, e, fun j u hj => hcell j u ?_⟩
    rw [List.getElem?_take] at hj
    split at hj
    · exact hj
    · cases hj
  · intro h0 b hb2
    exact hz (by omega) b (by cases a <;> exact hb2)
theorem SlR.dropB {B : Nat} {w : World} {b o n c k : Nat} {l : List UInt8} (h : SlR byteR B w (.slice (some ⟨b, o, none⟩) n c) l) (hk : k ≤ l.length) (hc : c ≠ k) : SlR byteR B w (.slice (some ⟨b, o + k, none⟩) (l.length - k) (c - k)) (l.drop k) := by
  have h1 := seesB_drop h.bytes k hk
  rw [if_neg hc, Option.map_some, addr_add] at h1
  have h2 := (SlR.flat h).2
  refine slR_flat ⟨by rw [flatMap_one]; exact h1, fun h0 q hq => h2 (by rw [List.length_drop] at h0; omega) q hq⟩
theorem run_sliceE_to (a : Option Addr) (n c k : Nat) (hk : k ≤ c) (W : World) :
    (Instr.sliceAt 31 (.slice a n c) none (some (.int .i64 k)) none).run Tryz.prog W = .ok (.slice (if c = 0 then a else Option.map (fun x => x.add 0) a) k c) W := by
  obtain ⟨i, hi, hz, hsize, hby⟩ := info_parts info_ent3
  have h1 : (k : Int) ≤ (c : Int) := by omega
  simp [Instr.sliceAt, Instr.slice, Instr.sliceBounds, Instr.sliceBound, run_underlying Tryz.underlying31, sizeOf, typeInfo, hi, hsize, go_sem, h1, hk]
set_option maxRecDepth 100000 in
set_option maxHeartbeats 8000000 in
theorem HopTurned_any (seed : List UInt8) (n from_ kind at_ : Int) (w : World) (h32 : seed.length = 32) (hn : inI n) (hf : in64 from_) (hkd : inI kind) (hat : inI at_) :
    Calls Tryz.prog 5 #[.agg (keyA seed), .int .i64 n, .int .u64 from_, .int .i64 kind, .int .i64 at_] w fun e w' => e = .returned (.bool true) ∧ Below w.heap.size w w' := by
  have HK := Lib.hid h32; clear h32
  obtain ⟨n0, n1⟩ := hn
  obtain ⟨t0, t1⟩ := hat
  have hk0 := Lib.hid (Blk.new w (keyA seed) 23)
  have hb0 := Lib.hid (show Below w.heap.size w (w.alloc (.cells (keyA seed) 23)) by go_grown)
  have HRR := Lib.hid fun (u : World) => LChain_any seed 2 u HK.out (by unfold inI; decide)
  unfold RetC at HRR
  by_cases hg : (1 ≤ n ∧ n ≤ 8) ∧ 0 ≤ at_
  · obtain ⟨⟨g0, g1⟩, ga⟩ := hg
    obtain ⟨N, rfl⟩ : ∃ N : Nat, n = N := ⟨n.toNat, by omega⟩
    obtain ⟨A, rfl⟩ : ∃ A : Nat, at_ = A := ⟨at_.toNat, by omega⟩
    have d1 : ¬ (N : Int) < 1 := by omega
    have d2 : ¬ (8 : Int) < (N : Int) := by omega
    have d3 : ¬ (A : Int) < 0 := by omega
    have hLS := length_keysSL seed 3 4 (2 : Int).toNat
    have hSO := keysSL_ok seed 3 4 (2 : Int).toNat
    have hPO : ∀ p ∈ keysP seed 3 4 (2 : Int).toNat, p.ok := chainN_ok _ _ _
    rw [show keysP seed 3 4 (2 : Int).toNat = chainL (keysSL seed 3 4 (2 : Int).toNat) (keysDL seed 3 4 (2 : Int).toNat) from rfl] at hPO HRR
    generalize keysDL seed 3 4 (2 : Int).toNat = dd at *
    generalize keysSL seed 3 4 (2 : Int).toNat = ss at *
    have hLS : ss.length = 2 := hLS
    have hLP : (chainL ss dd).length = 2 := by rw [length_chainL]; exact hLS
    obtain ⟨s0, hs0⟩ : ∃ s, ss[0]? = some s := ⟨_, List.getElem?_eq_getElem (by omega)⟩
    obtain ⟨p0, hp0⟩ : ∃ p, (chainL ss dd)[0]? = some p := ⟨_, List.getElem?_eq_getElem (by omega)⟩
    have hs0o := hSO s0 (List.mem_of_getElem? hs0)
    have hp0o := hPO p0 (List.mem_of_getElem? hp0)
    have hG : ∀ e ∈ madeL (chainL ss dd) from_ N, Good ss dd 1 0 e := made_good N
    have hML : ∀ e ∈ madeL (chainL ss dd) from_ N, e.box.length = 40 := fun e he => by rw [made_len e he, hLS]
    obtain ⟨hF, hR, -⟩ := good_run hG (by decide) hs0 hSO (by omega) p0 [] 3
    have HMD := Lib.hid fun (w' : World) (v : Value) (h : SeesP w' v (chainL ss dd)) => Made19_any (chainL ss dd) N from_ v w' h hPO (by omega) (by omega) (by omega) hf
    rw [Int.toNat_natCast] at HMD
    have HGK := Lib.hid fun (e : Ent) (he : e ∈ madeL (chainL ss dd) from_ N) => (show e.ok ∧ e.box.length ≤ 20000000000000 from ⟨⟨Int.le_of_lt ((hG e he).ok hSO).1, Int.lt_trans ((hG e he).ok hSO).2 (by decide)⟩, by rw [hML e he]; decide⟩)
    have HNL := Lib.hid (length_madeL (chainL ss dd) from_ N)
    have hOO : ∀ e ∈ opened s0 0 (madeL (chainL ss dd) from_ N), e.ok ∧ e.box.length = 24 := fun e he => by
      refine ⟨opened_ok e he, ?_⟩
      obtain ⟨e0, he0, rfl⟩ := List.mem_map.1 he
      obtain ⟨out, h1, -⟩ := (hG e0 he0).open (show (0 : Nat) < 1 by decide) hs0 hSO (by omega)
      rw [show opE s0 0 e0 = some out from h1]
      have h2 := (opE_ok (show opE s0 0 e0 = some out from h1)).2
      have h3 := hML e0 he0
      show out.box.length = 24
      omega
    have hRE : (runL s0 p0 ((0 : Nat) : Int) (madeL (chainL ss dd) from_ N) [] 3).es = opened s0 0 (madeL (chainL ss dd) from_ N) := by
      rw [hR]; unfold orderL
      rw [if_neg (fun h => by have := h.1; rw [length_opened, HNL.out] at this; simp at this; omega)]
      rfl
    have hRP : (runL s0 p0 ((0 : Nat) : Int) (madeL (chainL ss dd) from_ N) [] 3).p.ok := by
      unfold runL; rw [if_pos hF]
      exact equalP_ok _ _ _ _ _ _
    have HOL := Lib.hid (show (opened s0 0 (madeL (chainL ss dd) from_ N)).length = N by rw [length_opened]; exact HNL.out)
    generalize hM : madeL (chainL ss dd) from_ N = M at *
    have HRU := Lib.hid fun (u : World) (v : Value) (hv : SlR entR 0 u v M) => HRun_any s0 p0 ((0 : Nat) : Int) M [] 3 0 v (.slice none 0 0) u hs0o hp0o (by decide) hv (SlR.nil _ _) (fun e he => HGK.out e he) (by have := HNL.out; omega) (by decide)
    unfold RetH at HRU
    rw [hF, hRE] at HRU
    generalize (runL s0 p0 ((0 : Nat) : Int) M [] 3).p = PR at *
    obtain ⟨pc, ps⟩ := PR
    generalize opened s0 0 M = O at *
    have HOO := Lib.hid hOO; have HPR0 := Lib.hid hRP
    have HCA := Lib.hid fun (x : Pas) (hc : x.p.ok) (hxo : ∀ e ∈ x.es, e.ok ∧ e.box.length ≤ 20000000000000) (u : World) (vi vx : Value) (hi : SlR entR 0 u vi M) (hx : SlR entR 0 u vx x.es) => HCheck_any p0 M x 0 vi vx u hp0o hc hi hx (fun e he => (HGK.out e he).1) hxo (by have := HNL.out; omega)
    have HCB := Lib.hid fun (x : Pas) (hc : x.p.ok) (hxo : ∀ e ∈ x.es, e.ok ∧ e.box.length ≤ 20000000000000) (u : World) (vi vx : Value) (hi : SlR entR 0 u vi M) (hx : SlR entR 0 u vx x.es) => HCheckr_any p0 M x 0 vi vx u hp0o hc hi hx (fun e he => (HGK.out e he).1) hxo (by have := HNL.out; omega)
    have HLS := Lib.hid hLS; have HLP := Lib.hid hLP; have HS0 := Lib.hid hs0; have HP0 := Lib.hid hp0
    clear hM hF hR hRE hG hML hOO hRP hs0o hp0o hLS hLP hs0 hp0 hSO hPO
    generalize chainL ss dd = ps_ at *
    have HIS := Lib.hid (show (Tryz.prog.info? 41).map (·.size) = some s0.cells.length from info_sec)
    have HIP := Lib.hid (show (Tryz.prog.info? 49).map (·.size) = some p0.cells.length from info_pub)
    go_enter Tryz.func5, Tryz.ntmps5
    go_wp2_with (first
      | (go_at_call 6; refine (alive19_any _).mono ?_; rintro e w1 ⟨rfl, hb1⟩; have hkey1 := hk0.out.below hb1; have e1 : Ext w w1 := Ext.tr hb0.out hb1)
      | (refine wpList_load_row rfl 23 _ rfl w.heap.size rfl _ (keyA seed) (0, 0) _ hkey1 under_key rfl (by rw [keyA_size, HK.out]; exact info_key) ?_)
      | (go_at_call 7; refine (HRR.out _).mono ?_; rintro e w2 ⟨v2, u2, rfl, hok2, hb2⟩
         have hbel2 : Ext w w2 := Ext.tr e1 hb2
         have HS2 := Lib.hid (show SeesS w2 v2 ss from sees_of_owns (hok2 (by decide)).1)
         have HP2 := Lib.hid (show SeesP w2 u2 ps_ from sees_of_owns (hok2 (by decide)).2)
         clear hok2)
      | (go_at_call 8; refine (HMD.out _ _ HP2.out).mono ?_; rintro e w3 ⟨v3, rfl, hown3, hb3⟩
         obtain ⟨a3, c3, rfl, -, -⟩ := hown3.sl.form
         have hbel3 : Ext w w3 := Ext.tr hbel2 hb3))
    rw [HNL.out]
    obtain ⟨bS, oS, cS, rfl, -, -, -⟩ := seesS_open HS2.out (by rw [HLS.out]; decide)
    obtain ⟨bP, oP, cP, rfl, -, -, -⟩ := seesP_open HP2.out (by rw [HLP.out]; decide)
    have HSR := Lib.hid (show w2.rangeAt bS oS s0.cells from by have := seesS_at HS2.out (by rw [HLS.out]; decide) 0 s0 HS0.out; simpa using this)
    have HPR := Lib.hid (show w2.rangeAt bP oP p0.cells from by have := seesP_at HP2.out (by rw [HLP.out]; decide) 0 p0 HP0.out; simpa using this)
    rw [HLS.out, HLP.out]
    have HMV := Lib.hid (show SlR entR 0 w3 (.slice a3 N c3) M from by have h := hown3.sl; rw [HNL.out] at h; exact h)
    have HX3 := Lib.hid hbel3; have HX23 := Lib.hid (show Ext w2 w3 from hb3)
    clear hown3 hb3 hbel3 HMD HRR HP2
    have hst := stabE w3
    have hk6 : HoldT (fun u => Ext w3 u) w w3.drew := HoldT.drew hst ⟨Ext.refl _, HX3.out⟩
    try change Code.wp _ _ _ (Act.mk _ _) _
    haveI hne_ : Nonempty (InC (fun u => Ext w3 u)) := ⟨⟨_, (hk6).1⟩⟩
    refine wp_region_tr (C := fun w_ => ∃ e_ : InC (fun u => Ext w3 u), w_ = e_.u) (.step [0, 1, 2, 3, 4, 5, 6] (.alt 7 (.step [8, 9, 10] (.alt 11 (.step [] (.alt 12 (.fin [13]) .nil)) .nil)) (.alt 11 (.step [] (.alt 7 (.step [8, 9, 10] (.alt 12 (.fin [13]) .nil)) .nil)) .nil))) (by kernel_rfl) (by kernel_rfl) (fun _ _ _ _ hd_ h_ => ⟨hd_.symm.trans h_.1, h_.2⟩) ⟨⟨World.drew _, (hk6).1⟩, rfl⟩ ?_
    have hk_ := hk6
    repeat' (first
      | ((with_reducible refine wpTr_fin ?_)
         simp only [pickOps, List.flatMap_cons, List.flatMap_nil, List.drop_succ_cons, List.drop_zero, List.take_succ_cons, List.take_zero, List.cons_append, List.nil_append, List.append_nil]
         repeat (first | (first | (refine wpQuiet_load_mid rfl 41 (.tmp 50) rfl bS oS rfl s0.cells _ (fun w_ hw_ => by obtain ⟨e_, rfl⟩ := hw_; exact range_below HSR.out (Ext.tr HX23.out e_.has)) Tryz.underlying41 rfl HIS.out ?_; simp only [Act.put, List.setIfInBounds_toArray, List.set_cons_succ, List.set_cons_zero]) | (refine wpQuiet_load_mid rfl 49 (.tmp 53) rfl bP oP rfl p0.cells _ (fun w_ hw_ => by obtain ⟨e_, rfl⟩ := hw_; exact range_below HPR.out (Ext.tr HX23.out e_.has)) Tryz.underlying49 rfl HIP.out ?_; simp only [Act.put, List.setIfInBounds_toArray, List.set_cons_succ, List.set_cons_zero])) | go_big_quiet_step (exact rfl))
         refine wpQuiet_nil ?_)
      | ((with_reducible refine wpTr_step ?_); simp only [pickOps, List.flatMap_cons, List.flatMap_nil, List.drop_succ_cons, List.drop_zero, List.take_succ_cons, List.take_zero, List.cons_append, List.nil_append, List.append_nil]; repeat (first | (first | (refine wpQuiet_load_mid rfl 41 (.tmp 50) rfl bS oS rfl s0.cells _ (fun w_ hw_ => by obtain ⟨e_, rfl⟩ := hw_; exact range_below HSR.out (Ext.tr HX23.out e_.has)) Tryz.underlying41 rfl HIS.out ?_; simp only [Act.put, List.setIfInBounds_toArray, List.set_cons_succ, List.set_cons_zero]) | (refine wpQuiet_load_mid rfl 49 (.tmp 53) rfl bP oP rfl p0.cells _ (fun w_ hw_ => by obtain ⟨e_, rfl⟩ := hw_; exact range_below HPR.out (Ext.tr HX23.out e_.has)) Tryz.underlying49 rfl HIP.out ?_; simp only [Act.put, List.setIfInBounds_toArray, List.set_cons_succ, List.set_cons_zero])) | go_big_quiet_step (exact rfl))
         refine wpQuiet_nil ?_)
      | (with_reducible refine wpTr_one ?_)
      | (with_reducible refine wpTr_alt ?_ ?_)
      | (simp only [pickOps, List.flatMap_cons, List.flatMap_nil, List.drop_succ_cons, List.drop_zero, List.take_succ_cons, List.take_zero, List.cons_append, List.nil_append, List.append_nil]
         go_wp2_with (first
      | (go_at_call 11; refine (HRU.out _ _ (HMV.out.ext hk_.has)).mono ?_; rintro r_ x5 ⟨vE, vB, rfl, hE5, hB5, e5⟩; have hE5 := hE5.mono (Nat.le_refl 0) (Below.size hk_.has); obtain ⟨aE, cE, rfl, -, -⟩ := hE5.form; obtain ⟨aB, cB, rfl, -, -⟩ := hB5.form; have hk5 := HoldT.step hst hk_ e5; have e5' : Ext _ x5 := e5)
      | (refine wpList_allocB rfl _ rfl PasZ run_allocPas2 ?_; intro x6 g hG hg6 e6; have hg0 := Nat.le_trans (Below.size hk_.has) hg6; have hk6 := HoldT.step hst hk_ e6; have e6' : Ext _ x6 := e6)
      | (refine wpList_store_row rfl 45 (.tmp 16) _ rfl g #[.slice aE O.length cE, .int .u64 pc, .int .u64 ps] _ _ rfl rfl (exBl hG) rfl info_pas (one_pas2 _ _ _ _ _) ?_; intro x7 hg7 hs7 hR7
         have hwg : w.heap.size ≤ g := Nat.le_trans (Below.size HX3.out) hg0
         have hbel7 : Ext w3 x7 := ext_row hk_.has hg7 hg0
         have hk7 : HoldT (fun u => Ext w3 u) w x7 := ⟨hbel7, ext_row hk_.up hg7 hwg⟩
         have hE7 := (hE5.ext (w := x5)).grownT hg7 (RowT.blk (exBl hG)) (by decide) (by decide) (fun _ _ => Nat.zero_le _)
         clear hs7))
         refine phPost_hold (by first | with_reducible assumption | exact HoldT.alloc hstab (by with_reducible assumption) _ | exact HoldT.alloc hstab (HoldT.alloc hstab (by with_reducible assumption) _) _) ?_
         intro hk_))
    all_goals (
      rw [HOL.out] at hR7 hE7 ⊢
      have hq7 : x7.cell? ⟨g, 0, none⟩ = some (.slice aE N cE) := by rw [hR7.cell]; rfl
      obtain ⟨T, hT, hTN⟩ : ∃ T : Nat, (A : Int) % (N : Int) = (T : Int) ∧ T < N := ⟨A % N, (Int.natCast_emod A N).symm, Nat.mod_lt _ (by omega)⟩
      obtain ⟨gE, hgEe, curE, ⟨hblkE, hcsE⟩, hgE⟩ := own_blk20 hE7 (by rw [HOL.out]; omega)
      subst hgEe
      rw [HOL.out] at hcsE
      have hgg : gE ≠ g := fun e => by
        subst e
        have h1 : Blk x7 gE curE 36 := hblkE
        have h2 := Option.some.inj (h1.symm.trans hR7)
        injection h2 with _ e2 _
        exact absurd e2 (by decide)
      have HE7 := Lib.hid hE7; have HR7 := Lib.hid hR7; have HX7 := Lib.hid hbel7; have HU7 := Lib.hid hk_.up; have HT := Lib.hid hT; have HBE := Lib.hid (show Blk x7 gE curE 36 from hblkE); have HG0 := Lib.hid hg0
      clear hE7 hE5 hB5 hR7 hT hblkE hg7 hG
      obtain ⟨eT, heT⟩ : ∃ e, O[T]? = some e := ⟨_, List.getElem?_eq_getElem (by rw [HOL.out]; exact hTN)⟩
      obtain ⟨heo, hel⟩ := HOO.out eT (List.mem_of_getElem? heT)
      obtain ⟨vT, hrT, hvT⟩ := slE_atR HE7.out.sl T eT heT
      obtain ⟨aT, cT, rfl, hcT1, hcT2⟩ := hvT.form
      rw [Nat.zero_add] at hrT
      have HRT := Lib.hid hrT; have HVT := Lib.hid hvT; have HET := Lib.hid heT
      clear hrT hvT heT
      have HOK1 := Lib.hid fun (e : Ent) (he : e ∈ O) => (show e.ok ∧ e.box.length ≤ 20000000000000 from ⟨(HOO.out e he).1, by rw [(HOO.out e he).2]; decide⟩)
      by_cases h0 : kind = 0
      · subst h0
        go_wp2_with fail
        clear hq7
        rw [HT.out]
        have hst := stabE x7
        have hk12 : HoldT (fun u => Ext x7 u) w x7.drew := HoldT.drew hst ⟨Ext.refl _, HU7.out⟩
        have hd1 : decide (N ≤ T) = false := decide_eq_false (by omega)
        try change Code.wp _ _ _ (Act.mk _ _) _
        refine wp_region_runR Ext 12 138 (HoldT (fun u => Ext x7 u) _) [[], [(0, 70)], [], [], [(3, 73)], [], [(4, 74), (5, 75)], [(6, 76)], [(7, 77)], [(8, 78)], [(1, 71), (2, 72)], [(10, 80)]] [(0, 70), (1, 71), (2, 72), (3, 73), (4, 74), (5, 75), (6, 76), (7, 77), (8, 78), (9, 79), (10, 80), (11, 81)] (by kernel_rfl) (by kernel_rfl) (by first | rfl | simp) (hk12) ?_
        simp only [List.take_succ_cons, List.take_zero, List.drop_succ_cons, List.drop_zero]
        refine sp_op (Ph.eq _) (fun u hu => by
          refine spArg_nil ?_
          have k1 := (pas_cell (HR7.out.below hu.has)).1
          have k2 : u.cell? ⟨gE, T * 2, none⟩ = some (.int .u64 eT.x) := by have := range_below HRT.out hu.has 0 _ rfl; rwa [Nat.add_zero] at this
          go_wp2_with (fail)
          exact ⟨rfl, hu, Ext.refl _, slot_eq rfl⟩) ?_
        refine sp_op (Ph.eq _) (fun u hu => by
          refine spArg_eq 0 rfl rfl ?_
          refine spArg_nil ?_
          simp only [Act.put, List.setIfInBounds_toArray, List.set_cons_succ, List.set_cons_zero]
          have k1 := (pas_cell (HR7.out.below hu.has)).1
          have k2 : u.cell? ⟨gE, T * 2, none⟩ = some (.int .u64 eT.x) := by have := range_below HRT.out hu.has 0 _ rfl; rwa [Nat.add_zero] at this
          go_wp2_with (fail)
          exact ⟨rfl, hu, Ext.refl _, slot_eq rfl⟩) ?_
        refine sp_op (Ph.eq _) (fun u hu => by
          refine spArg_nil ?_
          have k1 := (pas_cell (HR7.out.below hu.has)).1
          have k2 : u.cell? ⟨gE, T * 2, none⟩ = some (.int .u64 eT.x) := by have := range_below HRT.out hu.has 0 _ rfl; rwa [Nat.add_zero] at this
          go_wp2_with (fail)
          exact ⟨rfl, hu, Ext.refl _, slot_eq rfl⟩) ?_
        refine sp_op (Ph.eq _) (fun u hu => by
          refine spArg_nil ?_
          have k1 := (pas_cell (HR7.out.below hu.has)).1
          have k2 : u.cell? ⟨gE, T * 2, none⟩ = some (.int .u64 eT.x) := by have := range_below HRT.out hu.has 0 _ rfl; rwa [Nat.add_zero] at this
          go_wp2_with (fail)
          exact ⟨rfl, hu, Ext.refl _, slot_eq rfl⟩) ?_
        refine sp_op (Ph.eq _) (fun u hu => by
          refine spArg_eq 0 rfl rfl ?_
          refine spArg_nil ?_
          simp only [Act.put, List.setIfInBounds_toArray, List.set_cons_succ, List.set_cons_zero]
          have k1 := (pas_cell (HR7.out.below hu.has)).1
          have k2 : u.cell? ⟨gE, T * 2, none⟩ = some (.int .u64 eT.x) := by have := range_below HRT.out hu.has 0 _ rfl; rwa [Nat.add_zero] at this
          go_wp2_with (fail)
          exact ⟨rfl, hu, Ext.refl _, slot_eq rfl⟩) ?_
        refine sp_op (Ph.eq _) (fun u hu => by
          refine spArg_nil ?_
          have k1 := (pas_cell (HR7.out.below hu.has)).1
          have k2 : u.cell? ⟨gE, T * 2, none⟩ = some (.int .u64 eT.x) := by have := range_below HRT.out hu.has 0 _ rfl; rwa [Nat.add_zero] at this
          go_wp2_with (fail)
          exact ⟨rfl, hu, Ext.refl _, slot_eq rfl⟩) ?_
        refine sp_op (Ph.eq _) (fun u hu => by
          refine spArg_eq 1 rfl rfl ?_
          refine spArg_eq 0 rfl rfl ?_
          refine spArg_nil ?_
          simp only [Act.put, List.setIfInBounds_toArray, List.set_cons_succ, List.set_cons_zero]
          have k1 := (pas_cell (HR7.out.below hu.has)).1
          have k2 : u.cell? ⟨gE, T * 2, none⟩ = some (.int .u64 eT.x) := by have := range_below HRT.out hu.has 0 _ rfl; rwa [Nat.add_zero] at this
          go_wp2_with (fail)
          exact ⟨rfl, hu, Ext.refl _, slot_eq rfl⟩) ?_
        refine sp_op (Ph.eq _) (fun u hu => by
          refine spArg_eq 0 rfl rfl ?_
          refine spArg_nil ?_
          simp only [Act.put, List.setIfInBounds_toArray, List.set_cons_succ, List.set_cons_zero]
          have k1 := (pas_cell (HR7.out.below hu.has)).1
          have k2 : u.cell? ⟨gE, T * 2, none⟩ = some (.int .u64 eT.x) := by have := range_below HRT.out hu.has 0 _ rfl; rwa [Nat.add_zero] at this
          go_wp2_with (fail)
          exact ⟨rfl, hu, Ext.refl _, slot_eq rfl⟩) ?_
        refine sp_op (Ph.eq _) (fun u hu => by
          refine spArg_eq 0 rfl rfl ?_
          refine spArg_nil ?_
          simp only [Act.put, List.setIfInBounds_toArray, List.set_cons_succ, List.set_cons_zero]
          have k1 := (pas_cell (HR7.out.below hu.has)).1
          have k2 : u.cell? ⟨gE, T * 2, none⟩ = some (.int .u64 eT.x) := by have := range_below HRT.out hu.has 0 _ rfl; rwa [Nat.add_zero] at this
          go_wp2_with (fail)
          exact ⟨rfl, hu, Ext.refl _, slot_eq rfl⟩) ?_
        refine sp_op (Ph.eq _) (fun u hu => by
          refine spArg_eq 0 rfl rfl ?_
          refine spArg_nil ?_
          simp only [Act.put, List.setIfInBounds_toArray, List.set_cons_succ, List.set_cons_zero]
          have k1 := (pas_cell (HR7.out.below hu.has)).1
          have k2 : u.cell? ⟨gE, T * 2, none⟩ = some (.int .u64 eT.x) := by have := range_below HRT.out hu.has 0 _ rfl; rwa [Nat.add_zero] at this
          go_wp2_with ((go_at_call 18; refine (MulP_any eT.x 37 _ heo.1 heo.2 (by decide) (by decide)).mono ?_; rintro e_ x_ ⟨rfl, rfl⟩))
          exact ⟨rfl, hu, Ext.refl _, slot_eq rfl⟩) ?_
        refine sp_op (Ph.eq _) (fun u hu => by
          refine spArg_eq 8 rfl rfl ?_
          refine spArg_eq 7 rfl rfl ?_
          refine spArg_nil ?_
          simp only [Act.put, List.setIfInBounds_toArray, List.set_cons_succ, List.set_cons_zero]
          have k1 := (pas_cell (HR7.out.below hu.has)).1
          have k2 : u.cell? ⟨gE, T * 2, none⟩ = some (.int .u64 eT.x) := by have := range_below HRT.out hu.has 0 _ rfl; rwa [Nat.add_zero] at this
          go_wp2_with (fail)
          exact ⟨rfl, hu, Ext.refl _, slot_eq rfl⟩) ?_
        refine sp_op (Ph.eq _) (fun u hu => by
          refine spArg_eq 0 rfl rfl ?_
          refine spArg_nil ?_
          simp only [Act.put, List.setIfInBounds_toArray, List.set_cons_succ, List.set_cons_zero]
          have k1 := (pas_cell (HR7.out.below hu.has)).1
          have k2 : u.cell? ⟨gE, T * 2, none⟩ = some (.int .u64 eT.x) := by have := range_below HRT.out hu.has 0 _ rfl; rwa [Nat.add_zero] at this
          go_wp2_with (fail)
          exact ⟨rfl, hu, Ext.refl _, slot_eq rfl⟩) ?_
        refine sp_end ?_
        intro u hu
        refine spArg_eq 11 rfl rfl ?_
        refine spArg_eq 10 rfl rfl ?_
        refine spArg_eq 9 rfl rfl ?_
        refine spArg_eq 8 rfl rfl ?_
        refine spArg_eq 7 rfl rfl ?_
        refine spArg_eq 6 rfl rfl ?_
        refine spArg_eq 5 rfl rfl ?_
        refine spArg_eq 4 rfl rfl ?_
        refine spArg_eq 3 rfl rfl ?_
        refine spArg_eq 2 rfl rfl ?_
        refine spArg_eq 1 rfl rfl ?_
        refine spArg_eq 0 rfl rfl ?_
        refine spArg_nil ?_
        simp only [Act.put, List.setIfInBounds_toArray, List.set_cons_succ, List.set_cons_zero]
        have hcu : u.cell? ⟨gE, T * 2, none⟩ = some (.int .u64 eT.x) := by have := range_below HRT.out hu.has 0 _ rfl; rwa [Nat.add_zero] at this
        have hfu := (HBE.out.below hu.has).free (T * 2)
        have hmp : in64 (eT.x * 37 % 2305843009213693951) := ⟨Int.emod_nonneg _ (by decide), Int.lt_trans (Int.emod_lt_of_pos _ (by decide)) (by decide)⟩
        generalize eT.x * 37 % 2305843009213693951 = MX at *
        have hO := OwR.setAt (HE7.out.ext hu.has) (i := T) (j := 0) (a' := ⟨MX, eT.box⟩) HET.out (by decide) (.int .u64 MX) (fun cs hc => by
          obtain ⟨v, hc1, hc2⟩ := hc
          exact ⟨v, by rw [hc1]; rfl, hc2⟩) (by decide) (Nat.zero_le _)
        rw [show 0 + T * entR.sz + 0 = T * 2 from by show 0 + T * 2 + 0 = T * 2; omega] at hO
        have HSL := Lib.hid hO.sl
        have HBL := Lib.hid ((HR7.out.below hu.has).setCell ⟨gE, T * 2, none⟩ (.int .u64 MX) (Ne.symm hgg))
        have HY3 := Lib.hid (show Ext w3 (u.setCell ⟨gE, T * 2, none⟩ (.int .u64 MX)) from Below.setCell (Ext.tr HX7.out hu.has) hgE _)
        have HY := Lib.hid (show Ext w (u.setCell ⟨gE, T * 2, none⟩ (.int .u64 MX)) from Below.setCell hu.up (Nat.le_trans (Below.size HX3.out) hgE) _)
        have HOK2 := Lib.hid fun (e : Ent) (he : e ∈ O.set T ⟨MX, eT.box⟩) => (show e.ok ∧ e.box.length ≤ 20000000000000 from by
          rcases List.mem_or_eq_of_mem_set he with h | h
          · exact HOK1.out e h
          · subst h; exact ⟨hmp, by show eT.box.length ≤ _; rw [hel]; decide⟩)
        have HPK := HPR0
        clear hO
        go_wp2_with fail
        clear hcu hfu
        obtain ⟨y, hy⟩ : ∃ y, u.setCell ⟨gE, T * 2, none⟩ (.int .u64 MX) = y := ⟨_, rfl⟩
        rw [hy] at HSL HBL HY3 HY ⊢
        clear hu hy
        have HQA := Lib.hid fun (u : World) (h : Ext y u) => HCA.out ⟨(O.set T ⟨MX, eT.box⟩), ⟨pc, ps⟩⟩ HPK.out HOK2.out u _ _ (HMV.out.ext (Ext.tr HY3.out h)) (HSL.out.ext h)
        have HQB := Lib.hid fun (u : World) (h : Ext y u) => HCB.out ⟨(O.set T ⟨MX, eT.box⟩), ⟨pc, ps⟩⟩ HPK.out HOK2.out u _ _ (HMV.out.ext (Ext.tr HY3.out h)) (HSL.out.ext h)
        clear HCA HCB
        generalize checkB p0 M ⟨(O.set T ⟨MX, eT.box⟩), ⟨pc, ps⟩⟩ = d at *
        have hst := stabE y
        have hk21 : HoldT (fun u => Ext y u) w (y).drew := HoldT.drew hst ⟨Ext.refl _, HY.out⟩
        try change Code.wp _ _ _ (Act.mk _ _) _
        refine wp_region_runR Ext 14 138 (HoldT (fun u => Ext y u) _) [[], [(0, 125)], [(1, 126)], [], [], [(2, 127), (3, 128), (4, 129)], [], [(6, 131)], [(7, 132)], [], [], [(8, 133), (9, 134), (10, 135)], [(5, 130), (11, 136)], [(12, 137)]] [(0, 125), (1, 126), (2, 127), (3, 128), (4, 129), (5, 130), (6, 131), (7, 132), (8, 133), (9, 134), (10, 135), (11, 136), (12, 137), (13, 10)] (by kernel_rfl) (by kernel_rfl) (by first | rfl | simp) (hk21) ?_
        simp only [List.take_succ_cons, List.take_zero, List.drop_succ_cons, List.drop_zero]
        refine sp_op (Ph.eq _) (fun u hu => by
          refine spArg_nil ?_
          go_wp2_with (fail)
          exact ⟨rfl, hu, Ext.refl _, slot_eq rfl⟩) ?_
        refine sp_op (Ph.eq _) (fun u hu => by
          refine spArg_eq 0 rfl rfl ?_
          refine spArg_nil ?_
          simp only [Act.put, List.setIfInBounds_toArray, List.set_cons_succ, List.set_cons_zero]
          go_wp2_with (fail)
          exact ⟨rfl, hu, Ext.refl _, slot_eq rfl⟩) ?_
        refine sp_op (Ph.eq (.agg p0.cells.toArray)) (fun u hu => by
          refine spArg_eq 0 rfl rfl ?_
          refine spArg_nil ?_
          simp only [Act.put, List.setIfInBounds_toArray, List.set_cons_succ, List.set_cons_zero]
          go_wp2_with ((refine wpList_load_mid rfl 49 _ rfl bP oP rfl _ _ (range_below HPR.out (Ext.tr HX23.out (Ext.tr HY3.out hu.has))) Tryz.underlying49 rfl HIP.out ?_))
          exact ⟨rfl, hu, Ext.refl _, slot_eq rfl⟩) ?_
        refine sp_op (Ph.eq _) (fun u hu => by
          refine spArg_nil ?_
          go_wp2_with (fail)
          exact ⟨rfl, hu, Ext.refl _, slot_eq rfl⟩) ?_
        refine sp_op (Ph.eq (.agg _)) (fun u hu => by
          refine spArg_nil ?_
          go_wp2_with ((refine wpList_load_row rfl 45 _ rfl g rfl _ _ (0, 0) _ (HBL.out.below hu.has) Tryz.underlying45 rfl info_pas ?_))
          exact ⟨rfl, hu, Ext.refl _, slot_eq rfl⟩) ?_
        refine sp_op (Ph.eq _) (fun u hu => by
          refine spArg_eq 2 rfl rfl ?_
          refine spArg_eq 1 rfl rfl ?_
          refine spArg_eq 0 rfl rfl ?_
          refine spArg_nil ?_
          simp only [Act.put, List.setIfInBounds_toArray, List.set_cons_succ, List.set_cons_zero]
          go_wp2_with ((go_at_call 13; refine (HQA.out _ hu.has).mono ?_; rintro e_ x_ ⟨rfl, hb_⟩))
          exact ⟨rfl, HoldT.step hst hu hb_, hb_, slot_eq rfl⟩) ?_
        refine sp_op (Ph.eq _) (fun u hu => by
          refine spArg_nil ?_
          go_wp2_with (fail)
          exact ⟨rfl, hu, Ext.refl _, slot_eq rfl⟩) ?_
        refine sp_op (Ph.eq _) (fun u hu => by
          refine spArg_eq 0 rfl rfl ?_
          refine spArg_nil ?_
          simp only [Act.put, List.setIfInBounds_toArray, List.set_cons_succ, List.set_cons_zero]
          go_wp2_with (fail)
          exact ⟨rfl, hu, Ext.refl _, slot_eq rfl⟩) ?_
        refine sp_op (Ph.eq (.agg p0.cells.toArray)) (fun u hu => by
          refine spArg_eq 0 rfl rfl ?_
          refine spArg_nil ?_
          simp only [Act.put, List.setIfInBounds_toArray, List.set_cons_succ, List.set_cons_zero]
          go_wp2_with ((refine wpList_load_mid rfl 49 _ rfl bP oP rfl _ _ (range_below HPR.out (Ext.tr HX23.out (Ext.tr HY3.out hu.has))) Tryz.underlying49 rfl HIP.out ?_))
          exact ⟨rfl, hu, Ext.refl _, slot_eq rfl⟩) ?_
        refine sp_op (Ph.eq _) (fun u hu => by
          refine spArg_nil ?_
          go_wp2_with (fail)
          exact ⟨rfl, hu, Ext.refl _, slot_eq rfl⟩) ?_
        refine sp_op (Ph.eq (.agg _)) (fun u hu => by
          refine spArg_nil ?_
          go_wp2_with ((refine wpList_load_row rfl 45 _ rfl g rfl _ _ (0, 0) _ (HBL.out.below hu.has) Tryz.underlying45 rfl info_pas ?_))
          exact ⟨rfl, hu, Ext.refl _, slot_eq rfl⟩) ?_
        refine sp_op (Ph.eq _) (fun u hu => by
          refine spArg_eq 2 rfl rfl ?_
          refine spArg_eq 1 rfl rfl ?_
          refine spArg_eq 0 rfl rfl ?_
          refine spArg_nil ?_
          simp only [Act.put, List.setIfInBounds_toArray, List.set_cons_succ, List.set_cons_zero]
          go_wp2_with ((go_at_call 20; refine (HQB.out _ hu.has).mono ?_; rintro e_ x_ ⟨rfl, hb_⟩))
          exact ⟨rfl, HoldT.step hst hu hb_, hb_, slot_eq rfl⟩) ?_
        refine sp_op (Ph.eq _) (fun u hu => by
          refine spArg_eq 6 rfl rfl ?_
          refine spArg_eq 0 rfl rfl ?_
          refine spArg_nil ?_
          simp only [Act.put, List.setIfInBounds_toArray, List.set_cons_succ, List.set_cons_zero]
          go_wp2_with (fail)
          exact ⟨rfl, hu, Ext.refl _, slot_eq rfl⟩) ?_
        refine sp_op (Ph.eq _) (fun u hu => by
          refine spArg_eq 0 rfl rfl ?_
          refine spArg_nil ?_
          simp only [Act.put, List.setIfInBounds_toArray, List.set_cons_succ, List.set_cons_zero]
          go_wp2_with (fail)
          exact ⟨rfl, hu, Ext.refl _, slot_eq rfl⟩) ?_
        refine sp_end ?_
        intro u hu
        refine spArg_eq 13 rfl rfl ?_
        refine spArg_eq 12 rfl rfl ?_
        refine spArg_eq 11 rfl rfl ?_
        refine spArg_eq 10 rfl rfl ?_
        refine spArg_eq 9 rfl rfl ?_
        refine spArg_eq 8 rfl rfl ?_
        refine spArg_eq 7 rfl rfl ?_
        refine spArg_eq 6 rfl rfl ?_
        refine spArg_eq 5 rfl rfl ?_
        refine spArg_eq 4 rfl rfl ?_
        refine spArg_eq 3 rfl rfl ?_
        refine spArg_eq 2 rfl rfl ?_
        refine spArg_eq 1 rfl rfl ?_
        refine spArg_eq 0 rfl rfl ?_
        refine spArg_nil ?_
        simp only [Act.put, List.setIfInBounds_toArray, List.set_cons_succ, List.set_cons_zero]
        go_wp2_with fail
        go_ret
        exact ⟨by simp, hu.up⟩
      · have z0 : (kind == 0) = false := by rw [beq_eq_false_iff_ne]; exact h0
        by_cases h1 : kind = 1
        · subst h1
          have hq2 : x7.cell? ⟨g, 2, none⟩ = some (.int .u64 ps) := by rw [HR7.out.cell]; rfl
          have hf2 := HR7.out.free 2
          have hps := HPR0.out.2
          have hna : in64 (addN ps 1) := by unfold addN; constructor <;> omega
          have HAD := Lib.hid fun (u : World) => AddN_any ps 1 u hps.1 hps.2 (by decide) (by decide)
          generalize addN ps 1 = AN at *
          have HBL := Lib.hid (show Blk (x7.setCell ⟨g, 2, none⟩ (.int .u64 AN)) g #[.slice (some ⟨gE, 0, none⟩) N cE, .int .u64 pc, .int .u64 AN] 45 from HR7.out.set 2 (.int .u64 AN))
          have HSL := Lib.hid ((HE7.out.grownT (grownBy_cell x7 g 2 (.int .u64 AN)) (RowT.blk HR7.out) (by decide) (by decide) (fun _ _ => Nat.zero_le _)).sl)
          have HY3 := Lib.hid (show Ext w3 (x7.setCell ⟨g, 2, none⟩ (.int .u64 AN)) from Below.setCell HX7.out HG0.out _)
          have HY := Lib.hid (show Ext w (x7.setCell ⟨g, 2, none⟩ (.int .u64 AN)) from Below.setCell HU7.out (Nat.le_trans (Below.size HX3.out) HG0.out) _)
          have HOK2 := HOK1
          have HPK := Lib.hid (show (⟨pc, AN⟩ : Prf).ok from ⟨HPR0.out.1, hna⟩)
          go_wp2_with (go_at_call 19; refine (HAD.out _).mono ?_; rintro r_ y_ ⟨rfl, rfl⟩)
          clear hq7 hq2 hf2
          obtain ⟨y, hy⟩ : ∃ y, x7.setCell ⟨g, 2, none⟩ (.int .u64 AN) = y := ⟨_, rfl⟩
          rw [hy] at HSL HBL HY3 HY ⊢
          clear hy
          have HQA := Lib.hid fun (u : World) (h : Ext y u) => HCA.out ⟨O, ⟨pc, AN⟩⟩ HPK.out HOK2.out u _ _ (HMV.out.ext (Ext.tr HY3.out h)) (HSL.out.ext h)
          have HQB := Lib.hid fun (u : World) (h : Ext y u) => HCB.out ⟨O, ⟨pc, AN⟩⟩ HPK.out HOK2.out u _ _ (HMV.out.ext (Ext.tr HY3.out h)) (HSL.out.ext h)
          clear HCA HCB
          generalize checkB p0 M ⟨O, ⟨pc, AN⟩⟩ = d at *
          have hst := stabE y
          have hk21 : HoldT (fun u => Ext y u) w (y).drew := HoldT.drew hst ⟨Ext.refl _, HY.out⟩
          try change Code.wp _ _ _ (Act.mk _ _) _
          refine wp_region_runR Ext 14 138 (HoldT (fun u => Ext y u) _) [[], [(0, 125)], [(1, 126)], [], [], [(2, 127), (3, 128), (4, 129)], [], [(6, 131)], [(7, 132)], [], [], [(8, 133), (9, 134), (10, 135)], [(5, 130), (11, 136)], [(12, 137)]] [(0, 125), (1, 126), (2, 127), (3, 128), (4, 129), (5, 130), (6, 131), (7, 132), (8, 133), (9, 134), (10, 135), (11, 136), (12, 137), (13, 10)] (by kernel_rfl) (by kernel_rfl) (by first | rfl | simp) (hk21) ?_
          simp only [List.take_succ_cons, List.take_zero, List.drop_succ_cons, List.drop_zero]
          refine sp_op (Ph.eq _) (fun u hu => by
            refine spArg_nil ?_
            go_wp2_with (fail)
            exact ⟨rfl, hu, Ext.refl _, slot_eq rfl⟩) ?_
          refine sp_op (Ph.eq _) (fun u hu => by
            refine spArg_eq 0 rfl rfl ?_
            refine spArg_nil ?_
            simp only [Act.put, List.setIfInBounds_toArray, List.set_cons_succ, List.set_cons_zero]
            go_wp2_with (fail)
            exact ⟨rfl, hu, Ext.refl _, slot_eq rfl⟩) ?_
          refine sp_op (Ph.eq (.agg p0.cells.toArray)) (fun u hu => by
            refine spArg_eq 0 rfl rfl ?_
            refine spArg_nil ?_
            simp only [Act.put, List.setIfInBounds_toArray, List.set_cons_succ, List.set_cons_zero]
            go_wp2_with ((refine wpList_load_mid rfl 49 _ rfl bP oP rfl _ _ (range_below HPR.out (Ext.tr HX23.out (Ext.tr HY3.out hu.has))) Tryz.underlying49 rfl HIP.out ?_))
            exact ⟨rfl, hu, Ext.refl _, slot_eq rfl⟩) ?_
          refine sp_op (Ph.eq _) (fun u hu => by
            refine spArg_nil ?_
            go_wp2_with (fail)
            exact ⟨rfl, hu, Ext.refl _, slot_eq rfl⟩) ?_
          refine sp_op (Ph.eq (.agg _)) (fun u hu => by
            refine spArg_nil ?_
            go_wp2_with ((refine wpList_load_row rfl 45 _ rfl g rfl _ _ (0, 0) _ (HBL.out.below hu.has) Tryz.underlying45 rfl info_pas ?_))
            exact ⟨rfl, hu, Ext.refl _, slot_eq rfl⟩) ?_
          refine sp_op (Ph.eq _) (fun u hu => by
            refine spArg_eq 2 rfl rfl ?_
            refine spArg_eq 1 rfl rfl ?_
            refine spArg_eq 0 rfl rfl ?_
            refine spArg_nil ?_
            simp only [Act.put, List.setIfInBounds_toArray, List.set_cons_succ, List.set_cons_zero]
            go_wp2_with ((go_at_call 13; refine (HQA.out _ hu.has).mono ?_; rintro e_ x_ ⟨rfl, hb_⟩))
            exact ⟨rfl, HoldT.step hst hu hb_, hb_, slot_eq rfl⟩) ?_
          refine sp_op (Ph.eq _) (fun u hu => by
            refine spArg_nil ?_
            go_wp2_with (fail)
            exact ⟨rfl, hu, Ext.refl _, slot_eq rfl⟩) ?_
          refine sp_op (Ph.eq _) (fun u hu => by
            refine spArg_eq 0 rfl rfl ?_
            refine spArg_nil ?_
            simp only [Act.put, List.setIfInBounds_toArray, List.set_cons_succ, List.set_cons_zero]
            go_wp2_with (fail)
            exact ⟨rfl, hu, Ext.refl _, slot_eq rfl⟩) ?_
          refine sp_op (Ph.eq (.agg p0.cells.toArray)) (fun u hu => by
            refine spArg_eq 0 rfl rfl ?_
            refine spArg_nil ?_
            simp only [Act.put, List.setIfInBounds_toArray, List.set_cons_succ, List.set_cons_zero]
            go_wp2_with ((refine wpList_load_mid rfl 49 _ rfl bP oP rfl _ _ (range_below HPR.out (Ext.tr HX23.out (Ext.tr HY3.out hu.has))) Tryz.underlying49 rfl HIP.out ?_))
            exact ⟨rfl, hu, Ext.refl _, slot_eq rfl⟩) ?_
          refine sp_op (Ph.eq _) (fun u hu => by
            refine spArg_nil ?_
            go_wp2_with (fail)
            exact ⟨rfl, hu, Ext.refl _, slot_eq rfl⟩) ?_
          refine sp_op (Ph.eq (.agg _)) (fun u hu => by
            refine spArg_nil ?_
            go_wp2_with ((refine wpList_load_row rfl 45 _ rfl g rfl _ _ (0, 0) _ (HBL.out.below hu.has) Tryz.underlying45 rfl info_pas ?_))
            exact ⟨rfl, hu, Ext.refl _, slot_eq rfl⟩) ?_
          refine sp_op (Ph.eq _) (fun u hu => by
            refine spArg_eq 2 rfl rfl ?_
            refine spArg_eq 1 rfl rfl ?_
            refine spArg_eq 0 rfl rfl ?_
            refine spArg_nil ?_
            simp only [Act.put, List.setIfInBounds_toArray, List.set_cons_succ, List.set_cons_zero]
            go_wp2_with ((go_at_call 20; refine (HQB.out _ hu.has).mono ?_; rintro e_ x_ ⟨rfl, hb_⟩))
            exact ⟨rfl, HoldT.step hst hu hb_, hb_, slot_eq rfl⟩) ?_
          refine sp_op (Ph.eq _) (fun u hu => by
            refine spArg_eq 6 rfl rfl ?_
            refine spArg_eq 0 rfl rfl ?_
            refine spArg_nil ?_
            simp only [Act.put, List.setIfInBounds_toArray, List.set_cons_succ, List.set_cons_zero]
            go_wp2_with (fail)
            exact ⟨rfl, hu, Ext.refl _, slot_eq rfl⟩) ?_
          refine sp_op (Ph.eq _) (fun u hu => by
            refine spArg_eq 0 rfl rfl ?_
            refine spArg_nil ?_
            simp only [Act.put, List.setIfInBounds_toArray, List.set_cons_succ, List.set_cons_zero]
            go_wp2_with (fail)
            exact ⟨rfl, hu, Ext.refl _, slot_eq rfl⟩) ?_
          refine sp_end ?_
          intro u hu
          refine spArg_eq 13 rfl rfl ?_
          refine spArg_eq 12 rfl rfl ?_
          refine spArg_eq 11 rfl rfl ?_
          refine spArg_eq 10 rfl rfl ?_
          refine spArg_eq 9 rfl rfl ?_
          refine spArg_eq 8 rfl rfl ?_
          refine spArg_eq 7 rfl rfl ?_
          refine spArg_eq 6 rfl rfl ?_
          refine spArg_eq 5 rfl rfl ?_
          refine spArg_eq 4 rfl rfl ?_
          refine spArg_eq 3 rfl rfl ?_
          refine spArg_eq 2 rfl rfl ?_
          refine spArg_eq 1 rfl rfl ?_
          refine spArg_eq 0 rfl rfl ?_
          refine spArg_nil ?_
          simp only [Act.put, List.setIfInBounds_toArray, List.set_cons_succ, List.set_cons_zero]
          go_wp2_with fail
          go_ret
          exact ⟨by simp, hu.up⟩
        · have z1 : (kind == 1) = false := by rw [beq_eq_false_iff_ne]; exact h1
          by_cases h2 : kind = 2
          · subst h2
            have hf0 := HR7.out.free 0
            have HBL := Lib.hid (show Blk (x7.setCell ⟨g, 0, none⟩ (.slice (some ⟨gE, 0, none⟩) T cE)) g #[.slice (some ⟨gE, 0, none⟩) T cE, .int .u64 pc, .int .u64 ps] 45 from HR7.out.set 0 (.slice (some ⟨gE, 0, none⟩) T cE))
            obtain ⟨aF, cF, hfo, hcF, -⟩ := HE7.out.form
            obtain ⟨-, -, rfl⟩ : True ∧ True ∧ cE = cF := by injection hfo with _ _ e3; exact ⟨trivial, trivial, e3⟩
            rw [HOL.out] at hcF
            have HSL := Lib.hid (((HE7.out.grownT (grownBy_cell x7 g 0 (.slice (some ⟨gE, 0, none⟩) T cE)) (RowT.blk HR7.out) (by decide) (by decide) (fun _ _ => Nat.zero_le _)).sl).take2 T cE (by rw [HOL.out]; omega) (by omega) (Nat.le_refl _))
            have HY3 := Lib.hid (show Ext w3 (x7.setCell ⟨g, 0, none⟩ (.slice (some ⟨gE, 0, none⟩) T cE)) from Below.setCell HX7.out HG0.out _)
            have HY := Lib.hid (show Ext w (x7.setCell ⟨g, 0, none⟩ (.slice (some ⟨gE, 0, none⟩) T cE)) from Below.setCell HU7.out (Nat.le_trans (Below.size HX3.out) HG0.out) _)
            have HOK2 := Lib.hid fun (e : Ent) (he : e ∈ O.take T) => HOK1.out e (List.mem_of_mem_take he)
            have HPK := HPR0
            have hsl := fun W => run_sliceE_to (some ⟨gE, 0, none⟩) N cE T (by omega) W
            rw [if_neg (by omega), Option.map_some, addr_add] at hsl
            have hTc : T ≤ cE := by omega
            clear hfo
            rw [← HT.out] at hsl
            go_wp2_with fail
            clear hq7 hf0 hsl
            rw [HT.out]
            obtain ⟨y, hy⟩ : ∃ y, x7.setCell ⟨g, 0, none⟩ (.slice (some ⟨gE, 0, none⟩) T cE) = y := ⟨_, rfl⟩
            rw [hy] at HSL HBL HY3 HY ⊢
            clear hy
            have HQA := Lib.hid fun (u : World) (h : Ext y u) => HCA.out ⟨(O.take T), ⟨pc, ps⟩⟩ HPK.out HOK2.out u _ _ (HMV.out.ext (Ext.tr HY3.out h)) (HSL.out.ext h)
            have HQB := Lib.hid fun (u : World) (h : Ext y u) => HCB.out ⟨(O.take T), ⟨pc, ps⟩⟩ HPK.out HOK2.out u _ _ (HMV.out.ext (Ext.tr HY3.out h)) (HSL.out.ext h)
            clear HCA HCB
            generalize checkB p0 M ⟨(O.take T), ⟨pc, ps⟩⟩ = d at *
            have hst := stabE y
            have hk21 : HoldT (fun u => Ext y u) w (y).drew := HoldT.drew hst ⟨Ext.refl _, HY.out⟩
            try change Code.wp _ _ _ (Act.mk _ _) _
            refine wp_region_runR Ext 14 138 (HoldT (fun u => Ext y u) _) [[], [(0, 125)], [(1, 126)], [], [], [(2, 127), (3, 128), (4, 129)], [], [(6, 131)], [(7, 132)], [], [], [(8, 133), (9, 134), (10, 135)], [(5, 130), (11, 136)], [(12, 137)]] [(0, 125), (1, 126), (2, 127), (3, 128), (4, 129), (5, 130), (6, 131), (7, 132), (8, 133), (9, 134), (10, 135), (11, 136), (12, 137), (13, 10)] (by kernel_rfl) (by kernel_rfl) (by first | rfl | simp) (hk21) ?_
            simp only [List.take_succ_cons, List.take_zero, List.drop_succ_cons, List.drop_zero]
            refine sp_op (Ph.eq _) (fun u hu => by
              refine spArg_nil ?_
              go_wp2_with (fail)
              exact ⟨rfl, hu, Ext.refl _, slot_eq rfl⟩) ?_
            refine sp_op (Ph.eq _) (fun u hu => by
              refine spArg_eq 0 rfl rfl ?_
              refine spArg_nil ?_
              simp only [Act.put, List.setIfInBounds_toArray, List.set_cons_succ, List.set_cons_zero]
              go_wp2_with (fail)
              exact ⟨rfl, hu, Ext.refl _, slot_eq rfl⟩) ?_
            refine sp_op (Ph.eq (.agg p0.cells.toArray)) (fun u hu => by
              refine spArg_eq 0 rfl rfl ?_
              refine spArg_nil ?_
              simp only [Act.put, List.setIfInBounds_toArray, List.set_cons_succ, List.set_cons_zero]
              go_wp2_with ((refine wpList_load_mid rfl 49 _ rfl bP oP rfl _ _ (range_below HPR.out (Ext.tr HX23.out (Ext.tr HY3.out hu.has))) Tryz.underlying49 rfl HIP.out ?_))
              exact ⟨rfl, hu, Ext.refl _, slot_eq rfl⟩) ?_
            refine sp_op (Ph.eq _) (fun u hu => by
              refine spArg_nil ?_
              go_wp2_with (fail)
              exact ⟨rfl, hu, Ext.refl _, slot_eq rfl⟩) ?_
            refine sp_op (Ph.eq (.agg _)) (fun u hu => by
              refine spArg_nil ?_
              go_wp2_with ((refine wpList_load_row rfl 45 _ rfl g rfl _ _ (0, 0) _ (HBL.out.below hu.has) Tryz.underlying45 rfl info_pas ?_))
              exact ⟨rfl, hu, Ext.refl _, slot_eq rfl⟩) ?_
            refine sp_op (Ph.eq _) (fun u hu => by
              refine spArg_eq 2 rfl rfl ?_
              refine spArg_eq 1 rfl rfl ?_
              refine spArg_eq 0 rfl rfl ?_
              refine spArg_nil ?_
              simp only [Act.put, List.setIfInBounds_toArray, List.set_cons_succ, List.set_cons_zero]
              go_wp2_with ((go_at_call 13; refine (HQA.out _ hu.has).mono ?_; rintro e_ x_ ⟨rfl, hb_⟩))
              exact ⟨rfl, HoldT.step hst hu hb_, hb_, slot_eq rfl⟩) ?_
            refine sp_op (Ph.eq _) (fun u hu => by
              refine spArg_nil ?_
              go_wp2_with (fail)
              exact ⟨rfl, hu, Ext.refl _, slot_eq rfl⟩) ?_
            refine sp_op (Ph.eq _) (fun u hu => by
              refine spArg_eq 0 rfl rfl ?_
              refine spArg_nil ?_
              simp only [Act.put, List.setIfInBounds_toArray, List.set_cons_succ, List.set_cons_zero]
              go_wp2_with (fail)
              exact ⟨rfl, hu, Ext.refl _, slot_eq rfl⟩) ?_
            refine sp_op (Ph.eq (.agg p0.cells.toArray)) (fun u hu => by
              refine spArg_eq 0 rfl rfl ?_
              refine spArg_nil ?_
              simp only [Act.put, List.setIfInBounds_toArray, List.set_cons_succ, List.set_cons_zero]
              go_wp2_with ((refine wpList_load_mid rfl 49 _ rfl bP oP rfl _ _ (range_below HPR.out (Ext.tr HX23.out (Ext.tr HY3.out hu.has))) Tryz.underlying49 rfl HIP.out ?_))
              exact ⟨rfl, hu, Ext.refl _, slot_eq rfl⟩) ?_
            refine sp_op (Ph.eq _) (fun u hu => by
              refine spArg_nil ?_
              go_wp2_with (fail)
              exact ⟨rfl, hu, Ext.refl _, slot_eq rfl⟩) ?_
            refine sp_op (Ph.eq (.agg _)) (fun u hu => by
              refine spArg_nil ?_
              go_wp2_with ((refine wpList_load_row rfl 45 _ rfl g rfl _ _ (0, 0) _ (HBL.out.below hu.has) Tryz.underlying45 rfl info_pas ?_))
              exact ⟨rfl, hu, Ext.refl _, slot_eq rfl⟩) ?_
            refine sp_op (Ph.eq _) (fun u hu => by
              refine spArg_eq 2 rfl rfl ?_
              refine spArg_eq 1 rfl rfl ?_
              refine spArg_eq 0 rfl rfl ?_
              refine spArg_nil ?_
              simp only [Act.put, List.setIfInBounds_toArray, List.set_cons_succ, List.set_cons_zero]
              go_wp2_with ((go_at_call 20; refine (HQB.out _ hu.has).mono ?_; rintro e_ x_ ⟨rfl, hb_⟩))
              exact ⟨rfl, HoldT.step hst hu hb_, hb_, slot_eq rfl⟩) ?_
            refine sp_op (Ph.eq _) (fun u hu => by
              refine spArg_eq 6 rfl rfl ?_
              refine spArg_eq 0 rfl rfl ?_
              refine spArg_nil ?_
              simp only [Act.put, List.setIfInBounds_toArray, List.set_cons_succ, List.set_cons_zero]
              go_wp2_with (fail)
              exact ⟨rfl, hu, Ext.refl _, slot_eq rfl⟩) ?_
            refine sp_op (Ph.eq _) (fun u hu => by
              refine spArg_eq 0 rfl rfl ?_
              refine spArg_nil ?_
              simp only [Act.put, List.setIfInBounds_toArray, List.set_cons_succ, List.set_cons_zero]
              go_wp2_with (fail)
              exact ⟨rfl, hu, Ext.refl _, slot_eq rfl⟩) ?_
            refine sp_end ?_
            intro u hu
            refine spArg_eq 13 rfl rfl ?_
            refine spArg_eq 12 rfl rfl ?_
            refine spArg_eq 11 rfl rfl ?_
            refine spArg_eq 10 rfl rfl ?_
            refine spArg_eq 9 rfl rfl ?_
            refine spArg_eq 8 rfl rfl ?_
            refine spArg_eq 7 rfl rfl ?_
            refine spArg_eq 6 rfl rfl ?_
            refine spArg_eq 5 rfl rfl ?_
            refine spArg_eq 4 rfl rfl ?_
            refine spArg_eq 3 rfl rfl ?_
            refine spArg_eq 2 rfl rfl ?_
            refine spArg_eq 1 rfl rfl ?_
            refine spArg_eq 0 rfl rfl ?_
            refine spArg_nil ?_
            simp only [Act.put, List.setIfInBounds_toArray, List.set_cons_succ, List.set_cons_zero]
            go_wp2_with fail
            go_ret
            exact ⟨by simp, hu.up⟩
          · have z2 : (kind == 2) = false := by rw [beq_eq_false_iff_ne]; exact h2
            by_cases h3 : kind = 3
            · subst h3
              obtain ⟨V, hV, hVN⟩ : ∃ V : Nat, ((T : Int) + 1) % (N : Int) = (V : Int) ∧ V < N := ⟨(T + 1) % N, by rw [Int.natCast_emod]; rfl, Nat.mod_lt _ (by omega)⟩
              obtain ⟨eV, heV⟩ : ∃ e, O[V]? = some e := ⟨_, List.getElem?_eq_getElem (by rw [HOL.out]; exact hVN)⟩
              obtain ⟨vV, hrV, hvV⟩ := slE_atR HE7.out.sl V eV heV
              obtain ⟨aV, cV, rfl, -, -⟩ := hvV.form
              rw [Nat.zero_add] at hrV
              have HRV := Lib.hid hrV; have HVV := Lib.hid hvV; have HEV := Lib.hid (List.mem_of_getElem? heV)
              clear hrV hvV heV
              go_wp2_with fail
              clear hq7
              rw [HT.out]
              have hst := stabE x7
              have hk18 : HoldT (fun u => Ext x7 u) w x7.drew := HoldT.drew hst ⟨Ext.refl _, HU7.out⟩
              have hd1 : decide (N ≤ T) = false := decide_eq_false (by omega)
              have hd2 : decide (N ≤ V) = false := decide_eq_false (by omega)
              try change Code.wp _ _ _ (Act.mk _ _) _
              refine wp_region_runR Ext 12 138 (HoldT (fun u => Ext x7 u) _) [[], [(0, 99)], [], [], [(3, 102)], [], [(5, 104)], [], [(6, 105), (7, 106)], [(4, 103), (8, 107)], [(9, 108)], [(1, 100), (2, 101)]] [(0, 99), (1, 100), (2, 101), (3, 102), (4, 103), (5, 104), (6, 105), (7, 106), (8, 107), (9, 108), (10, 109), (11, 110)] (by kernel_rfl) (by kernel_rfl) (by first | rfl | simp) (hk18) ?_
              simp only [List.take_succ_cons, List.take_zero, List.drop_succ_cons, List.drop_zero]
              refine sp_op (Ph.eq _) (fun u hu => by
                refine spArg_nil ?_
                have k1 := (pas_cell (HR7.out.below hu.has)).1
                go_wp2_with (fail)
                exact ⟨rfl, hu, Ext.refl _, slot_eq rfl⟩) ?_
              refine sp_op (Ph.eq _) (fun u hu => by
                refine spArg_eq 0 rfl rfl ?_
                refine spArg_nil ?_
                simp only [Act.put, List.setIfInBounds_toArray, List.set_cons_succ, List.set_cons_zero]
                have k1 := (pas_cell (HR7.out.below hu.has)).1
                go_wp2_with (fail)
                exact ⟨rfl, hu, Ext.refl _, slot_eq rfl⟩) ?_
              refine sp_op (Ph.eq _) (fun u hu => by
                refine spArg_nil ?_
                have k1 := (pas_cell (HR7.out.below hu.has)).1
                go_wp2_with (fail)
                exact ⟨rfl, hu, Ext.refl _, slot_eq rfl⟩) ?_
              refine sp_op (Ph.eq _) (fun u hu => by
                refine spArg_nil ?_
                have k1 := (pas_cell (HR7.out.below hu.has)).1
                go_wp2_with (fail)
                exact ⟨rfl, hu, Ext.refl _, slot_eq rfl⟩) ?_
              refine sp_op (Ph.eq _) (fun u hu => by
                refine spArg_eq 0 rfl rfl ?_
                refine spArg_nil ?_
                simp only [Act.put, List.setIfInBounds_toArray, List.set_cons_succ, List.set_cons_zero]
                have k1 := (pas_cell (HR7.out.below hu.has)).1
                go_wp2_with (fail)
                exact ⟨rfl, hu, Ext.refl _, slot_eq rfl⟩) ?_
              refine sp_op (Ph.eq _) (fun u hu => by
                refine spArg_nil ?_
                have k1 := (pas_cell (HR7.out.below hu.has)).1
                go_wp2_with (fail)
                exact ⟨rfl, hu, Ext.refl _, slot_eq rfl⟩) ?_
              refine sp_op (Ph.eq _) (fun u hu => by
                refine spArg_eq 0 rfl rfl ?_
                refine spArg_nil ?_
                simp only [Act.put, List.setIfInBounds_toArray, List.set_cons_succ, List.set_cons_zero]
                have k1 := (pas_cell (HR7.out.below hu.has)).1
                go_wp2_with (fail)
                exact ⟨rfl, hu, Ext.refl _, slot_eq rfl⟩) ?_
              refine sp_op (Ph.eq _) (fun u hu => by
                refine spArg_nil ?_
                have k1 := (pas_cell (HR7.out.below hu.has)).1
                go_wp2_with (fail)
                exact ⟨rfl, hu, Ext.refl _, slot_eq rfl⟩) ?_
              refine sp_op (Ph.eq _) (fun u hu => by
                refine spArg_eq 1 rfl rfl ?_
                refine spArg_eq 0 rfl rfl ?_
                refine spArg_nil ?_
                simp only [Act.put, List.setIfInBounds_toArray, List.set_cons_succ, List.set_cons_zero]
                have k1 := (pas_cell (HR7.out.below hu.has)).1
                go_wp2_with (fail)
                exact ⟨rfl, hu, Ext.refl _, slot_eq rfl⟩) ?_
              refine sp_op (Ph.eq _) (fun u hu => by
                refine spArg_eq 4 rfl rfl ?_
                refine spArg_eq 0 rfl rfl ?_
                refine spArg_nil ?_
                simp only [Act.put, List.setIfInBounds_toArray, List.set_cons_succ, List.set_cons_zero]
                have k1 := (pas_cell (HR7.out.below hu.has)).1
                go_wp2_with (fail)
                exact ⟨rfl, hu, Ext.refl _, slot_eq rfl⟩) ?_
              refine sp_op (Ph.eq (.agg #[.int .u64 eV.x, .slice aV eV.box.length cV])) (fun u hu => by
                refine spArg_eq 0 rfl rfl ?_
                refine spArg_nil ?_
                simp only [Act.put, List.setIfInBounds_toArray, List.set_cons_succ, List.set_cons_zero]
                have k1 := (pas_cell (HR7.out.below hu.has)).1
                go_wp2_with ((refine wpList_load_mid rfl 36 _ rfl gE (V * 2) rfl _ _ (range_below HRV.out hu.has) Tryz.underlying36 rfl info_entry ?_))
                exact ⟨rfl, hu, Ext.refl _, slot_eq rfl⟩) ?_
              refine sp_op (Ph.eq _) (fun u hu => by
                refine spArg_eq 9 rfl rfl ?_
                refine spArg_eq 8 rfl rfl ?_
                refine spArg_nil ?_
                simp only [Act.put, List.setIfInBounds_toArray, List.set_cons_succ, List.set_cons_zero]
                have k1 := (pas_cell (HR7.out.below hu.has)).1
                go_wp2_with (fail)
                exact ⟨rfl, hu, Ext.refl _, slot_eq rfl⟩) ?_
              refine sp_end ?_
              intro u hu
              refine spArg_eq 11 rfl rfl ?_
              refine spArg_eq 10 rfl rfl ?_
              refine spArg_eq 9 rfl rfl ?_
              refine spArg_eq 8 rfl rfl ?_
              refine spArg_eq 7 rfl rfl ?_
              refine spArg_eq 6 rfl rfl ?_
              refine spArg_eq 5 rfl rfl ?_
              refine spArg_eq 4 rfl rfl ?_
              refine spArg_eq 3 rfl rfl ?_
              refine spArg_eq 2 rfl rfl ?_
              refine spArg_eq 1 rfl rfl ?_
              refine spArg_eq 0 rfl rfl ?_
              refine spArg_nil ?_
              simp only [Act.put, List.setIfInBounds_toArray, List.set_cons_succ, List.set_cons_zero]
              have hbu := HBE.out.below hu.has
              have HRu := Lib.hid (HR7.out.below hu.has)
              have HVu := Lib.hid (HVV.out.ext hu.has)
              go_wp2_with (refine wpList_store_in rfl 36 _ _ rfl gE (T * 2) #[.int .u64 eV.x, .slice aV eV.box.length cV] curE _ _ rfl rfl hbu (by have h9 : N * 2 ≤ curE.size := hcsE; show T * 2 + 2 ≤ curE.size; omega) info_entry (one_ent _ _ _ _) rfl ?_; intro y hg5 hz5 hb5
                           have hO5 := entry_put (HE7.out.ext hu.has) hbu (by rw [HOL.out]; exact hTN) hg5 hb5 (HVu.out.keep (Same.grown hg5 (RowT.blk hbu) (by decide) (fun _ _ => Nat.zero_le _)))
                           have hB5 := HRu.out.grownBy hg5 (some_ne (Ne.symm hgg))
                           have hy3 : Ext w3 y := ext_rowK (Ext.tr HX7.out hu.has) hg5 hgE
                           have hy1 : Ext w y := ext_rowK hu.up hg5 (Nat.le_trans (Below.size HX3.out) hgE)
                           clear hz5 hb5)
              have HSL := Lib.hid hO5.sl; have HBL := Lib.hid hB5; have HY3 := Lib.hid hy3; have HY := Lib.hid hy1
              have HOK2 := Lib.hid fun (e : Ent) (he : e ∈ O.set T ⟨eV.x, eV.box⟩) => (show e.ok ∧ e.box.length ≤ 20000000000000 from by
                rcases List.mem_or_eq_of_mem_set he with h | h
                · exact HOK1.out e h
                · rw [h]; exact HOK1.out eV HEV.out)
              have HPK := HPR0
              clear hO5 hB5 hy3 hy1 hg5 hbu hu
              have HQA := Lib.hid fun (u : World) (h : Ext y u) => HCA.out ⟨(O.set T ⟨eV.x, eV.box⟩), ⟨pc, ps⟩⟩ HPK.out HOK2.out u _ _ (HMV.out.ext (Ext.tr HY3.out h)) (HSL.out.ext h)
              have HQB := Lib.hid fun (u : World) (h : Ext y u) => HCB.out ⟨(O.set T ⟨eV.x, eV.box⟩), ⟨pc, ps⟩⟩ HPK.out HOK2.out u _ _ (HMV.out.ext (Ext.tr HY3.out h)) (HSL.out.ext h)
              clear HCA HCB
              generalize checkB p0 M ⟨(O.set T ⟨eV.x, eV.box⟩), ⟨pc, ps⟩⟩ = d at *
              have hst := stabE y
              have hk21 : HoldT (fun u => Ext y u) w (y).drew := HoldT.drew hst ⟨Ext.refl _, HY.out⟩
              try change Code.wp _ _ _ (Act.mk _ _) _
              refine wp_region_runR Ext 14 138 (HoldT (fun u => Ext y u) _) [[], [(0, 125)], [(1, 126)], [], [], [(2, 127), (3, 128), (4, 129)], [], [(6, 131)], [(7, 132)], [], [], [(8, 133), (9, 134), (10, 135)], [(5, 130), (11, 136)], [(12, 137)]] [(0, 125), (1, 126), (2, 127), (3, 128), (4, 129), (5, 130), (6, 131), (7, 132), (8, 133), (9, 134), (10, 135), (11, 136), (12, 137), (13, 10)] (by kernel_rfl) (by kernel_rfl) (by first | rfl | simp) (hk21) ?_
              simp only [List.take_succ_cons, List.take_zero, List.drop_succ_cons, List.drop_zero]
              refine sp_op (Ph.eq _) (fun u hu => by
                refine spArg_nil ?_
                go_wp2_with (fail)
                exact ⟨rfl, hu, Ext.refl _, slot_eq rfl⟩) ?_
              refine sp_op (Ph.eq _) (fun u hu => by
                refine spArg_eq 0 rfl rfl ?_
                refine spArg_nil ?_
                simp only [Act.put, List.setIfInBounds_toArray, List.set_cons_succ, List.set_cons_zero]
                go_wp2_with (fail)
                exact ⟨rfl, hu, Ext.refl _, slot_eq rfl⟩) ?_
              refine sp_op (Ph.eq (.agg p0.cells.toArray)) (fun u hu => by
                refine spArg_eq 0 rfl rfl ?_
                refine spArg_nil ?_
                simp only [Act.put, List.setIfInBounds_toArray, List.set_cons_succ, List.set_cons_zero]
                go_wp2_with ((refine wpList_load_mid rfl 49 _ rfl bP oP rfl _ _ (range_below HPR.out (Ext.tr HX23.out (Ext.tr HY3.out hu.has))) Tryz.underlying49 rfl HIP.out ?_))
                exact ⟨rfl, hu, Ext.refl _, slot_eq rfl⟩) ?_
              refine sp_op (Ph.eq _) (fun u hu => by
                refine spArg_nil ?_
                go_wp2_with (fail)
                exact ⟨rfl, hu, Ext.refl _, slot_eq rfl⟩) ?_
              refine sp_op (Ph.eq (.agg _)) (fun u hu => by
                refine spArg_nil ?_
                go_wp2_with ((refine wpList_load_row rfl 45 _ rfl g rfl _ _ (0, 0) _ (HBL.out.below hu.has) Tryz.underlying45 rfl info_pas ?_))
                exact ⟨rfl, hu, Ext.refl _, slot_eq rfl⟩) ?_
              refine sp_op (Ph.eq _) (fun u hu => by
                refine spArg_eq 2 rfl rfl ?_
                refine spArg_eq 1 rfl rfl ?_
                refine spArg_eq 0 rfl rfl ?_
                refine spArg_nil ?_
                simp only [Act.put, List.setIfInBounds_toArray, List.set_cons_succ, List.set_cons_zero]
                go_wp2_with ((go_at_call 13; refine (HQA.out _ hu.has).mono ?_; rintro e_ x_ ⟨rfl, hb_⟩))
                exact ⟨rfl, HoldT.step hst hu hb_, hb_, slot_eq rfl⟩) ?_
              refine sp_op (Ph.eq _) (fun u hu => by
                refine spArg_nil ?_
                go_wp2_with (fail)
                exact ⟨rfl, hu, Ext.refl _, slot_eq rfl⟩) ?_
              refine sp_op (Ph.eq _) (fun u hu => by
                refine spArg_eq 0 rfl rfl ?_
                refine spArg_nil ?_
                simp only [Act.put, List.setIfInBounds_toArray, List.set_cons_succ, List.set_cons_zero]
                go_wp2_with (fail)
                exact ⟨rfl, hu, Ext.refl _, slot_eq rfl⟩) ?_
              refine sp_op (Ph.eq (.agg p0.cells.toArray)) (fun u hu => by
                refine spArg_eq 0 rfl rfl ?_
                refine spArg_nil ?_
                simp only [Act.put, List.setIfInBounds_toArray, List.set_cons_succ, List.set_cons_zero]
                go_wp2_with ((refine wpList_load_mid rfl 49 _ rfl bP oP rfl _ _ (range_below HPR.out (Ext.tr HX23.out (Ext.tr HY3.out hu.has))) Tryz.underlying49 rfl HIP.out ?_))
                exact ⟨rfl, hu, Ext.refl _, slot_eq rfl⟩) ?_
              refine sp_op (Ph.eq _) (fun u hu => by
                refine spArg_nil ?_
                go_wp2_with (fail)
                exact ⟨rfl, hu, Ext.refl _, slot_eq rfl⟩) ?_
              refine sp_op (Ph.eq (.agg _)) (fun u hu => by
                refine spArg_nil ?_
                go_wp2_with ((refine wpList_load_row rfl 45 _ rfl g rfl _ _ (0, 0) _ (HBL.out.below hu.has) Tryz.underlying45 rfl info_pas ?_))
                exact ⟨rfl, hu, Ext.refl _, slot_eq rfl⟩) ?_
              refine sp_op (Ph.eq _) (fun u hu => by
                refine spArg_eq 2 rfl rfl ?_
                refine spArg_eq 1 rfl rfl ?_
                refine spArg_eq 0 rfl rfl ?_
                refine spArg_nil ?_
                simp only [Act.put, List.setIfInBounds_toArray, List.set_cons_succ, List.set_cons_zero]
                go_wp2_with ((go_at_call 20; refine (HQB.out _ hu.has).mono ?_; rintro e_ x_ ⟨rfl, hb_⟩))
                exact ⟨rfl, HoldT.step hst hu hb_, hb_, slot_eq rfl⟩) ?_
              refine sp_op (Ph.eq _) (fun u hu => by
                refine spArg_eq 6 rfl rfl ?_
                refine spArg_eq 0 rfl rfl ?_
                refine spArg_nil ?_
                simp only [Act.put, List.setIfInBounds_toArray, List.set_cons_succ, List.set_cons_zero]
                go_wp2_with (fail)
                exact ⟨rfl, hu, Ext.refl _, slot_eq rfl⟩) ?_
              refine sp_op (Ph.eq _) (fun u hu => by
                refine spArg_eq 0 rfl rfl ?_
                refine spArg_nil ?_
                simp only [Act.put, List.setIfInBounds_toArray, List.set_cons_succ, List.set_cons_zero]
                go_wp2_with (fail)
                exact ⟨rfl, hu, Ext.refl _, slot_eq rfl⟩) ?_
              refine sp_end ?_
              intro u hu
              refine spArg_eq 13 rfl rfl ?_
              refine spArg_eq 12 rfl rfl ?_
              refine spArg_eq 11 rfl rfl ?_
              refine spArg_eq 10 rfl rfl ?_
              refine spArg_eq 9 rfl rfl ?_
              refine spArg_eq 8 rfl rfl ?_
              refine spArg_eq 7 rfl rfl ?_
              refine spArg_eq 6 rfl rfl ?_
              refine spArg_eq 5 rfl rfl ?_
              refine spArg_eq 4 rfl rfl ?_
              refine spArg_eq 3 rfl rfl ?_
              refine spArg_eq 2 rfl rfl ?_
              refine spArg_eq 1 rfl rfl ?_
              refine spArg_eq 0 rfl rfl ?_
              refine spArg_nil ?_
              simp only [Act.put, List.setIfInBounds_toArray, List.set_cons_succ, List.set_cons_zero]
              go_wp2_with fail
              go_ret
              exact ⟨by simp, hu.up⟩
            · have z3 : (kind == 3) = false := by rw [beq_eq_false_iff_ne]; exact h3
              by_cases h4 : kind = 4
              · subst h4
                obtain ⟨bT, oT, cT', e0, -, -⟩ := HVT.out.open (by rw [hel]; decide)
                obtain ⟨rfl, rfl⟩ : aT = some ⟨bT, oT, none⟩ ∧ cT = cT' := by injection e0 with e1 _ e3; exact ⟨e1, e3⟩
                clear e0
                rw [hel] at HRT HVT hcT1
                go_wp2_with fail
                clear hq7
                rw [HT.out]
                have hsr := fun W => run_sliceB_from (some ⟨bT, oT, none⟩) 24 cT 1 (by decide) W
                rw [if_neg (by omega), Option.map_some, addr_add] at hsr
                have hst := stabE x7
                have hk20 : HoldT (fun u => Ext x7 u) w x7.drew := HoldT.drew hst ⟨Ext.refl _, HU7.out⟩
                have hd1 : decide (N ≤ T) = false := decide_eq_false (by omega)
                try change Code.wp _ _ _ (Act.mk _ _) _
                refine wp_region_runR Ext 12 138 (HoldT (fun u => Ext x7 u) _) [[], [(0, 113)], [], [], [(3, 116)], [], [(4, 117), (5, 118)], [(6, 119)], [(7, 120)], [(8, 121)], [(1, 114), (2, 115)], [(10, 123)]] [(0, 113), (1, 114), (2, 115), (3, 116), (4, 117), (5, 118), (6, 119), (7, 120), (8, 121), (9, 122), (10, 123), (11, 124)] (by kernel_rfl) (by kernel_rfl) (by first | rfl | simp) (hk20) ?_
                simp only [List.take_succ_cons, List.take_zero, List.drop_succ_cons, List.drop_zero]
                refine sp_op (Ph.eq _) (fun u hu => by
                  refine spArg_nil ?_
                  have k1 := (pas_cell (HR7.out.below hu.has)).1
                  have k2 : u.cell? ⟨gE, T * 2 + 1, none⟩ = some (.slice (some ⟨bT, oT, none⟩) 24 cT) := range_below HRT.out hu.has 1 _ rfl
                  go_wp2_with (fail)
                  exact ⟨rfl, hu, Ext.refl _, slot_eq rfl⟩) ?_
                refine sp_op (Ph.eq _) (fun u hu => by
                  refine spArg_eq 0 rfl rfl ?_
                  refine spArg_nil ?_
                  simp only [Act.put, List.setIfInBounds_toArray, List.set_cons_succ, List.set_cons_zero]
                  have k1 := (pas_cell (HR7.out.below hu.has)).1
                  have k2 : u.cell? ⟨gE, T * 2 + 1, none⟩ = some (.slice (some ⟨bT, oT, none⟩) 24 cT) := range_below HRT.out hu.has 1 _ rfl
                  go_wp2_with (fail)
                  exact ⟨rfl, hu, Ext.refl _, slot_eq rfl⟩) ?_
                refine sp_op (Ph.eq _) (fun u hu => by
                  refine spArg_nil ?_
                  have k1 := (pas_cell (HR7.out.below hu.has)).1
                  have k2 : u.cell? ⟨gE, T * 2 + 1, none⟩ = some (.slice (some ⟨bT, oT, none⟩) 24 cT) := range_below HRT.out hu.has 1 _ rfl
                  go_wp2_with (fail)
                  exact ⟨rfl, hu, Ext.refl _, slot_eq rfl⟩) ?_
                refine sp_op (Ph.eq _) (fun u hu => by
                  refine spArg_nil ?_
                  have k1 := (pas_cell (HR7.out.below hu.has)).1
                  have k2 : u.cell? ⟨gE, T * 2 + 1, none⟩ = some (.slice (some ⟨bT, oT, none⟩) 24 cT) := range_below HRT.out hu.has 1 _ rfl
                  go_wp2_with (fail)
                  exact ⟨rfl, hu, Ext.refl _, slot_eq rfl⟩) ?_
                refine sp_op (Ph.eq _) (fun u hu => by
                  refine spArg_eq 0 rfl rfl ?_
                  refine spArg_nil ?_
                  simp only [Act.put, List.setIfInBounds_toArray, List.set_cons_succ, List.set_cons_zero]
                  have k1 := (pas_cell (HR7.out.below hu.has)).1
                  have k2 : u.cell? ⟨gE, T * 2 + 1, none⟩ = some (.slice (some ⟨bT, oT, none⟩) 24 cT) := range_below HRT.out hu.has 1 _ rfl
                  go_wp2_with (fail)
                  exact ⟨rfl, hu, Ext.refl _, slot_eq rfl⟩) ?_
                refine sp_op (Ph.eq _) (fun u hu => by
                  refine spArg_nil ?_
                  have k1 := (pas_cell (HR7.out.below hu.has)).1
                  have k2 : u.cell? ⟨gE, T * 2 + 1, none⟩ = some (.slice (some ⟨bT, oT, none⟩) 24 cT) := range_below HRT.out hu.has 1 _ rfl
                  go_wp2_with (fail)
                  exact ⟨rfl, hu, Ext.refl _, slot_eq rfl⟩) ?_
                refine sp_op (Ph.eq _) (fun u hu => by
                  refine spArg_eq 1 rfl rfl ?_
                  refine spArg_eq 0 rfl rfl ?_
                  refine spArg_nil ?_
                  simp only [Act.put, List.setIfInBounds_toArray, List.set_cons_succ, List.set_cons_zero]
                  have k1 := (pas_cell (HR7.out.below hu.has)).1
                  have k2 : u.cell? ⟨gE, T * 2 + 1, none⟩ = some (.slice (some ⟨bT, oT, none⟩) 24 cT) := range_below HRT.out hu.has 1 _ rfl
                  go_wp2_with (fail)
                  exact ⟨rfl, hu, Ext.refl _, slot_eq rfl⟩) ?_
                refine sp_op (Ph.eq _) (fun u hu => by
                  refine spArg_eq 0 rfl rfl ?_
                  refine spArg_nil ?_
                  simp only [Act.put, List.setIfInBounds_toArray, List.set_cons_succ, List.set_cons_zero]
                  have k1 := (pas_cell (HR7.out.below hu.has)).1
                  have k2 : u.cell? ⟨gE, T * 2 + 1, none⟩ = some (.slice (some ⟨bT, oT, none⟩) 24 cT) := range_below HRT.out hu.has 1 _ rfl
                  go_wp2_with (fail)
                  exact ⟨rfl, hu, Ext.refl _, slot_eq rfl⟩) ?_
                refine sp_op (Ph.eq _) (fun u hu => by
                  refine spArg_eq 0 rfl rfl ?_
                  refine spArg_nil ?_
                  simp only [Act.put, List.setIfInBounds_toArray, List.set_cons_succ, List.set_cons_zero]
                  have k1 := (pas_cell (HR7.out.below hu.has)).1
                  have k2 : u.cell? ⟨gE, T * 2 + 1, none⟩ = some (.slice (some ⟨bT, oT, none⟩) 24 cT) := range_below HRT.out hu.has 1 _ rfl
                  go_wp2_with (fail)
                  exact ⟨rfl, hu, Ext.refl _, slot_eq rfl⟩) ?_
                refine sp_op (Ph.eq _) (fun u hu => by
                  refine spArg_eq 0 rfl rfl ?_
                  refine spArg_nil ?_
                  simp only [Act.put, List.setIfInBounds_toArray, List.set_cons_succ, List.set_cons_zero]
                  have k1 := (pas_cell (HR7.out.below hu.has)).1
                  have k2 : u.cell? ⟨gE, T * 2 + 1, none⟩ = some (.slice (some ⟨bT, oT, none⟩) 24 cT) := range_below HRT.out hu.has 1 _ rfl
                  go_wp2_with (fail)
                  exact ⟨rfl, hu, Ext.refl _, slot_eq rfl⟩) ?_
                refine sp_op (Ph.eq _) (fun u hu => by
                  refine spArg_eq 8 rfl rfl ?_
                  refine spArg_eq 7 rfl rfl ?_
                  refine spArg_nil ?_
                  simp only [Act.put, List.setIfInBounds_toArray, List.set_cons_succ, List.set_cons_zero]
                  have k1 := (pas_cell (HR7.out.below hu.has)).1
                  have k2 : u.cell? ⟨gE, T * 2 + 1, none⟩ = some (.slice (some ⟨bT, oT, none⟩) 24 cT) := range_below HRT.out hu.has 1 _ rfl
                  go_wp2_with (fail)
                  exact ⟨rfl, hu, Ext.refl _, slot_eq rfl⟩) ?_
                refine sp_op (Ph.eq _) (fun u hu => by
                  refine spArg_eq 0 rfl rfl ?_
                  refine spArg_nil ?_
                  simp only [Act.put, List.setIfInBounds_toArray, List.set_cons_succ, List.set_cons_zero]
                  have k1 := (pas_cell (HR7.out.below hu.has)).1
                  have k2 : u.cell? ⟨gE, T * 2 + 1, none⟩ = some (.slice (some ⟨bT, oT, none⟩) 24 cT) := range_below HRT.out hu.has 1 _ rfl
                  go_wp2_with (fail)
                  exact ⟨rfl, hu, Ext.refl _, slot_eq rfl⟩) ?_
                refine sp_end ?_
                intro u hu
                refine spArg_eq 11 rfl rfl ?_
                refine spArg_eq 10 rfl rfl ?_
                refine spArg_eq 9 rfl rfl ?_
                refine spArg_eq 8 rfl rfl ?_
                refine spArg_eq 7 rfl rfl ?_
                refine spArg_eq 6 rfl rfl ?_
                refine spArg_eq 5 rfl rfl ?_
                refine spArg_eq 4 rfl rfl ?_
                refine spArg_eq 3 rfl rfl ?_
                refine spArg_eq 2 rfl rfl ?_
                refine spArg_eq 1 rfl rfl ?_
                refine spArg_eq 0 rfl rfl ?_
                refine spArg_nil ?_
                simp only [Act.put, List.setIfInBounds_toArray, List.set_cons_succ, List.set_cons_zero]
                have hcu : u.cell? ⟨gE, T * 2 + 1, none⟩ = some (.slice (some ⟨bT, oT, none⟩) 24 cT) := range_below HRT.out hu.has 1 _ rfl
                have hbu := HBE.out.below hu.has
                have hfu := hbu.free (T * 2 + 1)
                obtain ⟨NV, hNV⟩ : ∃ v, v = Value.slice (some ⟨bT, oT + 1, none⟩) 23 (cT - 1) := ⟨_, rfl⟩
                have hvs : SlR byteR 0 (u.setCell ⟨gE, T * 2 + 1, none⟩ NV) NV (eT.box.drop 1) := by
                  have h1 := (HVT.out.ext hu.has).keep (Same.grown (grownBy_cell u gE (T * 2 + 1) NV) (RowT.blk hbu) (by decide) (fun _ _ => Nat.zero_le _))
                  have h2 := h1.dropB (k := 1) (by rw [hel]; decide) (by omega)
                  rw [hel] at h2
                  rw [hNV] at h2 ⊢
                  exact h2
                have hO := OwR.setAt (HE7.out.ext hu.has) (i := T) (j := 1) (a' := ⟨eT.x, eT.box.drop 1⟩) HET.out (by decide) NV (fun cs hc => by
                  obtain ⟨v, hc1, hc2⟩ := hc
                  refine ⟨NV, by rw [hc1]; rfl, ?_⟩
                  rw [show 0 + T * entR.sz + 1 = T * 2 + 1 from by show 0 + T * 2 + 1 = T * 2 + 1; omega]
                  exact hvs) (by decide) (Nat.zero_le _)
                rw [show 0 + T * entR.sz + 1 = T * 2 + 1 from by show 0 + T * 2 + 1 = T * 2 + 1; omega] at hO
                have HSL := Lib.hid hO.sl
                have HBL := Lib.hid ((HR7.out.below hu.has).setCell ⟨gE, T * 2 + 1, none⟩ NV (Ne.symm hgg))
                have HY3 := Lib.hid (show Ext w3 (u.setCell ⟨gE, T * 2 + 1, none⟩ NV) from Below.setCell (Ext.tr HX7.out hu.has) hgE _)
                have HY := Lib.hid (show Ext w (u.setCell ⟨gE, T * 2 + 1, none⟩ NV) from Below.setCell hu.up (Nat.le_trans (Below.size HX3.out) hgE) _)
                have HOK2 := Lib.hid fun (e : Ent) (he : e ∈ O.set T ⟨eT.x, eT.box.drop 1⟩) => (show e.ok ∧ e.box.length ≤ 20000000000000 from by
                  rcases List.mem_or_eq_of_mem_set he with h | h
                  · exact HOK1.out e h
                  · subst h; exact ⟨heo, by show (eT.box.drop 1).length ≤ _; rw [List.length_drop, hel]; decide⟩)
                have HPK := HPR0
                clear hO hvs hbu
                subst hNV
                go_wp2_with fail
                clear hcu hfu hsr
                obtain ⟨y, hy⟩ : ∃ y, u.setCell ⟨gE, T * 2 + 1, none⟩ (.slice (some ⟨bT, oT + 1, none⟩) 23 (cT - 1)) = y := ⟨_, rfl⟩
                rw [hy] at HSL HBL HY3 HY ⊢
                clear hu hy
                have HQA := Lib.hid fun (u : World) (h : Ext y u) => HCA.out ⟨(O.set T ⟨eT.x, eT.box.drop 1⟩), ⟨pc, ps⟩⟩ HPK.out HOK2.out u _ _ (HMV.out.ext (Ext.tr HY3.out h)) (HSL.out.ext h)
                have HQB := Lib.hid fun (u : World) (h : Ext y u) => HCB.out ⟨(O.set T ⟨eT.x, eT.box.drop 1⟩), ⟨pc, ps⟩⟩ HPK.out HOK2.out u _ _ (HMV.out.ext (Ext.tr HY3.out h)) (HSL.out.ext h)
                clear HCA HCB
                generalize checkB p0 M ⟨(O.set T ⟨eT.x, eT.box.drop 1⟩), ⟨pc, ps⟩⟩ = d at *
                have hst := stabE y
                have hk21 : HoldT (fun u => Ext y u) w (y).drew := HoldT.drew hst ⟨Ext.refl _, HY.out⟩
                try change Code.wp _ _ _ (Act.mk _ _) _
                refine wp_region_runR Ext 14 138 (HoldT (fun u => Ext y u) _) [[], [(0, 125)], [(1, 126)], [], [], [(2, 127), (3, 128), (4, 129)], [], [(6, 131)], [(7, 132)], [], [], [(8, 133), (9, 134), (10, 135)], [(5, 130), (11, 136)], [(12, 137)]] [(0, 125), (1, 126), (2, 127), (3, 128), (4, 129), (5, 130), (6, 131), (7, 132), (8, 133), (9, 134), (10, 135), (11, 136), (12, 137), (13, 10)] (by kernel_rfl) (by kernel_rfl) (by first | rfl | simp) (hk21) ?_
                simp only [List.take_succ_cons, List.take_zero, List.drop_succ_cons, List.drop_zero]
                refine sp_op (Ph.eq _) (fun u hu => by
                  refine spArg_nil ?_
                  go_wp2_with (fail)
                  exact ⟨rfl, hu, Ext.refl _, slot_eq rfl⟩) ?_
                refine sp_op (Ph.eq _) (fun u hu => by
                  refine spArg_eq 0 rfl rfl ?_
                  refine spArg_nil ?_
                  simp only [Act.put, List.setIfInBounds_toArray, List.set_cons_succ, List.set_cons_zero]
                  go_wp2_with (fail)
                  exact ⟨rfl, hu, Ext.refl _, slot_eq rfl⟩) ?_
                refine sp_op (Ph.eq (.agg p0.cells.toArray)) (fun u hu => by
                  refine spArg_eq 0 rfl rfl ?_
                  refine spArg_nil ?_
                  simp only [Act.put, List.setIfInBounds_toArray, List.set_cons_succ, List.set_cons_zero]
                  go_wp2_with ((refine wpList_load_mid rfl 49 _ rfl bP oP rfl _ _ (range_below HPR.out (Ext.tr HX23.out (Ext.tr HY3.out hu.has))) Tryz.underlying49 rfl HIP.out ?_))
                  exact ⟨rfl, hu, Ext.refl _, slot_eq rfl⟩) ?_
                refine sp_op (Ph.eq _) (fun u hu => by
                  refine spArg_nil ?_
                  go_wp2_with (fail)
                  exact ⟨rfl, hu, Ext.refl _, slot_eq rfl⟩) ?_
                refine sp_op (Ph.eq (.agg _)) (fun u hu => by
                  refine spArg_nil ?_
                  go_wp2_with ((refine wpList_load_row rfl 45 _ rfl g rfl _ _ (0, 0) _ (HBL.out.below hu.has) Tryz.underlying45 rfl info_pas ?_))
                  exact ⟨rfl, hu, Ext.refl _, slot_eq rfl⟩) ?_
                refine sp_op (Ph.eq _) (fun u hu => by
                  refine spArg_eq 2 rfl rfl ?_
                  refine spArg_eq 1 rfl rfl ?_
                  refine spArg_eq 0 rfl rfl ?_
                  refine spArg_nil ?_
                  simp only [Act.put, List.setIfInBounds_toArray, List.set_cons_succ, List.set_cons_zero]
                  go_wp2_with ((go_at_call 13; refine (HQA.out _ hu.has).mono ?_; rintro e_ x_ ⟨rfl, hb_⟩))
                  exact ⟨rfl, HoldT.step hst hu hb_, hb_, slot_eq rfl⟩) ?_
                refine sp_op (Ph.eq _) (fun u hu => by
                  refine spArg_nil ?_
                  go_wp2_with (fail)
                  exact ⟨rfl, hu, Ext.refl _, slot_eq rfl⟩) ?_
                refine sp_op (Ph.eq _) (fun u hu => by
                  refine spArg_eq 0 rfl rfl ?_
                  refine spArg_nil ?_
                  simp only [Act.put, List.setIfInBounds_toArray, List.set_cons_succ, List.set_cons_zero]
                  go_wp2_with (fail)
                  exact ⟨rfl, hu, Ext.refl _, slot_eq rfl⟩) ?_
                refine sp_op (Ph.eq (.agg p0.cells.toArray)) (fun u hu => by
                  refine spArg_eq 0 rfl rfl ?_
                  refine spArg_nil ?_
                  simp only [Act.put, List.setIfInBounds_toArray, List.set_cons_succ, List.set_cons_zero]
                  go_wp2_with ((refine wpList_load_mid rfl 49 _ rfl bP oP rfl _ _ (range_below HPR.out (Ext.tr HX23.out (Ext.tr HY3.out hu.has))) Tryz.underlying49 rfl HIP.out ?_))
                  exact ⟨rfl, hu, Ext.refl _, slot_eq rfl⟩) ?_
                refine sp_op (Ph.eq _) (fun u hu => by
                  refine spArg_nil ?_
                  go_wp2_with (fail)
                  exact ⟨rfl, hu, Ext.refl _, slot_eq rfl⟩) ?_
                refine sp_op (Ph.eq (.agg _)) (fun u hu => by
                  refine spArg_nil ?_
                  go_wp2_with ((refine wpList_load_row rfl 45 _ rfl g rfl _ _ (0, 0) _ (HBL.out.below hu.has) Tryz.underlying45 rfl info_pas ?_))
                  exact ⟨rfl, hu, Ext.refl _, slot_eq rfl⟩) ?_
                refine sp_op (Ph.eq _) (fun u hu => by
                  refine spArg_eq 2 rfl rfl ?_
                  refine spArg_eq 1 rfl rfl ?_
                  refine spArg_eq 0 rfl rfl ?_
                  refine spArg_nil ?_
                  simp only [Act.put, List.setIfInBounds_toArray, List.set_cons_succ, List.set_cons_zero]
                  go_wp2_with ((go_at_call 20; refine (HQB.out _ hu.has).mono ?_; rintro e_ x_ ⟨rfl, hb_⟩))
                  exact ⟨rfl, HoldT.step hst hu hb_, hb_, slot_eq rfl⟩) ?_
                refine sp_op (Ph.eq _) (fun u hu => by
                  refine spArg_eq 6 rfl rfl ?_
                  refine spArg_eq 0 rfl rfl ?_
                  refine spArg_nil ?_
                  simp only [Act.put, List.setIfInBounds_toArray, List.set_cons_succ, List.set_cons_zero]
                  go_wp2_with (fail)
                  exact ⟨rfl, hu, Ext.refl _, slot_eq rfl⟩) ?_
                refine sp_op (Ph.eq _) (fun u hu => by
                  refine spArg_eq 0 rfl rfl ?_
                  refine spArg_nil ?_
                  simp only [Act.put, List.setIfInBounds_toArray, List.set_cons_succ, List.set_cons_zero]
                  go_wp2_with (fail)
                  exact ⟨rfl, hu, Ext.refl _, slot_eq rfl⟩) ?_
                refine sp_end ?_
                intro u hu
                refine spArg_eq 13 rfl rfl ?_
                refine spArg_eq 12 rfl rfl ?_
                refine spArg_eq 11 rfl rfl ?_
                refine spArg_eq 10 rfl rfl ?_
                refine spArg_eq 9 rfl rfl ?_
                refine spArg_eq 8 rfl rfl ?_
                refine spArg_eq 7 rfl rfl ?_
                refine spArg_eq 6 rfl rfl ?_
                refine spArg_eq 5 rfl rfl ?_
                refine spArg_eq 4 rfl rfl ?_
                refine spArg_eq 3 rfl rfl ?_
                refine spArg_eq 2 rfl rfl ?_
                refine spArg_eq 1 rfl rfl ?_
                refine spArg_eq 0 rfl rfl ?_
                refine spArg_nil ?_
                simp only [Act.put, List.setIfInBounds_toArray, List.set_cons_succ, List.set_cons_zero]
                go_wp2_with fail
                go_ret
                exact ⟨by simp, hu.up⟩
              · have z4 : (kind == 4) = false := by rw [beq_eq_false_iff_ne]; exact h4
                go_wp2_with fail
                have HBL := HR7
                have HSL := Lib.hid HE7.out.sl
                have HOK2 := HOK1
                have HPK := HPR0
                have HY3 := HX7; have HY := HU7
                have HQA := Lib.hid fun (u : World) (h : Ext x7 u) => HCA.out ⟨O, ⟨pc, ps⟩⟩ HPK.out HOK2.out u _ _ (HMV.out.ext (Ext.tr HY3.out h)) (HSL.out.ext h)
                have HQB := Lib.hid fun (u : World) (h : Ext x7 u) => HCB.out ⟨O, ⟨pc, ps⟩⟩ HPK.out HOK2.out u _ _ (HMV.out.ext (Ext.tr HY3.out h)) (HSL.out.ext h)
                clear HCA HCB
                generalize checkB p0 M ⟨O, ⟨pc, ps⟩⟩ = d at *
                have hst := stabE x7
                have hk21 : HoldT (fun u => Ext x7 u) w (x7).drew := HoldT.drew hst ⟨Ext.refl _, HY.out⟩
                try change Code.wp _ _ _ (Act.mk _ _) _
                refine wp_region_runR Ext 14 138 (HoldT (fun u => Ext x7 u) _) [[], [(0, 125)], [(1, 126)], [], [], [(2, 127), (3, 128), (4, 129)], [], [(6, 131)], [(7, 132)], [], [], [(8, 133), (9, 134), (10, 135)], [(5, 130), (11, 136)], [(12, 137)]] [(0, 125), (1, 126), (2, 127), (3, 128), (4, 129), (5, 130), (6, 131), (7, 132), (8, 133), (9, 134), (10, 135), (11, 136), (12, 137), (13, 10)] (by kernel_rfl) (by kernel_rfl) (by first | rfl | simp) (hk21) ?_
                simp only [List.take_succ_cons, List.take_zero, List.drop_succ_cons, List.drop_zero]
                refine sp_op (Ph.eq _) (fun u hu => by
                  refine spArg_nil ?_
                  go_wp2_with (fail)
                  exact ⟨rfl, hu, Ext.refl _, slot_eq rfl⟩) ?_
                refine sp_op (Ph.eq _) (fun u hu => by
                  refine spArg_eq 0 rfl rfl ?_
                  refine spArg_nil ?_
                  simp only [Act.put, List.setIfInBounds_toArray, List.set_cons_succ, List.set_cons_zero]
                  go_wp2_with (fail)
                  exact ⟨rfl, hu, Ext.refl _, slot_eq rfl⟩) ?_
                refine sp_op (Ph.eq (.agg p0.cells.toArray)) (fun u hu => by
                  refine spArg_eq 0 rfl rfl ?_
                  refine spArg_nil ?_
                  simp only [Act.put, List.setIfInBounds_toArray, List.set_cons_succ, List.set_cons_zero]
                  go_wp2_with ((refine wpList_load_mid rfl 49 _ rfl bP oP rfl _ _ (range_below HPR.out (Ext.tr HX23.out (Ext.tr HY3.out hu.has))) Tryz.underlying49 rfl HIP.out ?_))
                  exact ⟨rfl, hu, Ext.refl _, slot_eq rfl⟩) ?_
                refine sp_op (Ph.eq _) (fun u hu => by
                  refine spArg_nil ?_
                  go_wp2_with (fail)
                  exact ⟨rfl, hu, Ext.refl _, slot_eq rfl⟩) ?_
                refine sp_op (Ph.eq (.agg _)) (fun u hu => by
                  refine spArg_nil ?_
                  go_wp2_with ((refine wpList_load_row rfl 45 _ rfl g rfl _ _ (0, 0) _ (HBL.out.below hu.has) Tryz.underlying45 rfl info_pas ?_))
                  exact ⟨rfl, hu, Ext.refl _, slot_eq rfl⟩) ?_
                refine sp_op (Ph.eq _) (fun u hu => by
                  refine spArg_eq 2 rfl rfl ?_
                  refine spArg_eq 1 rfl rfl ?_
                  refine spArg_eq 0 rfl rfl ?_
                  refine spArg_nil ?_
                  simp only [Act.put, List.setIfInBounds_toArray, List.set_cons_succ, List.set_cons_zero]
                  go_wp2_with ((go_at_call 13; refine (HQA.out _ hu.has).mono ?_; rintro e_ x_ ⟨rfl, hb_⟩))
                  exact ⟨rfl, HoldT.step hst hu hb_, hb_, slot_eq rfl⟩) ?_
                refine sp_op (Ph.eq _) (fun u hu => by
                  refine spArg_nil ?_
                  go_wp2_with (fail)
                  exact ⟨rfl, hu, Ext.refl _, slot_eq rfl⟩) ?_
                refine sp_op (Ph.eq _) (fun u hu => by
                  refine spArg_eq 0 rfl rfl ?_
                  refine spArg_nil ?_
                  simp only [Act.put, List.setIfInBounds_toArray, List.set_cons_succ, List.set_cons_zero]
                  go_wp2_with (fail)
                  exact ⟨rfl, hu, Ext.refl _, slot_eq rfl⟩) ?_
                refine sp_op (Ph.eq (.agg p0.cells.toArray)) (fun u hu => by
                  refine spArg_eq 0 rfl rfl ?_
                  refine spArg_nil ?_
                  simp only [Act.put, List.setIfInBounds_toArray, List.set_cons_succ, List.set_cons_zero]
                  go_wp2_with ((refine wpList_load_mid rfl 49 _ rfl bP oP rfl _ _ (range_below HPR.out (Ext.tr HX23.out (Ext.tr HY3.out hu.has))) Tryz.underlying49 rfl HIP.out ?_))
                  exact ⟨rfl, hu, Ext.refl _, slot_eq rfl⟩) ?_
                refine sp_op (Ph.eq _) (fun u hu => by
                  refine spArg_nil ?_
                  go_wp2_with (fail)
                  exact ⟨rfl, hu, Ext.refl _, slot_eq rfl⟩) ?_
                refine sp_op (Ph.eq (.agg _)) (fun u hu => by
                  refine spArg_nil ?_
                  go_wp2_with ((refine wpList_load_row rfl 45 _ rfl g rfl _ _ (0, 0) _ (HBL.out.below hu.has) Tryz.underlying45 rfl info_pas ?_))
                  exact ⟨rfl, hu, Ext.refl _, slot_eq rfl⟩) ?_
                refine sp_op (Ph.eq _) (fun u hu => by
                  refine spArg_eq 2 rfl rfl ?_
                  refine spArg_eq 1 rfl rfl ?_
                  refine spArg_eq 0 rfl rfl ?_
                  refine spArg_nil ?_
                  simp only [Act.put, List.setIfInBounds_toArray, List.set_cons_succ, List.set_cons_zero]
                  go_wp2_with ((go_at_call 20; refine (HQB.out _ hu.has).mono ?_; rintro e_ x_ ⟨rfl, hb_⟩))
                  exact ⟨rfl, HoldT.step hst hu hb_, hb_, slot_eq rfl⟩) ?_
                refine sp_op (Ph.eq _) (fun u hu => by
                  refine spArg_eq 6 rfl rfl ?_
                  refine spArg_eq 0 rfl rfl ?_
                  refine spArg_nil ?_
                  simp only [Act.put, List.setIfInBounds_toArray, List.set_cons_succ, List.set_cons_zero]
                  go_wp2_with (fail)
                  exact ⟨rfl, hu, Ext.refl _, slot_eq rfl⟩) ?_
                refine sp_op (Ph.eq _) (fun u hu => by
                  refine spArg_eq 0 rfl rfl ?_
                  refine spArg_nil ?_
                  simp only [Act.put, List.setIfInBounds_toArray, List.set_cons_succ, List.set_cons_zero]
                  go_wp2_with (fail)
                  exact ⟨rfl, hu, Ext.refl _, slot_eq rfl⟩) ?_
                refine sp_end ?_
                intro u hu
                refine spArg_eq 13 rfl rfl ?_
                refine spArg_eq 12 rfl rfl ?_
                refine spArg_eq 11 rfl rfl ?_
                refine spArg_eq 10 rfl rfl ?_
                refine spArg_eq 9 rfl rfl ?_
                refine spArg_eq 8 rfl rfl ?_
                refine spArg_eq 7 rfl rfl ?_
                refine spArg_eq 6 rfl rfl ?_
                refine spArg_eq 5 rfl rfl ?_
                refine spArg_eq 4 rfl rfl ?_
                refine spArg_eq 3 rfl rfl ?_
                refine spArg_eq 2 rfl rfl ?_
                refine spArg_eq 1 rfl rfl ?_
                refine spArg_eq 0 rfl rfl ?_
                refine spArg_nil ?_
                simp only [Act.put, List.setIfInBounds_toArray, List.set_cons_succ, List.set_cons_zero]
                go_wp2_with fail
                go_ret
                exact ⟨by simp, hu.up⟩)
  · have HG := Lib.hid hg; clear hg
    go_enter Tryz.func5, Tryz.ntmps5
    go_wp2_with (first
      | (go_at_call 6; refine (alive19_any _).mono ?_; rintro e w1 ⟨rfl, hb1⟩; have hkey1 := hk0.out.below hb1; have e1 : Ext w w1 := Ext.tr hb0.out hb1)
      | (refine wpList_load_row rfl 23 _ rfl w.heap.size rfl _ (keyA seed) (0, 0) _ hkey1 under_key rfl (by rw [keyA_size, HK.out]; exact info_key) ?_)
      | (go_at_call 7; refine (HRR.out _).mono ?_; rintro e w2 ⟨v2, u2, rfl, hok2, hb2⟩; have hbel2 : Ext w w2 := Ext.tr e1 hb2))
    all_goals (first | (exfalso; have := HG.out; omega) | (go_ret; exact ⟨rfl, hbel2⟩))
end Go.Proofs.YtmbgcjfmfkddpaaGreat
