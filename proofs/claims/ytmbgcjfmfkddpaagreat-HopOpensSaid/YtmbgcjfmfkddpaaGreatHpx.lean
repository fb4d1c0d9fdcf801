/-
  Hops that all open: the plain law.
  HopOpens: walked.
-/
import Derived.Test.YtmbgcjfmfkddpaaGreatHcx
import Derived.Test.YtmbgcjfmfkddpaaGreatHfl
import Derived.Test.YtmbgcjfmfkddpaaGreatHon2
import Derived.Test.YtmbgcjfmfkddpaaGreatBu2
namespace Go.Proofs.YtmbgcjfmfkddpaaGreat
set_option linter.unusedVariables false
set_option linter.unusedSimpArgs false
open Go Go.RowKit

theorem made_len2 {ss : List Sec} {dd : List (List Int)} {from_ : Int} {n : Nat} : ∀ e ∈ madeL (chainL ss dd) from_ n, e.box.length = 8 + 16 * ss.length := by
  intro e he
  rw [madeL_map] at he
  obtain ⟨i, _, rfl⟩ := List.mem_map.1 he
  show (spoilL _ _ _ _ _).length = _
  rw [length_spoilL, length_put64, length_chainL]
theorem mul_okP {a b : Int} (ha : okP a) (hb : okP b) : okP (a * b % 2305843009213693951) := by
  have hp : PP = 2305843009213693951 := rfl
  obtain ⟨a, rfl⟩ := Int.eq_ofNat_of_zero_le (Int.le_of_lt ha.1)
  obtain ⟨b, rfl⟩ := Int.eq_ofNat_of_zero_le (Int.le_of_lt hb.1)
  obtain ⟨i, -, hi⟩ := gen_37 a (by have := ha.1; omega) (by have := ha.2; omega)
  obtain ⟨j, -, hj⟩ := gen_37 b (by have := hb.1; omega) (by have := hb.2; omega)
  have h1 : a * b % PP = 37 ^ (i + j) % PP := by rw [← hi, ← hj, ← Nat.mul_mod, Nat.pow_add]
  have h2 := pow_pos_mod 37 (i + j) (by decide) (by decide)
  rw [← h1] at h2
  have h3 : a * b % PP < PP := Nat.mod_lt _ (by decide)
  have h4 : (a : Int) * (b : Int) % 2305843009213693951 = ((a * b % PP : Nat) : Int) := by rw [Int.natCast_emod, Int.natCast_mul]; rfl
  show 0 < (a : Int) * (b : Int) % 2305843009213693951 ∧ (a : Int) * (b : Int) % 2305843009213693951 < 2305843009213693951
  rw [h4]; omega
theorem timesP_okP {a b : Int} (ha : okP a) (hb : in64 b) : okP (timesP a b) := by
  obtain ⟨a, rfl⟩ := Int.eq_ofNat_of_zero_le (Int.le_of_lt ha.1)
  obtain ⟨b, rfl⟩ := Int.eq_ofNat_of_zero_le hb.1
  have hp : PP = 2305843009213693951 := rfl
  have a0 : 0 < a := by have := ha.1; omega
  have a1 : a < PP := by have := ha.2; omega
  rw [timesP_nat a b a0 a1]
  have h2 := pow_pos_mod a b a0 a1
  have h3 : a ^ b % PP < PP := Nat.mod_lt _ (by decide)
  exact ⟨by omega, by omega⟩
theorem timesP_mul {a b e : Int} (ha : okP a) (hb : okP b) (he : in64 e) : timesP (a * b % 2305843009213693951) e = timesP a e * timesP b e % 2305843009213693951 := by
  have hm := mul_okP ha hb
  obtain ⟨a, rfl⟩ := Int.eq_ofNat_of_zero_le (Int.le_of_lt ha.1)
  obtain ⟨b, rfl⟩ := Int.eq_ofNat_of_zero_le (Int.le_of_lt hb.1)
  obtain ⟨e, rfl⟩ := Int.eq_ofNat_of_zero_le he.1
  have hp : PP = 2305843009213693951 := rfl
  have h4 : (a : Int) * (b : Int) % 2305843009213693951 = ((a * b % PP : Nat) : Int) := by rw [Int.natCast_emod, Int.natCast_mul]; rfl
  rw [h4] at hm ⊢
  rw [timesP_nat _ e (by have := hm.1; omega) (by have := hm.2; omega), timesP_nat a e (by have := ha.1; omega) (by have := ha.2; omega), timesP_nat b e (by have := hb.1; omega) (by have := hb.2; omega)]
  rw [← Nat.pow_mod, Nat.mul_pow, Nat.mul_mod, Int.natCast_emod, Int.natCast_mul]
  rfl
theorem prodP_times {b : Int} (hb : in64 b) : ∀ (l : List Int) (o : Int), okP o → (∀ x ∈ l, okP x) → okP (prodP l o) ∧ prodP (l.map fun x => timesP x b) (timesP o b) = timesP (prodP l o) b
  | [], o, ho, _ => ⟨ho, rfl⟩
  | x :: l, o, ho, h => by
    have hx := h x (by simp)
    have ih := prodP_times hb l (o * x % 2305843009213693951) (mul_okP ho hx) (fun y hy => h y (by simp [hy]))
    rw [List.map_cons, prodP, prodP, if_pos hx, if_pos (timesP_okP hx hb), ← timesP_mul ho hx hb]
    exact ih
theorem prodP_perm {l l' : List Int} (h : l.Perm l') : (∀ x ∈ l, okP x) → ∀ o, prodP l o = prodP l' o := by
  induction h with
  | nil => intro _ o; rfl
  | cons x _ ih =>
    intro hx o
    rw [prodP, prodP, ih (fun y hy => hx y (by simp [hy]))]
  | swap x y l =>
    intro hx o
    rw [prodP, prodP, prodP, prodP, if_pos (hx x (by simp)), if_pos (hx y (by simp)), if_pos (hx x (by simp)), if_pos (hx y (by simp))]
    congr 1
    rw [Int.mul_emod, Int.emod_emod, ← Int.mul_emod, Int.mul_emod (o * x % 2305843009213693951), Int.emod_emod, ← Int.mul_emod]
    congr 1
    rw [Int.mul_assoc, Int.mul_assoc, Int.mul_comm x y]
  | trans h1 _ ih1 ih2 =>
    intro hx o
    rw [ih1 hx, ih2 (fun y hy => hx y (h1.mem_iff.2 hy))]
theorem perm_of_mem {α : Type} [DecidableEq α] : ∀ (l l' : List α), l.Nodup → l'.Nodup → (∀ x, x ∈ l ↔ x ∈ l') → l.Perm l'
  | [], l', _, _, h => by
    cases l' with
    | nil => exact .nil
    | cons a l' => exact absurd ((h a).2 (by simp)) (by simp)
  | a :: l, l', h1, h2, h => by
    have ha : a ∈ l' := (h a).1 (by simp)
    have hn := List.nodup_cons.1 h1
    refine (List.Perm.cons a (perm_of_mem l (l'.erase a) hn.2 (h2.erase a) fun x => ?_)).trans (List.perm_cons_erase ha).symm
    rw [h2.mem_erase_iff]
    constructor
    · intro hx
      exact ⟨fun e => hn.1 (e ▸ hx), (h x).1 (by simp [hx])⟩
    · rintro ⟨hne, hx⟩
      rcases List.mem_cons.1 ((h x).2 hx) with e | e
      · exact absurd e hne
      · exact e
theorem order_perm {order : List Int} (h : permOk order) : order.Perm ((List.range order.length).map fun (k : Nat) => (k : Int)) := by
  refine perm_of_mem _ _ h.2 ?_ fun x => ?_
  · rw [List.nodup_iff_pairwise_ne, List.pairwise_map]
    exact List.Pairwise.imp (fun h e => h (by omega)) (List.nodup_iff_pairwise_ne.1 List.nodup_range)
  · constructor
    · intro hx
      obtain ⟨h0, h1⟩ := h.1 x hx
      exact List.mem_map.2 ⟨x.toNat, List.mem_range.2 (by omega), by omega⟩
    · intro hx
      obtain ⟨k, hk, rfl⟩ := List.mem_map.1 hx
      obtain ⟨i, hi⟩ := perm_has h (List.mem_range.1 hk)
      exact List.mem_of_getElem? hi
theorem orderL_perm (es : List Ent) (order : List Int) : (orderL es order).Perm es := by
  unfold orderL
  split
  · rename_i h
    have h1 := (order_perm h.2).map (fun i => es.getD i.toNat ⟨0, []⟩)
    rw [List.map_map, h.1] at h1
    have h2 : (List.range es.length).map ((fun i : Int => es.getD i.toNat ⟨0, []⟩) ∘ fun (k : Nat) => (k : Int)) = es := by
      apply List.ext_getElem
      · simp
      · intro i h1 h2
        simp at h1
        simp [h1]
    rw [h2] at h1
    exact h1
  · exact List.Perm.refl _
/-- A level of Good onions of one length: what the hop hands on is accepted. -/
theorem run_checks {ss : List Sec} {dd : List (List Int)} {H i m : Nat} {es : List Ent} {s : Sec} {p : Pub} (h : ∀ e ∈ es, Good ss dd H i e) (hm : ∀ e ∈ es, e.box.length = m) (hi : i < H) (hs : ss[i]? = some s) (hp : (chainL ss dd)[i]? = some p) (hso : ∀ s ∈ ss, s.ok) (h20 : ss.length ≤ 1000) (order : List Int) {draw : Int} (hd : in64 draw) :
    checkB p es (runL s p i es order draw) = true ∧ ∀ e ∈ (runL s p i es order draw).es, e.box.length + 16 = m := by
  obtain ⟨hf, hr, hg⟩ := good_run h hi hs hso h20 p order draw
  have hsk := hso s (List.mem_of_getElem? hs)
  have hpub := pubOf_chain hso hs hp
  have hop : ∀ e ∈ opened s i es, e.box.length + 16 = m := fun e he => by
    obtain ⟨e0, h0, rfl⟩ := List.mem_map.1 he
    obtain ⟨out, h1, -⟩ := (h e0 h0).open hi hs hso h20
    rw [h1]
    have := (opE_ok h1).2
    rw [hm e0 h0] at this
    exact this
  have hbox : ∀ e ∈ (runL s p i es order draw).es, e.box.length + 16 = m := fun e he => by
    rw [hr] at he; exact hop e (orderL_mem e he)
  refine ⟨?_, hbox⟩
  have hxs : (opened s i es).map Ent.x = (es.map Ent.x).map fun x => timesP x s.blind := by
    unfold opened
    rw [List.map_map, List.map_map]
    apply List.map_congr_left
    intro e he
    obtain ⟨out, h1, -⟩ := (h e he).open hi hs hso h20
    show ((opE s i e).getD ⟨0, []⟩).x = timesP e.x s.blind
    rw [h1]
    exact (opE_x h1).2.1
  have hok : ∀ x ∈ es.map Ent.x, okP x := fun x hx => by
    obtain ⟨e, he, rfl⟩ := List.mem_map.1 hx
    exact (h e he).ok hso
  obtain ⟨hpo, hpt⟩ := prodP_times hsk.1 (es.map Ent.x) 1 ⟨by decide, by decide⟩ hok
  have hone : timesP 1 s.blind = 1 := by
    obtain ⟨b, hb⟩ := Int.eq_ofNat_of_zero_le hsk.1.1
    rw [hb, show (1 : Int) = ((1 : Nat) : Int) from rfl, timesP_nat 1 b (by decide) (by decide), Nat.one_pow]
    rfl
  have hprod : prodE (orderL (opened s i es) order) = timesP (prodE es) s.blind := by
    have h1 := prodP_perm ((orderL_perm (opened s i es) order).map Ent.x) (fun x hx => by
      obtain ⟨e, he, rfl⟩ := List.mem_map.1 hx
      exact (hg e (orderL_mem e he)).ok hso) 1
    show prodP _ 1 = timesP (prodP _ 1) s.blind
    rw [h1, hxs, ← hpt, hone]
  have heq : equalOk p.base p.blind (prodE es) (prodE (runL s p i es order draw).es) (runL s p i es order draw).p.c (runL s p i es order draw).p.s := by
    unfold runL
    rw [if_pos hf]
    show equalOk p.base p.blind (prodE es) (prodE (orderL (opened s i es) order)) (equalC p.base p.blind (prodE es) (prodE (orderL (opened s i es) order)) draw) (ansP (equalC p.base p.blind (prodE es) (prodE (orderL (opened s i es) order)) draw) s.blind draw)
    rw [hprod, hpub.2.1]
    exact equal_holds hpub.1 hpo hsk.1 hd
  unfold checkB
  rw [decide_eq_true heq, Bool.and_true, Bool.and_eq_true]
  refine ⟨decide_eq_true (by rw [hr, length_orderL, length_opened]), ?_⟩
  rw [List.all_eq_true]
  intro e he
  cases hes : es[0]? with
  | none =>
    have hl : (runL s p i es order draw).es.length = es.length := by rw [hr, length_orderL, length_opened]
    have := List.getElem?_eq_none_iff.1 hes
    have h3 := List.length_pos_of_mem he
    omega
  | some e0 =>
    rw [chkE_some hes]
    have h1 : okP e.x := (hg e (orderL_mem e (by rw [hr] at he; exact he))).ok hso
    have h2 : e.box.length + 16 = e0.box.length := by rw [hbox e he, hm e0 (List.mem_of_getElem? hes)]
    rw [decide_eq_true h1, decide_eq_true h2]; rfl
/-- The product of the first Blinds. -/
def blN (ss : List Sec) : Nat → Int
  | 0 => 1
  | i + 1 => mulN (blN ss i) (ss.getD i ⟨0, 0, 0⟩).blind
theorem mulN_in (a b : Int) : in64 (mulN a b) := ⟨Int.emod_nonneg _ (by decide), Int.lt_trans (Int.emod_lt_of_pos _ (by decide)) (by decide)⟩
theorem blN_in (ss : List Sec) : ∀ i, in64 (blN ss i)
  | 0 => by unfold blN in64; decide
  | i + 1 => mulN_in _ _
theorem blN_succ {ss : List Sec} {i : Nat} {s : Sec} (h : ss[i]? = some s) : blN ss (i + 1) = mulN (blN ss i) s.blind := by rw [blN, List.getD_eq_getElem?_getD, h]; rfl
theorem timesP_mulN {g a b : Int} (hg : okP g) (ha : in64 a) (hb : in64 b) : timesP (timesP g a) b = timesP g (mulN a b) := by
  obtain ⟨g, rfl⟩ := Int.eq_ofNat_of_zero_le (Int.le_of_lt hg.1)
  obtain ⟨a, rfl⟩ := Int.eq_ofNat_of_zero_le ha.1
  obtain ⟨b, rfl⟩ := Int.eq_ofNat_of_zero_le hb.1
  have hp : PP = 2305843009213693951 := rfl
  have g0 : 0 < g := by have := hg.1; omega
  have g1 : g < PP := by have := hg.2; omega
  have hm : mulN (a : Int) (b : Int) = ((a * b % NN : Nat) : Int) := by unfold mulN; rw [Int.natCast_emod, Int.natCast_mul]; rfl
  rw [hm, timesP_nat g a g0 g1, timesP_nat _ b (pow_pos_mod g a g0 g1) (Nat.mod_lt _ (by decide)), timesP_nat g _ g0 g1, ← Nat.pow_mod, ← Nat.pow_mul, pow_modN g _ g0 g1]
theorem chain_base (ss : List Sec) (dd : List (List Int)) (hs : ∀ s ∈ ss, s.ok) : ∀ i, i ≤ ss.length → (chainN ss dd i).2 = timesP 37 (blN ss i)
  | 0, _ => by
    show (37 : Int) = timesP ((37 : Nat) : Int) ((1 : Nat) : Int)
    rw [timesP_nat 37 1 (by decide) (by decide)]; rfl
  | i + 1, hi => by
    obtain ⟨s, h⟩ : ∃ s, ss[i]? = some s := ⟨_, List.getElem?_eq_getElem (by omega)⟩
    rw [blN_succ h, ← timesP_mulN ok37 (blN_in ss i) (hs s (List.mem_of_getElem? h)).1, ← chain_base ss dd hs i (by omega)]
    show timesP (chainN ss dd i).2 (ss.getD i ⟨0, 0, 0⟩).blind = _
    rw [List.getD_eq_getElem?_getD, h]; rfl
theorem made_get (ps : List Pub) (from_ : Int) {n i : Nat} (h : i < n) : (madeL ps from_ n)[i]? = some (madeE ps from_ i) := by
  rw [madeL_map, List.getElem?_map, List.getElem?_range h]; rfl
/-- Where an onion stands at the end, and what it is. -/
theorem fin_at {ss : List Sec} {dd : List (List Int)} {from_ : Int} {O : Nat → List Int} {n i : Nat} (hso : ∀ s ∈ ss, s.ok) (h20 : ss.length ≤ 1000) (hi : i < n) :
    ∃ j, j < n ∧ (levN ss (chainL ss dd) from_ O (madeL (chainL ss dd) from_ n) ss.length)[j]? = some ⟨timesP (timesP 37 (madeX from_ i)) (blN ss ss.length), put64 i⟩ := by
  have h0 : ∀ e ∈ madeL (chainL ss dd) from_ n, Good ss dd ss.length 0 e := made_good n
  have hu : (madeL (chainL ss dd) from_ n)[i]? = some (entAt ss dd (madeX from_ i) (put64 i) (-1) 0) := made_get _ _ hi
  have h := lev_at (draw := from_) (O := O) hso h20 (Nat.le_refl _) h0 hu (madeX_in _ _) (fun j _ => by omega) ss.length (Nat.le_refl _)
  rw [length_madeL] at h
  refine ⟨_, posN_lt hi _, h.trans ?_⟩
  unfold entAt xAt
  rw [chain_base ss dd hso _ (Nat.le_refl _), timesP_comm ok37 (blN_in ss _) (madeX_in _ _), length_chainL, Nat.sub_self]
  rfl
/-- Each level: so many, of one length, all Good. -/
theorem lev_len {ss : List Sec} {dd : List (List Int)} {from_ : Int} {O : Nat → List Int} {n : Nat} (hso : ∀ s ∈ ss, s.ok) (h20 : ss.length ≤ 1000) : ∀ i, i ≤ ss.length →
    (levN ss (chainL ss dd) from_ O (madeL (chainL ss dd) from_ n) i).length = n ∧ (∀ e ∈ levN ss (chainL ss dd) from_ O (madeL (chainL ss dd) from_ n) i, Good ss dd ss.length i e) := fun i hi => by
  obtain ⟨h1, h2⟩ := lev_good (draw := from_) (O := O) hso h20 (Nat.le_refl _) (made_good (ss := ss) (dd := dd) (H := ss.length) (from_ := from_) n) i hi
  exact ⟨by rw [h1, length_madeL], h2⟩
theorem lev_box {ss : List Sec} {dd : List (List Int)} {from_ : Int} {O : Nat → List Int} {n : Nat} (hso : ∀ s ∈ ss, s.ok) (h20 : ss.length ≤ 1000) (hf : in64 from_) : ∀ i, i ≤ ss.length → ∀ e ∈ levN ss (chainL ss dd) from_ O (madeL (chainL ss dd) from_ n) i, e.box.length = 8 + 16 * ss.length - 16 * i
  | 0, _ => fun e he => made_len2 e he
  | i + 1, hi => fun e he => by
    have ih := lev_box (dd := dd) (O := O) (n := n) hso h20 hf i (by omega)
    have hs : ss[i]? = some (ss[i]'(by omega)) := List.getElem?_eq_getElem (by omega)
    have hp := chainL_get ss dd i (by omega)
    rw [levN_succ hs hp] at he
    have := (run_checks (lev_len (dd := dd) (O := O) (n := n) (from_ := from_) hso h20 i (by omega)).2 ih (by omega) hs hp hso h20 (O i) hf).2 e he
    omega
/-- What the walk needs of a level. -/
theorem lev_step {ss : List Sec} {dd : List (List Int)} {from_ : Int} {O : Nat → List Int} {n i : Nat} {s : Sec} {p : Pub} (hso : ∀ s ∈ ss, s.ok) (h20 : ss.length ≤ 1000) (hf : in64 from_) (hi : i < ss.length) (hs : ss[i]? = some s) (hp : (chainL ss dd)[i]? = some p) :
    failsL s i (levN ss (chainL ss dd) from_ O (madeL (chainL ss dd) from_ n) i) = [] ∧ checkB p (levN ss (chainL ss dd) from_ O (madeL (chainL ss dd) from_ n) i) (runL s p i (levN ss (chainL ss dd) from_ O (madeL (chainL ss dd) from_ n) i) (O i) from_) = true := by
  have h1 := lev_len (dd := dd) (O := O) (n := n) (from_ := from_) hso h20 i (by omega)
  have h2 := lev_box (dd := dd) (O := O) (n := n) hso h20 hf i (by omega)
  exact ⟨(good_run h1.2 hi hs hso h20 p (O i) from_).1, (run_checks h1.2 h2 hi hs hp hso h20 (O i) hf).1⟩
theorem lev_ok {ss : List Sec} {dd : List (List Int)} {from_ : Int} {O : Nat → List Int} {n : Nat} (hso : ∀ s ∈ ss, s.ok) (h20 : ss.length ≤ 1000) (i : Nat) (hi : i ≤ ss.length) : ∀ e ∈ levN ss (chainL ss dd) from_ O (madeL (chainL ss dd) from_ n) i, e.ok ∧ e.box.length ≤ 20000000000000 := fun e he => by
  have h := (lev_len (dd := dd) (O := O) (n := n) (from_ := from_) hso h20 i hi).2 e he
  exact ⟨⟨Int.le_of_lt (h.ok hso).1, Int.lt_trans (h.ok hso).2 (by decide)⟩, Nat.le_trans (h.len h20) (by decide)⟩
end Go.Proofs.YtmbgcjfmfkddpaaGreat
namespace Go.Proofs.YtmbgcjfmfkddpaaGreat
set_option linter.unusedVariables false
set_option linter.unusedSimpArgs false
open Go Go.RowKit

set_option maxRecDepth 100000 in
set_option maxHeartbeats 8000000 in
theorem HopOpens_any (seed : List UInt8) (k n from_ : Int) (orders : List (List Int)) (vo : Value) (w : World) (h32 : seed.length = 32) (hk : inI k) (hn : inI n) (hf : in64 from_) (ho : SlR intsR w.heap.size w vo orders) :
    Calls Tryz.prog 4 #[.agg (keyA seed), .int .i64 k, .int .i64 n, .int .u64 from_, vo] w fun e w' => e = .returned (.bool true) ∧ Below w.heap.size w w' := by
  obtain ⟨ao, co, rfl, hco, hco'⟩ := ho.form
  have HOR := Lib.hid ho; clear ho
  have HK := Lib.hid h32; clear h32
  have HKI := Lib.hid hk
  obtain ⟨k0, k1⟩ := hk
  obtain ⟨n0, n1⟩ := hn
  have hk0 := Lib.hid (Blk.new w (keyA seed) 23)
  have hb0 := Lib.hid (show Below w.heap.size w (w.alloc (.cells (keyA seed) 23)) by go_grown)
  have hRR := fun (u : World) => LChain_any seed k u HK.out HKI.out
  unfold RetC at hRR
  by_cases hr : 1 ≤ k ∧ k ≤ 6
  · have HD := Lib.hid (decide_eq_true hr)
    by_cases hg : (0 ≤ n ∧ n ≤ 8) ∧ k ≤ (orders.length : Int)
    · obtain ⟨⟨g0, g1⟩, g2⟩ := hg
      obtain ⟨K, rfl⟩ : ∃ K : Nat, k = K := ⟨k.toNat, by omega⟩
      obtain ⟨N, rfl⟩ : ∃ N : Nat, n = N := ⟨n.toNat, by omega⟩
      have d1 : ¬ (N : Int) < 0 := by omega
      have d2 : ¬ (8 : Int) < (N : Int) := by omega
      have d3 : decide (orders.length < K) = false := decide_eq_false (by omega)
      have hLS := length_keysSL seed 3 4 (K : Int).toNat
      have hSO := keysSL_ok seed 3 4 (K : Int).toNat
      have hPO : ∀ p ∈ keysP seed 3 4 (K : Int).toNat, p.ok := chainN_ok _ _ _
      rw [show keysP seed 3 4 (K : Int).toNat = chainL (keysSL seed 3 4 (K : Int).toNat) (keysDL seed 3 4 (K : Int).toNat) from rfl] at hPO hRR
      generalize keysDL seed 3 4 (K : Int).toNat = dd at *
      generalize keysSL seed 3 4 (K : Int).toNat = ss at *
      rw [Int.toNat_natCast] at hLS
      subst hLS
      have h20 : ss.length ≤ 1000 := by omega
      have HRR := Lib.hid hRR; clear hRR
      have HMD := Lib.hid fun (w' : World) (v : Value) (h : SeesP w' v (chainL ss dd)) => Made19_any (chainL ss dd) N from_ v w' h hPO (by rw [length_chainL]; omega) (by omega) (by omega) hf
      rw [Int.toNat_natCast] at HMD
      have HLP := Lib.hid (length_chainL ss dd)
      have HLN := Lib.hid fun i hi => (lev_len (dd := dd) (from_ := from_) (O := ordO orders) (n := N) hSO h20 i hi).1
      have HLO := Lib.hid fun i hi => lev_ok (dd := dd) (from_ := from_) (O := ordO orders) (n := N) hSO h20 i hi
      have HST := Lib.hid fun (i : Nat) (s : Sec) (p : Pub) (hi : i < ss.length) (hs : ss[i]? = some s) (hp : (chainL ss dd)[i]? = some p) => lev_step (dd := dd) (from_ := from_) (O := ordO orders) (n := N) hSO h20 hf hi hs hp
      have HSU := Lib.hid fun (i : Nat) (s : Sec) (p : Pub) (hs : ss[i]? = some s) (hp : (chainL ss dd)[i]? = some p) => levN_succ (ss := ss) (ps := chainL ss dd) (draw := from_) (O := ordO orders) (l0 := madeL (chainL ss dd) from_ N) hs hp
      have HFA := Lib.hid fun (i : Nat) (hi : i < N) => fin_at (dd := dd) (from_ := from_) (O := ordO orders) hSO h20 hi
      have HSO := Lib.hid hSO; have HPO := Lib.hid hPO
      have HL0 := Lib.hid (show levN ss (chainL ss dd) from_ (ordO orders) (madeL (chainL ss dd) from_ N) 0 = madeL (chainL ss dd) from_ N from rfl)
      clear hPO hSO
      generalize madeL (chainL ss dd) from_ N = M0 at *
      generalize chainL ss dd = ps at *
      go_enter Tryz.func4, Tryz.ntmps4
      go_wp2_with (first
        | (go_at_call 6; refine (alive19_any _).mono ?_; rintro e w1 ⟨rfl, hb1⟩; have hkey1 := hk0.out.below hb1; have e1 : Ext w w1 := Ext.tr hb0.out hb1)
        | (refine wpList_load_row rfl 23 _ rfl w.heap.size rfl _ (keyA seed) (0, 0) _ hkey1 under_key rfl (by rw [keyA_size, HK.out]; exact info_key) ?_)
        | (go_at_call 7; refine (HRR.out _).mono ?_; rintro e w2 ⟨v2, u2, rfl, hok2, hb2⟩; rw [HD.out]
           have hbel2 : Ext w w2 := Ext.tr e1 hb2
           have HS2 := Lib.hid (show SeesS w2 v2 ss from sees_of_owns (hok2 hr).1)
           have HP2 := Lib.hid (show SeesP w2 u2 ps from sees_of_owns (hok2 hr).2)
           clear hok2)
        | (go_at_call 8; refine (HMD.out _ _ HP2.out).mono ?_; rintro e w3 ⟨v3, rfl, hown3, hb3⟩
           obtain ⟨a3, c3, rfl, -, -⟩ := hown3.sl.form
           have hbel3 : Ext w w3 := Ext.tr hbel2 hb3))
      obtain ⟨bS, oS, cS, rfl, -, -, -⟩ := seesS_open HS2.out (by omega)
      obtain ⟨bP, oP, cP, rfl, -, -, -⟩ := seesP_open HP2.out (by rw [HLP.out]; omega)
      obtain ⟨bO, oO, cO, e0, -, -⟩ := HOR.out.open (by omega)
      obtain ⟨rfl, rfl⟩ : ao = some ⟨bO, oO, none⟩ ∧ co = cO := by injection e0 with e1 _ e3; exact ⟨e1, e3⟩
      clear e0
      have HSA := Lib.hid fun i s (h : ss[i]? = some s) => seesS_at HS2.out (by omega) i s h
      have HPA := Lib.hid fun i p (h : ps[i]? = some p) => seesP_at HP2.out (by rw [HLP.out]; omega) i p h
      rw [HLP.out]
      have HMV := Lib.hid hown3.sl
      have HX2 := Lib.hid hbel2; have HX23 := Lib.hid (show Ext w2 w3 from hb3)
      clear hown3 hb3 hbel3 HMD HRR HP2
      have HIS := Lib.hid fun (s : Sec) => (show (Tryz.prog.info? 41).map (·.size) = some s.cells.length from info_sec)
      have HIP := Lib.hid fun (p : Pub) => (show (Tryz.prog.info? 49).map (·.size) = some p.cells.length from info_pub)
      have HBI := Lib.hid (blN_in ss)
      go_loopw [15, 16, 17, 18, 19] (fun lv bv iv _ _ wr => ∃ i : Nat, iv = .int .i64 i ∧ i ≤ ss.length ∧ SlR entR 0 wr lv (levN ss ps from_ (ordO orders) M0 i) ∧ bv = .int .u64 (blN ss i) ∧ Ext w2 wr) (fun _ _ iv _ _ _ => ss.length - (intOf iv).toNat)
      case atStart => exact ⟨0, rfl, Nat.zero_le _, HMV.out, rfl, HX23.out⟩
      case round =>
        clear HMV HX23
        obtain ⟨i, rfl, hiK, hlv, rfl, hX⟩ := hrel
        obtain ⟨aL, cL, rfl, -, -⟩ := hlv.form
        have HL := Lib.hid hlv; have HX := Lib.hid hX
        clear hlv hX
        have hLL := HLN.out i hiK
        by_cases hlt : i < ss.length
        · obtain ⟨s, hs⟩ : ∃ s, ss[i]? = some s := ⟨_, List.getElem?_eq_getElem hlt⟩
          obtain ⟨p, hp⟩ : ∃ p, ps[i]? = some p := ⟨_, List.getElem?_eq_getElem (by rw [HLP.out]; exact hlt)⟩
          obtain ⟨od, hod⟩ : ∃ od, orders[i]? = some od := ⟨_, List.getElem?_eq_getElem (by omega)⟩
          obtain ⟨vd, hcd, hvd⟩ := slL_atI HOR.out i od hod
          obtain ⟨ad, cd, rfl, hd1, hd2⟩ := hvd.form
          have hsu := HSU.out i s p hs hp
          obtain ⟨hfl, hck⟩ := HST.out i s p hlt hs hp
          rw [ordO_at hod] at hsu hck
          have HRU := Lib.hid fun (u : World) (h : Ext wr u) => HRun_any s p i _ od from_ w.heap.size _ (.slice ad od.length cd) u (HSO.out s (List.mem_of_getElem? hs)) (HPO.out p (List.mem_of_getElem? hp)) hf ((HL.out.ext h).mono (Nat.zero_le _)) (hvd.ext (Ext.tr HX2.out (Ext.tr HX.out h))) (HLO.out i hiK) (by rw [hLL]; omega) (by omega)
          unfold RetH at HRU
          rw [hfl] at HRU
          have hpk : (runL s p i (levN ss ps from_ (ordO orders) M0 i) od from_).p.ok := by
            unfold runL; rw [if_pos hfl]
            exact equalP_ok _ _ _ _ _ _
          have hnx := HLN.out (i + 1) (by omega)
          have hno := HLO.out (i + 1) (by omega)
          rw [hsu] at hnx hno
          have HCK := Lib.hid fun (u : World) (vx : Value) (h : Ext wr u) (hx : SlR entR 0 u vx (runL s p i (levN ss ps from_ (ordO orders) M0 i) od from_).es) => HCheck_any p (levN ss ps from_ (ordO orders) M0 i) (runL s p i (levN ss ps from_ (ordO orders) M0 i) od from_) 0 _ vx u (HPO.out p (List.mem_of_getElem? hp)) hpk (HL.out.ext h) hx (fun e he => (HLO.out i hiK e he).1) hno (by rw [hLL]; omega)
          rw [hck] at HCK
          have HSUC := Lib.hid hsu; have HNX := Lib.hid hnx
          have HRS := Lib.hid (HSA.out i s hs); have HRP := Lib.hid (HPA.out i p hp)
          have hbl := blN_succ hs
          have hbi := HBI.out i
          have hsb := (HSO.out s (List.mem_of_getElem? hs)).1
          have HMU := Lib.hid fun (u : World) => MulN_any (blN ss i) s.blind u hbi.1 hbi.2 hsb.1 hsb.2
          rw [← hbl] at HMU
          have HCD := Lib.hid hcd
          clear hsu hck hfl hpk hnx hno hs hp hod hvd hcd hbl hbi hsb hd1 hd2
          generalize runL s p i (levN ss ps from_ (ordO orders) M0 i) od from_ = RUN at *
          generalize hLI : levN ss ps from_ (ordO orders) M0 i = LI at *
          clear hLI
          rw [hLL] at *
          have hdS : decide (ss.length ≤ i) = false := decide_eq_false (by omega)
          have hdO : decide (orders.length ≤ i) = false := decide_eq_false (by omega)
          have hqO : ∀ e_ : InC (fun u => Ext wr u), e_.u.cell? ⟨bO, oO + i, none⟩ = some (.slice ad od.length cd) := fun e_ => (Below.cell (Ext.tr HX2.out (Ext.tr HX.out e_.has)) (World.block_lt_of_cell? w _ HCD.out)).trans HCD.out
          go_wp2_with fail
          have hst := stabE wr
          have hk10 : HoldT (fun u => Ext wr u) w2 wr.drew := HoldT.drew hst ⟨Ext.refl _, HX.out⟩
          try change Code.wp _ _ _ (Act.mk _ _) _
          haveI hne_ : Nonempty (InC (fun u => Ext wr u)) := ⟨⟨_, (hk10).1⟩⟩
          refine wp_region_tr (C := fun w_ => ∃ e_ : InC (fun u => Ext wr u), w_ = e_.u) (.step [0, 1, 2, 3, 4, 5, 6, 7, 8, 9, 10, 11, 12, 13, 14] (.alt 15 (.step [16, 17, 18] (.alt 19 (.step [] (.alt 20 (.fin [21]) .nil)) .nil)) (.alt 19 (.step [] (.alt 15 (.step [16, 17, 18] (.alt 20 (.fin [21]) .nil)) .nil)) .nil))) (by kernel_rfl) (by kernel_rfl) (fun _ _ _ _ hd_ h_ => ⟨hd_.symm.trans h_.1, h_.2⟩) ⟨⟨World.drew _, (hk10).1⟩, rfl⟩ ?_
          have hk_ := hk10
          repeat' (first
            | ((with_reducible refine wpTr_fin ?_)
               simp only [pickOps, List.flatMap_cons, List.flatMap_nil, List.drop_succ_cons, List.drop_zero, List.take_succ_cons, List.take_zero, List.cons_append, List.nil_append, List.append_nil]
               repeat (first | (first | (refine wpQuiet_load_mid rfl 41 (.tmp 64) rfl bS (oS + i * 3) rfl s.cells _ (fun w_ hw_ => by obtain ⟨e_, rfl⟩ := hw_; exact range_below HRS.out (Ext.tr HX.out e_.has)) Tryz.underlying41 rfl (HIS.out s) ?_; simp only [Act.put, List.setIfInBounds_toArray, List.set_cons_succ, List.set_cons_zero]) | (refine wpQuiet_load_mid rfl 49 (.tmp 68) rfl bP (oP + i * 10) rfl p.cells _ (fun w_ hw_ => by obtain ⟨e_, rfl⟩ := hw_; exact range_below HRP.out (Ext.tr HX.out e_.has)) Tryz.underlying49 rfl (HIP.out p) ?_; simp only [Act.put, List.setIfInBounds_toArray, List.set_cons_succ, List.set_cons_zero])) | go_big_quiet_step (exact rfl))
               refine wpQuiet_nil ?_)
            | ((with_reducible refine wpTr_step ?_); simp only [pickOps, List.flatMap_cons, List.flatMap_nil, List.drop_succ_cons, List.drop_zero, List.take_succ_cons, List.take_zero, List.cons_append, List.nil_append, List.append_nil]; repeat (first | (first | (refine wpQuiet_load_mid rfl 41 (.tmp 64) rfl bS (oS + i * 3) rfl s.cells _ (fun w_ hw_ => by obtain ⟨e_, rfl⟩ := hw_; exact range_below HRS.out (Ext.tr HX.out e_.has)) Tryz.underlying41 rfl (HIS.out s) ?_; simp only [Act.put, List.setIfInBounds_toArray, List.set_cons_succ, List.set_cons_zero]) | (refine wpQuiet_load_mid rfl 49 (.tmp 68) rfl bP (oP + i * 10) rfl p.cells _ (fun w_ hw_ => by obtain ⟨e_, rfl⟩ := hw_; exact range_below HRP.out (Ext.tr HX.out e_.has)) Tryz.underlying49 rfl (HIP.out p) ?_; simp only [Act.put, List.setIfInBounds_toArray, List.set_cons_succ, List.set_cons_zero])) | go_big_quiet_step (exact rfl))
               refine wpQuiet_nil ?_)
            | (with_reducible refine wpTr_one ?_)
            | (with_reducible refine wpTr_alt ?_ ?_)
            | (simp only [pickOps, List.flatMap_cons, List.flatMap_nil, List.drop_succ_cons, List.drop_zero, List.take_succ_cons, List.take_zero, List.cons_append, List.nil_append, List.append_nil]
               go_wp2_with (first
            | (go_at_call 11; refine (HRU.out _ hk_.has).mono ?_; rintro r_ x5 ⟨vE, vB, rfl, hE5, hB5, e5⟩; obtain ⟨aE, cE, rfl, -, -⟩ := hE5.form; obtain ⟨aB, cB, rfl, -, -⟩ := hB5.form; have hk5 := HoldT.step hst hk_ e5; have e5' : Ext _ x5 := e5)
            | (refine wpList_allocB rfl _ rfl PasZ run_allocPas2 ?_; intro x6 g hG hg6 e6; have hg0 := Nat.le_trans (Below.size hk_.has) hg6; have hk6 := HoldT.step hst hk_ e6; have e6' : Ext _ x6 := e6)
            | (refine wpList_store_row rfl 45 (.tmp 18) _ rfl g #[.slice aE RUN.es.length cE, .int .u64 RUN.p.c, .int .u64 RUN.p.s] _ _ rfl rfl (exBl hG) rfl info_pas (one_pas2 _ _ _ _ _) ?_; intro x7 hg7 hs7 hR7
               have hwg : w2.heap.size ≤ g := Nat.le_trans (Below.size HX.out) hg0
               have hbel7 : Ext wr x7 := ext_row hk_.has hg7 hg0
               have hk7 : HoldT (fun u => Ext wr u) w2 x7 := ⟨hbel7, ext_row hk_.up hg7 hwg⟩
               have hE7 := (hE5.ext (w := x5)).grownT hg7 (RowT.blk (exBl hG)) (by decide) (by decide) (fun _ _ => Nat.zero_le _)
               clear hs7))
               refine phPost_hold (by first | with_reducible assumption | exact HoldT.alloc hstab (by with_reducible assumption) _ | exact HoldT.alloc hstab (HoldT.alloc hstab (by with_reducible assumption) _) _) ?_
               intro hk_))
          all_goals (
            have HUP := Lib.hid hk_.up; have HB7 := Lib.hid hbel7; have HR7 := Lib.hid hR7; have HE7 := Lib.hid hE7.sl
            clear hE7 hE5 hB5 hR7 hqO hg7 hG
            go_wp2_with fail
            have hst := stabE x7
            have hk11 : HoldT (fun u => Ext x7 u) w2 x7.drew := HoldT.drew hst ⟨Ext.refl _, HUP.out⟩
            try change Code.wp _ _ _ (Act.mk _ _) _
            refine wp_region_runR Ext 13 148 (HoldT (fun u => Ext x7 u) _) [[], [(0, 80)], [(1, 81)], [(2, 82)], [(3, 83)], [(3, 83)], [(4, 84), (5, 85), (3, 83)], [(6, 86), (3, 83)], [(3, 83)], [(3, 83)], [(7, 87), (8, 88), (9, 89), (3, 83)], [(10, 90), (3, 83)], [(3, 83), (11, 91)]] [(0, 80), (1, 81), (2, 82), (3, 83), (4, 84), (5, 85), (6, 86), (7, 87), (8, 88), (9, 89), (10, 90), (11, 91), (12, 92)] (by kernel_rfl) (by kernel_rfl) (by first | rfl | simp) (hk11) ?_
            simp only [List.take_succ_cons, List.take_zero, List.drop_succ_cons, List.drop_zero]
            refine sp_op (Ph.eq _) (fun u hu => by
              refine spArg_nil ?_
              go_wp2_with (fail)
              exact ⟨rfl, hu, Ext.refl _, slot_eq rfl⟩) ?_
            refine sp_op (Ph.eq _) (fun u hu => by
              refine spArg_eq 0 rfl rfl ?_
              refine spArg_nil ?_
              simp only [Act.put, List.setIfInBounds_toArray, List.set_cons_succ, List.set_cons_zero]
              go_wp2_with (fail)
              exact ⟨rfl, hu, Ext.refl _, slot_eq rfl⟩) ?_
            refine sp_op (Ph.eq _) (fun u hu => by
              refine spArg_eq 0 rfl rfl ?_
              refine spArg_nil ?_
              simp only [Act.put, List.setIfInBounds_toArray, List.set_cons_succ, List.set_cons_zero]
              go_wp2_with (fail)
              exact ⟨rfl, hu, Ext.refl _, slot_eq rfl⟩) ?_
            refine sp_op (Ph.eq _) (fun u hu => by
              refine spArg_eq 0 rfl rfl ?_
              refine spArg_nil ?_
              simp only [Act.put, List.setIfInBounds_toArray, List.set_cons_succ, List.set_cons_zero]
              go_wp2_with (fail)
              exact ⟨rfl, hu, Ext.refl _, slot_eq rfl⟩) ?_
            refine sp_op (Ph.eq _) (fun u hu => by
              refine spArg_eq 0 rfl rfl ?_
              refine spArg_nil ?_
              simp only [Act.put, List.setIfInBounds_toArray, List.set_cons_succ, List.set_cons_zero]
              go_wp2_with (fail)
              exact ⟨rfl, hu, Ext.refl _, slot_eq rfl⟩) ?_
            refine sp_op (Ph.eq _) (fun u hu => by
              refine spArg_eq 1 rfl rfl ?_
              refine spArg_nil ?_
              simp only [Act.put, List.setIfInBounds_toArray, List.set_cons_succ, List.set_cons_zero]
              go_wp2_with (fail)
              exact ⟨rfl, hu, Ext.refl _, slot_eq rfl⟩) ?_
            refine sp_op (Ph.eq _) (fun u hu => by
              refine spArg_eq 1 rfl rfl ?_
              refine spArg_eq 0 rfl rfl ?_
              refine spArg_eq 2 rfl rfl ?_
              refine spArg_nil ?_
              simp only [Act.put, List.setIfInBounds_toArray, List.set_cons_succ, List.set_cons_zero]
              go_wp2_with (fail)
              exact ⟨rfl, hu, Ext.refl _, slot_eq rfl⟩) ?_
            refine sp_op (Ph.eq (.agg p.cells.toArray)) (fun u hu => by
              refine spArg_eq 0 rfl rfl ?_
              refine spArg_eq 3 rfl rfl ?_
              refine spArg_nil ?_
              simp only [Act.put, List.setIfInBounds_toArray, List.set_cons_succ, List.set_cons_zero]
              go_wp2_with ((refine wpList_load_midG rfl 49 _ rfl bP (oP + i * 10) rfl _ _ (range_below HRP.out (Ext.tr HX.out (Ext.tr HB7.out hu.has))) Tryz.underlying49 rfl (HIP.out p) ?_))
              exact ⟨rfl, hu, Ext.refl _, slot_eq rfl⟩) ?_
            refine sp_op (Ph.eq _) (fun u hu => by
              refine spArg_eq 4 rfl rfl ?_
              refine spArg_nil ?_
              simp only [Act.put, List.setIfInBounds_toArray, List.set_cons_succ, List.set_cons_zero]
              go_wp2_with (fail)
              exact ⟨rfl, hu, Ext.refl _, slot_eq rfl⟩) ?_
            refine sp_op (Ph.eq (.agg _)) (fun u hu => by
              refine spArg_eq 5 rfl rfl ?_
              refine spArg_nil ?_
              simp only [Act.put, List.setIfInBounds_toArray, List.set_cons_succ, List.set_cons_zero]
              go_wp2_with ((refine wpList_load_rowG rfl 45 _ rfl g rfl _ _ (0, 0) _ (HR7.out.below hu.has) Tryz.underlying45 rfl info_pas ?_))
              exact ⟨rfl, hu, Ext.refl _, slot_eq rfl⟩) ?_
            refine sp_op (Ph.eq _) (fun u hu => by
              refine spArg_eq 2 rfl rfl ?_
              refine spArg_eq 1 rfl rfl ?_
              refine spArg_eq 0 rfl rfl ?_
              refine spArg_eq 6 rfl rfl ?_
              refine spArg_nil ?_
              simp only [Act.put, List.setIfInBounds_toArray, List.set_cons_succ, List.set_cons_zero]
              go_wp2_with ((go_at_call 13; refine (HCK.out _ _ (Ext.tr HB7.out hu.has) (HE7.out.ext hu.has)).mono ?_; rintro e_ x_ ⟨rfl, hb_⟩))
              exact ⟨rfl, HoldT.step hst hu hb_, hb_, slot_eq rfl⟩) ?_
            refine sp_op (Ph.eq _) (fun u hu => by
              refine spArg_eq 0 rfl rfl ?_
              refine spArg_eq 7 rfl rfl ?_
              refine spArg_nil ?_
              simp only [Act.put, List.setIfInBounds_toArray, List.set_cons_succ, List.set_cons_zero]
              go_wp2_with (fail)
              exact ⟨rfl, hu, Ext.refl _, slot_eq rfl⟩) ?_
            refine sp_op (Ph.eq _) (fun u hu => by
              refine spArg_eq 8 rfl rfl ?_
              refine spArg_eq 0 rfl rfl ?_
              refine spArg_nil ?_
              simp only [Act.put, List.setIfInBounds_toArray, List.set_cons_succ, List.set_cons_zero]
              go_wp2_with (fail)
              exact ⟨rfl, hu, Ext.refl _, slot_eq rfl⟩) ?_
            refine sp_end ?_
            intro u hu
            refine spArg_eq 12 rfl rfl ?_
            refine spArg_eq 11 rfl rfl ?_
            refine spArg_eq 10 rfl rfl ?_
            refine spArg_eq 9 rfl rfl ?_
            refine spArg_eq 8 rfl rfl ?_
            refine spArg_eq 7 rfl rfl ?_
            refine spArg_eq 6 rfl rfl ?_
            refine spArg_eq 5 rfl rfl ?_
            refine spArg_eq 4 rfl rfl ?_
            refine spArg_eq 3 rfl rfl ?_
            refine spArg_eq 2 rfl rfl ?_
            refine spArg_eq 1 rfl rfl ?_
            refine spArg_eq 0 rfl rfl ?_
            refine spArg_nil ?_
            simp only [Act.put, List.setIfInBounds_toArray, List.set_cons_succ, List.set_cons_zero]
            have hq1 := (pas_cell (HR7.out.below hu.has)).1
            have hq2 : u.cell? ⟨bS, oS + i * 3, none⟩ = some (.int .u64 s.blind) := by have := range_below HRS.out hu.up 0 _ rfl; rwa [Nat.add_zero] at this
            go_wp2_with (go_at_call 14; refine (HMU.out _).mono ?_; rintro r_ y_ ⟨rfl, rfl⟩)
            clear hq1 hq2
            go_roundw
            case rel => exact ⟨i + 1, rfl, by omega, by rw [HSUC.out]; exact HE7.out.ext hu.has, rfl, hu.up⟩
            case measure => (simp [intOf] <;> omega))
        · obtain rfl : i = ss.length := by omega
          have HOKF := Lib.hid (HLO.out ss.length (Nat.le_refl _))
          have hbl := HBI.out ss.length
          clear HLN HLO HST HSU HL0 HBI
          generalize levN ss ps from_ (ordO orders) M0 ss.length = F at *
          generalize blN ss ss.length = BL at *
          rw [hLL] at HL ⊢
          have HBL := Lib.hid hbl; have HFL := Lib.hid hLL
          clear hbl hLL
          go_wp2_with fail
          generalize wr = wz at *
          go_loopw [20, 21, 22] (fun iv _ _ wr => ∃ i : Nat, iv = .int .i64 i ∧ i ≤ N ∧ Ext wz wr) (fun iv _ _ _ => N - (intOf iv).toNat)
          case atStart => exact ⟨0, rfl, Nat.zero_le _, Ext.refl _⟩
          case round =>
            obtain ⟨i, rfl, hiN, hXo⟩ := hrel
            have HXO := Lib.hid hXo; clear hXo
            by_cases hlt2 : i < N
            · obtain ⟨J, hJ, hFJ⟩ := HFA.out i hlt2
              have HFJ := Lib.hid hFJ; clear hFJ
              go_wp2_with fail
              generalize wr = wo at *
              go_loopw [21, 22] (fun bv jv wr => ∃ (b : Bool) (j : Nat), bv = .bool b ∧ jv = .int .i64 j ∧ j ≤ N ∧ (J < j → b = true) ∧ Ext wz wr) (fun _ jv _ => N - (intOf jv).toNat)
              case atStart => exact ⟨false, 0, rfl, rfl, Nat.zero_le _, fun h => absurd h (Nat.not_lt_zero _), HXO.out⟩
              case round =>
                clear HXO
                obtain ⟨b, j, rfl, rfl, hjN, hbJ, hXi⟩ := hrel
                have HXI := Lib.hid hXi; have HBJ := Lib.hid hbJ
                clear hXi hbJ
                by_cases hlt3 : j < N
                · skip
                  obtain ⟨e, he⟩ : ∃ e, F[j]? = some e := ⟨_, List.getElem?_eq_getElem (by rw [HFL.out]; exact hlt3)⟩
                  obtain ⟨bF, oF, cF, e0, -, -⟩ := HL.out.open (by rw [HFL.out]; omega)
                  obtain ⟨rfl, rfl⟩ : aL = some ⟨bF, oF, none⟩ ∧ cL = cF := by injection e0 with e1 _ e3; exact ⟨e1, e3⟩
                  clear e0
                  obtain ⟨ve, hrg, hve⟩ := slE_at (HL.out.ext HXI.out) j e he
                  obtain ⟨ae, ce, rfl, -, -⟩ := sees_form hve
                  have HRG := Lib.hid hrg; have HVE := Lib.hid hve
                  have hjj : J = j → e.box = put64 i ∧ e.x = timesP (timesP 37 (madeX from_ i)) BL := fun h => by
                    subst h
                    have h2 := he.symm.trans HFJ.out
                    injection h2 with h2
                    subst h2
                    exact ⟨rfl, rfl⟩
                  have HJJ := Lib.hid hjj
                  clear hrg hve he hjj
                  have hst := stabE wr
                  have hdj : decide (N ≤ j) = false := decide_eq_false (by omega)
                  have HUW := Lib.hid (show Ext w wr from Ext.tr HX2.out (Ext.tr HX.out HXI.out))
                  have hmx := madeX_in from_ i
                  have HPU := Lib.hid fun (u : World) => (show Calls Tryz.prog 15 #[.slice none 0 0, .int .u64 (i : Int)] u (RetB (put64 i) u) from by
                    have h := Put64r_any u (.slice none 0 0) [] (i : Int) (Sees.nil _ _) (by omega) (by omega) (by decide)
                    rw [List.nil_append, Int.toNat_natCast] at h
                    exact h)
                  have HBA := Lib.hid fun (u : World) => Baser_any (madeX from_ i) u hmx.1 hmx.2
                  have HTI := Lib.hid fun (u : World) => Timesr_any (timesP 37 (madeX from_ i)) BL u (timesP_pos _ _).1 (Int.lt_trans (timesP_pos _ _).2 (by decide)) HBL.out.1 HBL.out.2
                  generalize hXX : timesP (timesP 37 (madeX from_ i)) BL = XX at *
                  have HL8 := Lib.hid (show (put64 i).length = 8 from length_put64 i)
                  generalize hP8 : put64 i = P8 at *
                  clear hXX hP8
                  go_wp2_with fail
                  have hk24 : HoldT (fun u => Ext wr u) w wr.drew := HoldT.drew hst ⟨Ext.refl _, HUW.out⟩
                  cases b with
                  | true =>
                    try change Code.wp _ _ _ (Act.mk _ _) _
                    refine wp_region_runR Ext 30 148 (HoldT (fun u => Ext wr u) _) [[], [(0, 116)], [(1, 117)], [(1, 117)], [(2, 118), (3, 119), (1, 117)], [(4, 120), (1, 117)], [(5, 121), (1, 117)], [(6, 122), (1, 117)], [(1, 117)], [(8, 124), (1, 117)], [(9, 125), (1, 117)], [(10, 126), (1, 117)], [(7, 123), (11, 127), (1, 117)], [(12, 128), (1, 117)], [(13, 129)], [(13, 129)], [(14, 130), (15, 131), (13, 129)], [(16, 132), (13, 129)], [(17, 133), (13, 129)], [(13, 129)], [(13, 129)], [(20, 136), (13, 129)], [(21, 137), (13, 129)], [(19, 135), (22, 138), (13, 129)], [(23, 139), (13, 129)], [(13, 129)], [(24, 140), (25, 141), (13, 129)], [(18, 134), (26, 142), (13, 129)], [(13, 129), (27, 143), (1, 117)], [(1, 117), (28, 144)]] [(0, 116), (1, 117), (2, 118), (3, 119), (4, 120), (5, 121), (6, 122), (7, 123), (8, 124), (9, 125), (10, 126), (11, 127), (12, 128), (13, 129), (14, 130), (15, 131), (16, 132), (17, 133), (18, 134), (19, 135), (20, 136), (21, 137), (22, 138), (23, 139), (24, 140), (25, 141), (26, 142), (27, 143), (28, 144), (29, 145)] (by kernel_rfl) (by kernel_rfl) (by first | rfl | simp) (hk24) ?_
                    simp only [List.take_succ_cons, List.take_zero, List.drop_succ_cons, List.drop_zero]
                    refine sp_op (Ph.eq (.bool true)) (fun u hu => by
                      refine spArg_nil ?_
                      go_wp2_with (fail)
                      exact ⟨rfl, hu, Ext.refl _, slot_eq rfl⟩) ?_
                    refine sp_op (Ph.eq (.bool true)) (fun u hu => by
                      refine spArg_eq 0 rfl rfl ?_
                      refine spArg_nil ?_
                      simp only [Act.put, List.setIfInBounds_toArray, List.set_cons_succ, List.set_cons_zero]
                      go_wp2_with (fail)
                      exact ⟨rfl, hu, Ext.refl _, slot_eq rfl⟩) ?_
                    refine sp_op (Ph.eq undef) (fun u hu => by
                      refine spArg_eq 0 rfl rfl ?_
                      refine spArg_nil ?_
                      simp only [Act.put, List.setIfInBounds_toArray, List.set_cons_succ, List.set_cons_zero]
                      go_wp2_with (fail)
                      exact ⟨rfl, hu, Ext.refl _, slot_eq rfl⟩) ?_
                    refine sp_op (Ph.eq undef) (fun u hu => by
                      refine spArg_eq 1 rfl rfl ?_
                      refine spArg_nil ?_
                      simp only [Act.put, List.setIfInBounds_toArray, List.set_cons_succ, List.set_cons_zero]
                      go_wp2_with (fail)
                      exact ⟨rfl, hu, Ext.refl _, slot_eq rfl⟩) ?_
                    refine sp_op (Ph.eq undef) (fun u hu => by
                      refine spArg_eq 1 rfl rfl ?_
                      refine spArg_eq 0 rfl rfl ?_
                      refine spArg_eq 2 rfl rfl ?_
                      refine spArg_nil ?_
                      simp only [Act.put, List.setIfInBounds_toArray, List.set_cons_succ, List.set_cons_zero]
                      go_wp2_with (fail)
                      exact ⟨rfl, hu, Ext.refl _, slot_eq rfl⟩) ?_
                    refine sp_op (Ph.eq undef) (fun u hu => by
                      refine spArg_eq 0 rfl rfl ?_
                      refine spArg_eq 3 rfl rfl ?_
                      refine spArg_nil ?_
                      simp only [Act.put, List.setIfInBounds_toArray, List.set_cons_succ, List.set_cons_zero]
                      go_wp2_with (fail)
                      exact ⟨rfl, hu, Ext.refl _, slot_eq rfl⟩) ?_
                    refine sp_op (Ph.eq undef) (fun u hu => by
                      refine spArg_eq 0 rfl rfl ?_
                      refine spArg_eq 4 rfl rfl ?_
                      refine spArg_nil ?_
                      simp only [Act.put, List.setIfInBounds_toArray, List.set_cons_succ, List.set_cons_zero]
                      go_wp2_with (fail)
                      exact ⟨rfl, hu, Ext.refl _, slot_eq rfl⟩) ?_
                    refine sp_op (Ph.eq undef) (fun u hu => by
                      refine spArg_eq 0 rfl rfl ?_
                      refine spArg_eq 5 rfl rfl ?_
                      refine spArg_nil ?_
                      simp only [Act.put, List.setIfInBounds_toArray, List.set_cons_succ, List.set_cons_zero]
                      go_wp2_with (fail)
                      exact ⟨rfl, hu, Ext.refl _, slot_eq rfl⟩) ?_
                    refine sp_op (Ph.eq undef) (fun u hu => by
                      refine spArg_eq 6 rfl rfl ?_
                      refine spArg_nil ?_
                      simp only [Act.put, List.setIfInBounds_toArray, List.set_cons_succ, List.set_cons_zero]
                      go_wp2_with (fail)
                      exact ⟨rfl, hu, Ext.refl _, slot_eq rfl⟩) ?_
                    refine sp_op (Ph.eq undef) (fun u hu => by
                      refine spArg_eq 0 rfl rfl ?_
                      refine spArg_eq 7 rfl rfl ?_
                      refine spArg_nil ?_
                      simp only [Act.put, List.setIfInBounds_toArray, List.set_cons_succ, List.set_cons_zero]
                      go_wp2_with (fail)
                      exact ⟨rfl, hu, Ext.refl _, slot_eq rfl⟩) ?_
                    refine sp_op (Ph.eq undef) (fun u hu => by
                      refine spArg_eq 0 rfl rfl ?_
                      refine spArg_eq 8 rfl rfl ?_
                      refine spArg_nil ?_
                      simp only [Act.put, List.setIfInBounds_toArray, List.set_cons_succ, List.set_cons_zero]
                      go_wp2_with (fail)
                      exact ⟨rfl, hu, Ext.refl _, slot_eq rfl⟩) ?_
                    refine sp_op (Ph.eq undef) (fun u hu => by
                      refine spArg_eq 0 rfl rfl ?_
                      refine spArg_eq 9 rfl rfl ?_
                      refine spArg_nil ?_
                      simp only [Act.put, List.setIfInBounds_toArray, List.set_cons_succ, List.set_cons_zero]
                      go_wp2_with (fail)
                      exact ⟨rfl, hu, Ext.refl _, slot_eq rfl⟩) ?_
                    refine sp_op (Ph.eq undef) (fun u hu => by
                      refine spArg_eq 4 rfl rfl ?_
                      refine spArg_eq 0 rfl rfl ?_
                      refine spArg_eq 10 rfl rfl ?_
                      refine spArg_nil ?_
                      simp only [Act.put, List.setIfInBounds_toArray, List.set_cons_succ, List.set_cons_zero]
                      go_wp2_with (fail)
                      exact ⟨rfl, hu, Ext.refl _, slot_eq rfl⟩) ?_
                    refine sp_op (Ph.eq undef) (fun u hu => by
                      refine spArg_eq 0 rfl rfl ?_
                      refine spArg_eq 11 rfl rfl ?_
                      refine spArg_nil ?_
                      simp only [Act.put, List.setIfInBounds_toArray, List.set_cons_succ, List.set_cons_zero]
                      go_wp2_with (fail)
                      exact ⟨rfl, hu, Ext.refl _, slot_eq rfl⟩) ?_
                    refine sp_op (Ph.eq undef) (fun u hu => by
                      refine spArg_eq 0 rfl rfl ?_
                      refine spArg_nil ?_
                      simp only [Act.put, List.setIfInBounds_toArray, List.set_cons_succ, List.set_cons_zero]
                      go_wp2_with (fail)
                      exact ⟨rfl, hu, Ext.refl _, slot_eq rfl⟩) ?_
                    refine sp_op (Ph.eq undef) (fun u hu => by
                      refine spArg_eq 1 rfl rfl ?_
                      refine spArg_nil ?_
                      simp only [Act.put, List.setIfInBounds_toArray, List.set_cons_succ, List.set_cons_zero]
                      go_wp2_with (fail)
                      exact ⟨rfl, hu, Ext.refl _, slot_eq rfl⟩) ?_
                    refine sp_op (Ph.eq undef) (fun u hu => by
                      refine spArg_eq 1 rfl rfl ?_
                      refine spArg_eq 0 rfl rfl ?_
                      refine spArg_eq 2 rfl rfl ?_
                      refine spArg_nil ?_
                      simp only [Act.put, List.setIfInBounds_toArray, List.set_cons_succ, List.set_cons_zero]
                      go_wp2_with (fail)
                      exact ⟨rfl, hu, Ext.refl _, slot_eq rfl⟩) ?_
                    refine sp_op (Ph.eq undef) (fun u hu => by
                      refine spArg_eq 0 rfl rfl ?_
                      refine spArg_eq 3 rfl rfl ?_
                      refine spArg_nil ?_
                      simp only [Act.put, List.setIfInBounds_toArray, List.set_cons_succ, List.set_cons_zero]
                      go_wp2_with (fail)
                      exact ⟨rfl, hu, Ext.refl _, slot_eq rfl⟩) ?_
                    refine sp_op (Ph.eq undef) (fun u hu => by
                      refine spArg_eq 0 rfl rfl ?_
                      refine spArg_eq 4 rfl rfl ?_
                      refine spArg_nil ?_
                      simp only [Act.put, List.setIfInBounds_toArray, List.set_cons_succ, List.set_cons_zero]
                      go_wp2_with (fail)
                      exact ⟨rfl, hu, Ext.refl _, slot_eq rfl⟩) ?_
                    refine sp_op (Ph.eq undef) (fun u hu => by
                      refine spArg_eq 5 rfl rfl ?_
                      refine spArg_nil ?_
                      simp only [Act.put, List.setIfInBounds_toArray, List.set_cons_succ, List.set_cons_zero]
                      go_wp2_with (fail)
                      exact ⟨rfl, hu, Ext.refl _, slot_eq rfl⟩) ?_
                    refine sp_op (Ph.eq undef) (fun u hu => by
                      refine spArg_eq 6 rfl rfl ?_
                      refine spArg_nil ?_
                      simp only [Act.put, List.setIfInBounds_toArray, List.set_cons_succ, List.set_cons_zero]
                      go_wp2_with (fail)
                      exact ⟨rfl, hu, Ext.refl _, slot_eq rfl⟩) ?_
                    refine sp_op (Ph.eq undef) (fun u hu => by
                      refine spArg_eq 0 rfl rfl ?_
                      refine spArg_eq 7 rfl rfl ?_
                      refine spArg_nil ?_
                      simp only [Act.put, List.setIfInBounds_toArray, List.set_cons_succ, List.set_cons_zero]
                      go_wp2_with (fail)
                      exact ⟨rfl, hu, Ext.refl _, slot_eq rfl⟩) ?_
                    refine sp_op (Ph.eq undef) (fun u hu => by
                      refine spArg_eq 0 rfl rfl ?_
                      refine spArg_eq 8 rfl rfl ?_
                      refine spArg_nil ?_
                      simp only [Act.put, List.setIfInBounds_toArray, List.set_cons_succ, List.set_cons_zero]
                      go_wp2_with (fail)
                      exact ⟨rfl, hu, Ext.refl _, slot_eq rfl⟩) ?_
                    refine sp_op (Ph.eq undef) (fun u hu => by
                      refine spArg_eq 3 rfl rfl ?_
                      refine spArg_eq 0 rfl rfl ?_
                      refine spArg_eq 9 rfl rfl ?_
                      refine spArg_nil ?_
                      simp only [Act.put, List.setIfInBounds_toArray, List.set_cons_succ, List.set_cons_zero]
                      go_wp2_with (fail)
                      exact ⟨rfl, hu, Ext.refl _, slot_eq rfl⟩) ?_
                    refine sp_op (Ph.eq undef) (fun u hu => by
                      refine spArg_eq 0 rfl rfl ?_
                      refine spArg_eq 10 rfl rfl ?_
                      refine spArg_nil ?_
                      simp only [Act.put, List.setIfInBounds_toArray, List.set_cons_succ, List.set_cons_zero]
                      go_wp2_with (fail)
                      exact ⟨rfl, hu, Ext.refl _, slot_eq rfl⟩) ?_
                    refine sp_op (Ph.eq undef) (fun u hu => by
                      refine spArg_eq 11 rfl rfl ?_
                      refine spArg_nil ?_
                      simp only [Act.put, List.setIfInBounds_toArray, List.set_cons_succ, List.set_cons_zero]
                      go_wp2_with (fail)
                      exact ⟨rfl, hu, Ext.refl _, slot_eq rfl⟩) ?_
                    refine sp_op (Ph.eq undef) (fun u hu => by
                      refine spArg_eq 1 rfl rfl ?_
                      refine spArg_eq 0 rfl rfl ?_
                      refine spArg_eq 12 rfl rfl ?_
                      refine spArg_nil ?_
                      simp only [Act.put, List.setIfInBounds_toArray, List.set_cons_succ, List.set_cons_zero]
                      go_wp2_with (fail)
                      exact ⟨rfl, hu, Ext.refl _, slot_eq rfl⟩) ?_
                    refine sp_op (Ph.eq undef) (fun u hu => by
                      refine spArg_eq 8 rfl rfl ?_
                      refine spArg_eq 0 rfl rfl ?_
                      refine spArg_eq 13 rfl rfl ?_
                      refine spArg_nil ?_
                      simp only [Act.put, List.setIfInBounds_toArray, List.set_cons_succ, List.set_cons_zero]
                      go_wp2_with (fail)
                      exact ⟨rfl, hu, Ext.refl _, slot_eq rfl⟩) ?_
                    refine sp_op (Ph.eq undef) (fun u hu => by
                      refine spArg_eq 14 rfl rfl ?_
                      refine spArg_eq 0 rfl rfl ?_
                      refine spArg_eq 26 rfl rfl ?_
                      refine spArg_nil ?_
                      simp only [Act.put, List.setIfInBounds_toArray, List.set_cons_succ, List.set_cons_zero]
                      go_wp2_with (fail)
                      exact ⟨rfl, hu, Ext.refl _, slot_eq rfl⟩) ?_
                    refine sp_op (Ph.eq (.bool true)) (fun u hu => by
                      refine spArg_eq 27 rfl rfl ?_
                      refine spArg_eq 0 rfl rfl ?_
                      refine spArg_nil ?_
                      simp only [Act.put, List.setIfInBounds_toArray, List.set_cons_succ, List.set_cons_zero]
                      go_wp2_with (fail)
                      exact ⟨rfl, hu, Ext.refl _, slot_eq rfl⟩) ?_
                    refine sp_end ?_
                    intro u hu
                    refine spArg_eq 29 rfl rfl ?_
                    refine spArg_eq 28 rfl rfl ?_
                    refine spArg_eq 27 rfl rfl ?_
                    refine spArg_eq 26 rfl rfl ?_
                    refine spArg_eq 25 rfl rfl ?_
                    refine spArg_eq 24 rfl rfl ?_
                    refine spArg_eq 23 rfl rfl ?_
                    refine spArg_eq 22 rfl rfl ?_
                    refine spArg_eq 21 rfl rfl ?_
                    refine spArg_eq 20 rfl rfl ?_
                    refine spArg_eq 19 rfl rfl ?_
                    refine spArg_eq 18 rfl rfl ?_
                    refine spArg_eq 17 rfl rfl ?_
                    refine spArg_eq 16 rfl rfl ?_
                    refine spArg_eq 15 rfl rfl ?_
                    refine spArg_eq 14 rfl rfl ?_
                    refine spArg_eq 13 rfl rfl ?_
                    refine spArg_eq 12 rfl rfl ?_
                    refine spArg_eq 11 rfl rfl ?_
                    refine spArg_eq 10 rfl rfl ?_
                    refine spArg_eq 9 rfl rfl ?_
                    refine spArg_eq 8 rfl rfl ?_
                    refine spArg_eq 7 rfl rfl ?_
                    refine spArg_eq 6 rfl rfl ?_
                    refine spArg_eq 5 rfl rfl ?_
                    refine spArg_eq 4 rfl rfl ?_
                    refine spArg_eq 3 rfl rfl ?_
                    refine spArg_eq 2 rfl rfl ?_
                    refine spArg_eq 1 rfl rfl ?_
                    refine spArg_eq 0 rfl rfl ?_
                    refine spArg_nil ?_
                    simp only [Act.put, List.setIfInBounds_toArray, List.set_cons_succ, List.set_cons_zero]
                    go_wp2_with fail
                    go_roundw
                    case rel => exact ⟨true, j + 1, rfl, rfl, by omega, fun _ => rfl, Ext.tr HXI.out hu.has⟩
                    case measure => (simp [intOf] <;> omega)
                  | false =>
                    by_cases hbx : e.box = P8
                    · have hbe : (e.box == P8) = true := by rw [hbx]; exact beq_self_eq_true _
                      by_cases hxx : e.x = XX
                      · have hxe : (e.x == XX) = true := by rw [hxx]; exact beq_self_eq_true _
                        clear hbx hxx
                        try change Code.wp _ _ _ (Act.mk _ _) _
                        refine wp_region_runR Ext 30 148 (HoldT (fun u => Ext wr u) _) [[], [(0, 116)], [(1, 117)], [(1, 117)], [(2, 118), (3, 119), (1, 117)], [(4, 120), (1, 117)], [(5, 121), (1, 117)], [(6, 122), (1, 117)], [(1, 117)], [(8, 124), (1, 117)], [(9, 125), (1, 117)], [(10, 126), (1, 117)], [(7, 123), (11, 127), (1, 117)], [(12, 128), (1, 117)], [(13, 129)], [(13, 129)], [(14, 130), (15, 131), (13, 129)], [(16, 132), (13, 129)], [(17, 133), (13, 129)], [(13, 129)], [(13, 129)], [(20, 136), (13, 129)], [(21, 137), (13, 129)], [(19, 135), (22, 138), (13, 129)], [(23, 139), (13, 129)], [(13, 129)], [(24, 140), (25, 141), (13, 129)], [(18, 134), (26, 142), (13, 129)], [(13, 129), (27, 143), (1, 117)], [(1, 117), (28, 144)]] [(0, 116), (1, 117), (2, 118), (3, 119), (4, 120), (5, 121), (6, 122), (7, 123), (8, 124), (9, 125), (10, 126), (11, 127), (12, 128), (13, 129), (14, 130), (15, 131), (16, 132), (17, 133), (18, 134), (19, 135), (20, 136), (21, 137), (22, 138), (23, 139), (24, 140), (25, 141), (26, 142), (27, 143), (28, 144), (29, 145)] (by kernel_rfl) (by kernel_rfl) (by first | rfl | simp) (hk24) ?_
                        simp only [List.take_succ_cons, List.take_zero, List.drop_succ_cons, List.drop_zero]
                        refine sp_op (Ph.eq (.bool false)) (fun u hu => by
                          refine spArg_nil ?_
                          have k1 : u.cell? ⟨bF, oF + j * 2 + 1, none⟩ = some (.slice ae e.box.length ce) := range_below HRG.out hu.has 1 _ rfl
                          have k2 : u.cell? ⟨bF, oF + j * 2, none⟩ = some (.int .u64 e.x) := by have := range_below HRG.out hu.has 0 _ rfl; rwa [Nat.add_zero] at this
                          have k3 := conv_str _ _ _ (HVE.out.below hu.has (by decide))
                          go_wp2_with (fail)
                          exact ⟨rfl, hu, Ext.refl _, slot_eq rfl⟩) ?_
                        refine sp_op (Ph.eq _) (fun u hu => by
                          refine spArg_eq 0 rfl rfl ?_
                          refine spArg_nil ?_
                          simp only [Act.put, List.setIfInBounds_toArray, List.set_cons_succ, List.set_cons_zero]
                          have k1 : u.cell? ⟨bF, oF + j * 2 + 1, none⟩ = some (.slice ae e.box.length ce) := range_below HRG.out hu.has 1 _ rfl
                          have k2 : u.cell? ⟨bF, oF + j * 2, none⟩ = some (.int .u64 e.x) := by have := range_below HRG.out hu.has 0 _ rfl; rwa [Nat.add_zero] at this
                          have k3 := conv_str _ _ _ (HVE.out.below hu.has (by decide))
                          go_wp2_with (fail)
                          exact ⟨rfl, hu, Ext.refl _, slot_eq rfl⟩) ?_
                        refine sp_op (Ph.eq _) (fun u hu => by
                          refine spArg_eq 0 rfl rfl ?_
                          refine spArg_nil ?_
                          simp only [Act.put, List.setIfInBounds_toArray, List.set_cons_succ, List.set_cons_zero]
                          have k1 : u.cell? ⟨bF, oF + j * 2 + 1, none⟩ = some (.slice ae e.box.length ce) := range_below HRG.out hu.has 1 _ rfl
                          have k2 : u.cell? ⟨bF, oF + j * 2, none⟩ = some (.int .u64 e.x) := by have := range_below HRG.out hu.has 0 _ rfl; rwa [Nat.add_zero] at this
                          have k3 := conv_str _ _ _ (HVE.out.below hu.has (by decide))
                          go_wp2_with (fail)
                          exact ⟨rfl, hu, Ext.refl _, slot_eq rfl⟩) ?_
                        refine sp_op (Ph.eq _) (fun u hu => by
                          refine spArg_eq 1 rfl rfl ?_
                          refine spArg_nil ?_
                          simp only [Act.put, List.setIfInBounds_toArray, List.set_cons_succ, List.set_cons_zero]
                          have k1 : u.cell? ⟨bF, oF + j * 2 + 1, none⟩ = some (.slice ae e.box.length ce) := range_below HRG.out hu.has 1 _ rfl
                          have k2 : u.cell? ⟨bF, oF + j * 2, none⟩ = some (.int .u64 e.x) := by have := range_below HRG.out hu.has 0 _ rfl; rwa [Nat.add_zero] at this
                          have k3 := conv_str _ _ _ (HVE.out.below hu.has (by decide))
                          go_wp2_with (fail)
                          exact ⟨rfl, hu, Ext.refl _, slot_eq rfl⟩) ?_
                        refine sp_op (Ph.eq _) (fun u hu => by
                          refine spArg_eq 1 rfl rfl ?_
                          refine spArg_eq 0 rfl rfl ?_
                          refine spArg_eq 2 rfl rfl ?_
                          refine spArg_nil ?_
                          simp only [Act.put, List.setIfInBounds_toArray, List.set_cons_succ, List.set_cons_zero]
                          have k1 : u.cell? ⟨bF, oF + j * 2 + 1, none⟩ = some (.slice ae e.box.length ce) := range_below HRG.out hu.has 1 _ rfl
                          have k2 : u.cell? ⟨bF, oF + j * 2, none⟩ = some (.int .u64 e.x) := by have := range_below HRG.out hu.has 0 _ rfl; rwa [Nat.add_zero] at this
                          have k3 := conv_str _ _ _ (HVE.out.below hu.has (by decide))
                          go_wp2_with (fail)
                          exact ⟨rfl, hu, Ext.refl _, slot_eq rfl⟩) ?_
                        refine sp_op (Ph.eq _) (fun u hu => by
                          refine spArg_eq 0 rfl rfl ?_
                          refine spArg_eq 3 rfl rfl ?_
                          refine spArg_nil ?_
                          simp only [Act.put, List.setIfInBounds_toArray, List.set_cons_succ, List.set_cons_zero]
                          have k1 : u.cell? ⟨bF, oF + j * 2 + 1, none⟩ = some (.slice ae e.box.length ce) := range_below HRG.out hu.has 1 _ rfl
                          have k2 : u.cell? ⟨bF, oF + j * 2, none⟩ = some (.int .u64 e.x) := by have := range_below HRG.out hu.has 0 _ rfl; rwa [Nat.add_zero] at this
                          have k3 := conv_str _ _ _ (HVE.out.below hu.has (by decide))
                          go_wp2_with (fail)
                          exact ⟨rfl, hu, Ext.refl _, slot_eq rfl⟩) ?_
                        refine sp_op (Ph.eq _) (fun u hu => by
                          refine spArg_eq 0 rfl rfl ?_
                          refine spArg_eq 4 rfl rfl ?_
                          refine spArg_nil ?_
                          simp only [Act.put, List.setIfInBounds_toArray, List.set_cons_succ, List.set_cons_zero]
                          have k1 : u.cell? ⟨bF, oF + j * 2 + 1, none⟩ = some (.slice ae e.box.length ce) := range_below HRG.out hu.has 1 _ rfl
                          have k2 : u.cell? ⟨bF, oF + j * 2, none⟩ = some (.int .u64 e.x) := by have := range_below HRG.out hu.has 0 _ rfl; rwa [Nat.add_zero] at this
                          have k3 := conv_str _ _ _ (HVE.out.below hu.has (by decide))
                          go_wp2_with (fail)
                          exact ⟨rfl, hu, Ext.refl _, slot_eq rfl⟩) ?_
                        refine sp_op (Ph.eq _) (fun u hu => by
                          refine spArg_eq 0 rfl rfl ?_
                          refine spArg_eq 5 rfl rfl ?_
                          refine spArg_nil ?_
                          simp only [Act.put, List.setIfInBounds_toArray, List.set_cons_succ, List.set_cons_zero]
                          have k1 : u.cell? ⟨bF, oF + j * 2 + 1, none⟩ = some (.slice ae e.box.length ce) := range_below HRG.out hu.has 1 _ rfl
                          have k2 : u.cell? ⟨bF, oF + j * 2, none⟩ = some (.int .u64 e.x) := by have := range_below HRG.out hu.has 0 _ rfl; rwa [Nat.add_zero] at this
                          have k3 := conv_str _ _ _ (HVE.out.below hu.has (by decide))
                          go_wp2_with (fail)
                          exact ⟨rfl, hu, Ext.refl _, slot_eq rfl⟩) ?_
                        refine sp_op (Ph.eq _) (fun u hu => by
                          refine spArg_eq 6 rfl rfl ?_
                          refine spArg_nil ?_
                          simp only [Act.put, List.setIfInBounds_toArray, List.set_cons_succ, List.set_cons_zero]
                          have k1 : u.cell? ⟨bF, oF + j * 2 + 1, none⟩ = some (.slice ae e.box.length ce) := range_below HRG.out hu.has 1 _ rfl
                          have k2 : u.cell? ⟨bF, oF + j * 2, none⟩ = some (.int .u64 e.x) := by have := range_below HRG.out hu.has 0 _ rfl; rwa [Nat.add_zero] at this
                          have k3 := conv_str _ _ _ (HVE.out.below hu.has (by decide))
                          go_wp2_with (fail)
                          exact ⟨rfl, hu, Ext.refl _, slot_eq rfl⟩) ?_
                        refine sp_op (Ph.eq _) (fun u hu => by
                          refine spArg_eq 0 rfl rfl ?_
                          refine spArg_eq 7 rfl rfl ?_
                          refine spArg_nil ?_
                          simp only [Act.put, List.setIfInBounds_toArray, List.set_cons_succ, List.set_cons_zero]
                          have k1 : u.cell? ⟨bF, oF + j * 2 + 1, none⟩ = some (.slice ae e.box.length ce) := range_below HRG.out hu.has 1 _ rfl
                          have k2 : u.cell? ⟨bF, oF + j * 2, none⟩ = some (.int .u64 e.x) := by have := range_below HRG.out hu.has 0 _ rfl; rwa [Nat.add_zero] at this
                          have k3 := conv_str _ _ _ (HVE.out.below hu.has (by decide))
                          go_wp2_with (fail)
                          exact ⟨rfl, hu, Ext.refl _, slot_eq rfl⟩) ?_
                        refine sp_op (Ph.ownB w.heap.size P8) (fun u hu => by
                          refine spArg_eq 0 rfl rfl ?_
                          refine spArg_eq 8 rfl rfl ?_
                          refine spArg_nil ?_
                          simp only [Act.put, List.setIfInBounds_toArray, List.set_cons_succ, List.set_cons_zero]
                          have k1 : u.cell? ⟨bF, oF + j * 2 + 1, none⟩ = some (.slice ae e.box.length ce) := range_below HRG.out hu.has 1 _ rfl
                          have k2 : u.cell? ⟨bF, oF + j * 2, none⟩ = some (.int .u64 e.x) := by have := range_below HRG.out hu.has 0 _ rfl; rwa [Nat.add_zero] at this
                          have k3 := conv_str _ _ _ (HVE.out.below hu.has (by decide))
                          go_wp2_with ((go_at_call 15; refine (HPU.out _).mono ?_; rintro e_ x_ ⟨v_, rfl, hown_, hb_⟩))
                          exact ⟨rfl, HoldT.step hst hu hb_, hb_, slot_of rfl (owns_mono hown_ hu.up.size)⟩) ?_
                        refine sp_op (Ph.eq (.string ⟨P8.toArray⟩)) (fun u hu => by
                          refine spArg_in (φ := Ph.ownB w.heap.size P8) 0 rfl rfl ?_; intro v10 h10
                          obtain ⟨a10, c10, rfl, -, -⟩ := owns_form h10
                          have k10 := conv_str _ _ _ (sees_of_owns h10)
                          refine spArg_eq 9 rfl rfl ?_
                          refine spArg_nil ?_
                          simp only [Act.put, List.setIfInBounds_toArray, List.set_cons_succ, List.set_cons_zero]
                          have k1 : u.cell? ⟨bF, oF + j * 2 + 1, none⟩ = some (.slice ae e.box.length ce) := range_below HRG.out hu.has 1 _ rfl
                          have k2 : u.cell? ⟨bF, oF + j * 2, none⟩ = some (.int .u64 e.x) := by have := range_below HRG.out hu.has 0 _ rfl; rwa [Nat.add_zero] at this
                          have k3 := conv_str _ _ _ (HVE.out.below hu.has (by decide))
                          go_wp2_with (fail)
                          exact ⟨rfl, hu, Ext.refl _, slot_eq rfl⟩) ?_
                        refine sp_op (Ph.eq _) (fun u hu => by
                          refine spArg_eq 4 rfl rfl ?_
                          refine spArg_eq 0 rfl rfl ?_
                          refine spArg_eq 10 rfl rfl ?_
                          refine spArg_nil ?_
                          simp only [Act.put, List.setIfInBounds_toArray, List.set_cons_succ, List.set_cons_zero]
                          have k1 : u.cell? ⟨bF, oF + j * 2 + 1, none⟩ = some (.slice ae e.box.length ce) := range_below HRG.out hu.has 1 _ rfl
                          have k2 : u.cell? ⟨bF, oF + j * 2, none⟩ = some (.int .u64 e.x) := by have := range_below HRG.out hu.has 0 _ rfl; rwa [Nat.add_zero] at this
                          have k3 := conv_str _ _ _ (HVE.out.below hu.has (by decide))
                          go_wp2_with (fail)
                          exact ⟨rfl, hu, Ext.refl _, slot_eq rfl⟩) ?_
                        refine sp_op (Ph.eq _) (fun u hu => by
                          refine spArg_eq 0 rfl rfl ?_
                          refine spArg_eq 11 rfl rfl ?_
                          refine spArg_nil ?_
                          simp only [Act.put, List.setIfInBounds_toArray, List.set_cons_succ, List.set_cons_zero]
                          have k1 : u.cell? ⟨bF, oF + j * 2 + 1, none⟩ = some (.slice ae e.box.length ce) := range_below HRG.out hu.has 1 _ rfl
                          have k2 : u.cell? ⟨bF, oF + j * 2, none⟩ = some (.int .u64 e.x) := by have := range_below HRG.out hu.has 0 _ rfl; rwa [Nat.add_zero] at this
                          have k3 := conv_str _ _ _ (HVE.out.below hu.has (by decide))
                          go_wp2_with (fail)
                          exact ⟨rfl, hu, Ext.refl _, slot_eq rfl⟩) ?_
                        refine sp_op (Ph.eq _) (fun u hu => by
                          refine spArg_eq 0 rfl rfl ?_
                          refine spArg_nil ?_
                          simp only [Act.put, List.setIfInBounds_toArray, List.set_cons_succ, List.set_cons_zero]
                          have k1 : u.cell? ⟨bF, oF + j * 2 + 1, none⟩ = some (.slice ae e.box.length ce) := range_below HRG.out hu.has 1 _ rfl
                          have k2 : u.cell? ⟨bF, oF + j * 2, none⟩ = some (.int .u64 e.x) := by have := range_below HRG.out hu.has 0 _ rfl; rwa [Nat.add_zero] at this
                          have k3 := conv_str _ _ _ (HVE.out.below hu.has (by decide))
                          go_wp2_with (fail)
                          exact ⟨rfl, hu, Ext.refl _, slot_eq rfl⟩) ?_
                        refine sp_op (Ph.eq _) (fun u hu => by
                          refine spArg_eq 1 rfl rfl ?_
                          refine spArg_nil ?_
                          simp only [Act.put, List.setIfInBounds_toArray, List.set_cons_succ, List.set_cons_zero]
                          have k1 : u.cell? ⟨bF, oF + j * 2 + 1, none⟩ = some (.slice ae e.box.length ce) := range_below HRG.out hu.has 1 _ rfl
                          have k2 : u.cell? ⟨bF, oF + j * 2, none⟩ = some (.int .u64 e.x) := by have := range_below HRG.out hu.has 0 _ rfl; rwa [Nat.add_zero] at this
                          have k3 := conv_str _ _ _ (HVE.out.below hu.has (by decide))
                          go_wp2_with (fail)
                          exact ⟨rfl, hu, Ext.refl _, slot_eq rfl⟩) ?_
                        refine sp_op (Ph.eq _) (fun u hu => by
                          refine spArg_eq 1 rfl rfl ?_
                          refine spArg_eq 0 rfl rfl ?_
                          refine spArg_eq 2 rfl rfl ?_
                          refine spArg_nil ?_
                          simp only [Act.put, List.setIfInBounds_toArray, List.set_cons_succ, List.set_cons_zero]
                          have k1 : u.cell? ⟨bF, oF + j * 2 + 1, none⟩ = some (.slice ae e.box.length ce) := range_below HRG.out hu.has 1 _ rfl
                          have k2 : u.cell? ⟨bF, oF + j * 2, none⟩ = some (.int .u64 e.x) := by have := range_below HRG.out hu.has 0 _ rfl; rwa [Nat.add_zero] at this
                          have k3 := conv_str _ _ _ (HVE.out.below hu.has (by decide))
                          go_wp2_with (fail)
                          exact ⟨rfl, hu, Ext.refl _, slot_eq rfl⟩) ?_
                        refine sp_op (Ph.eq _) (fun u hu => by
                          refine spArg_eq 0 rfl rfl ?_
                          refine spArg_eq 3 rfl rfl ?_
                          refine spArg_nil ?_
                          simp only [Act.put, List.setIfInBounds_toArray, List.set_cons_succ, List.set_cons_zero]
                          have k1 : u.cell? ⟨bF, oF + j * 2 + 1, none⟩ = some (.slice ae e.box.length ce) := range_below HRG.out hu.has 1 _ rfl
                          have k2 : u.cell? ⟨bF, oF + j * 2, none⟩ = some (.int .u64 e.x) := by have := range_below HRG.out hu.has 0 _ rfl; rwa [Nat.add_zero] at this
                          have k3 := conv_str _ _ _ (HVE.out.below hu.has (by decide))
                          go_wp2_with (fail)
                          exact ⟨rfl, hu, Ext.refl _, slot_eq rfl⟩) ?_
                        refine sp_op (Ph.eq _) (fun u hu => by
                          refine spArg_eq 0 rfl rfl ?_
                          refine spArg_eq 4 rfl rfl ?_
                          refine spArg_nil ?_
                          simp only [Act.put, List.setIfInBounds_toArray, List.set_cons_succ, List.set_cons_zero]
                          have k1 : u.cell? ⟨bF, oF + j * 2 + 1, none⟩ = some (.slice ae e.box.length ce) := range_below HRG.out hu.has 1 _ rfl
                          have k2 : u.cell? ⟨bF, oF + j * 2, none⟩ = some (.int .u64 e.x) := by have := range_below HRG.out hu.has 0 _ rfl; rwa [Nat.add_zero] at this
                          have k3 := conv_str _ _ _ (HVE.out.below hu.has (by decide))
                          go_wp2_with (fail)
                          exact ⟨rfl, hu, Ext.refl _, slot_eq rfl⟩) ?_
                        refine sp_op (Ph.eq _) (fun u hu => by
                          refine spArg_eq 5 rfl rfl ?_
                          refine spArg_nil ?_
                          simp only [Act.put, List.setIfInBounds_toArray, List.set_cons_succ, List.set_cons_zero]
                          have k1 : u.cell? ⟨bF, oF + j * 2 + 1, none⟩ = some (.slice ae e.box.length ce) := range_below HRG.out hu.has 1 _ rfl
                          have k2 : u.cell? ⟨bF, oF + j * 2, none⟩ = some (.int .u64 e.x) := by have := range_below HRG.out hu.has 0 _ rfl; rwa [Nat.add_zero] at this
                          have k3 := conv_str _ _ _ (HVE.out.below hu.has (by decide))
                          go_wp2_with (fail)
                          exact ⟨rfl, hu, Ext.refl _, slot_eq rfl⟩) ?_
                        refine sp_op (Ph.eq _) (fun u hu => by
                          refine spArg_eq 6 rfl rfl ?_
                          refine spArg_nil ?_
                          simp only [Act.put, List.setIfInBounds_toArray, List.set_cons_succ, List.set_cons_zero]
                          have k1 : u.cell? ⟨bF, oF + j * 2 + 1, none⟩ = some (.slice ae e.box.length ce) := range_below HRG.out hu.has 1 _ rfl
                          have k2 : u.cell? ⟨bF, oF + j * 2, none⟩ = some (.int .u64 e.x) := by have := range_below HRG.out hu.has 0 _ rfl; rwa [Nat.add_zero] at this
                          have k3 := conv_str _ _ _ (HVE.out.below hu.has (by decide))
                          go_wp2_with (fail)
                          exact ⟨rfl, hu, Ext.refl _, slot_eq rfl⟩) ?_
                        refine sp_op (Ph.eq _) (fun u hu => by
                          refine spArg_eq 0 rfl rfl ?_
                          refine spArg_eq 7 rfl rfl ?_
                          refine spArg_nil ?_
                          simp only [Act.put, List.setIfInBounds_toArray, List.set_cons_succ, List.set_cons_zero]
                          have k1 : u.cell? ⟨bF, oF + j * 2 + 1, none⟩ = some (.slice ae e.box.length ce) := range_below HRG.out hu.has 1 _ rfl
                          have k2 : u.cell? ⟨bF, oF + j * 2, none⟩ = some (.int .u64 e.x) := by have := range_below HRG.out hu.has 0 _ rfl; rwa [Nat.add_zero] at this
                          have k3 := conv_str _ _ _ (HVE.out.below hu.has (by decide))
                          go_wp2_with (fail)
                          exact ⟨rfl, hu, Ext.refl _, slot_eq rfl⟩) ?_
                        refine sp_op (Ph.eq _) (fun u hu => by
                          refine spArg_eq 0 rfl rfl ?_
                          refine spArg_eq 8 rfl rfl ?_
                          refine spArg_nil ?_
                          simp only [Act.put, List.setIfInBounds_toArray, List.set_cons_succ, List.set_cons_zero]
                          have k1 : u.cell? ⟨bF, oF + j * 2 + 1, none⟩ = some (.slice ae e.box.length ce) := range_below HRG.out hu.has 1 _ rfl
                          have k2 : u.cell? ⟨bF, oF + j * 2, none⟩ = some (.int .u64 e.x) := by have := range_below HRG.out hu.has 0 _ rfl; rwa [Nat.add_zero] at this
                          have k3 := conv_str _ _ _ (HVE.out.below hu.has (by decide))
                          go_wp2_with (fail)
                          exact ⟨rfl, hu, Ext.refl _, slot_eq rfl⟩) ?_
                        refine sp_op (Ph.eq _) (fun u hu => by
                          refine spArg_eq 3 rfl rfl ?_
                          refine spArg_eq 0 rfl rfl ?_
                          refine spArg_eq 9 rfl rfl ?_
                          refine spArg_nil ?_
                          simp only [Act.put, List.setIfInBounds_toArray, List.set_cons_succ, List.set_cons_zero]
                          have k1 : u.cell? ⟨bF, oF + j * 2 + 1, none⟩ = some (.slice ae e.box.length ce) := range_below HRG.out hu.has 1 _ rfl
                          have k2 : u.cell? ⟨bF, oF + j * 2, none⟩ = some (.int .u64 e.x) := by have := range_below HRG.out hu.has 0 _ rfl; rwa [Nat.add_zero] at this
                          have k3 := conv_str _ _ _ (HVE.out.below hu.has (by decide))
                          go_wp2_with (fail)
                          exact ⟨rfl, hu, Ext.refl _, slot_eq rfl⟩) ?_
                        refine sp_op (Ph.eq _) (fun u hu => by
                          refine spArg_eq 0 rfl rfl ?_
                          refine spArg_eq 10 rfl rfl ?_
                          refine spArg_nil ?_
                          simp only [Act.put, List.setIfInBounds_toArray, List.set_cons_succ, List.set_cons_zero]
                          have k1 : u.cell? ⟨bF, oF + j * 2 + 1, none⟩ = some (.slice ae e.box.length ce) := range_below HRG.out hu.has 1 _ rfl
                          have k2 : u.cell? ⟨bF, oF + j * 2, none⟩ = some (.int .u64 e.x) := by have := range_below HRG.out hu.has 0 _ rfl; rwa [Nat.add_zero] at this
                          have k3 := conv_str _ _ _ (HVE.out.below hu.has (by decide))
                          go_wp2_with ((go_at_call 17; refine (HBA.out _).mono ?_; rintro e_ x_ ⟨rfl, rfl⟩))
                          exact ⟨rfl, hu, Ext.refl _, slot_eq rfl⟩) ?_
                        refine sp_op (Ph.eq _) (fun u hu => by
                          refine spArg_eq 11 rfl rfl ?_
                          refine spArg_nil ?_
                          simp only [Act.put, List.setIfInBounds_toArray, List.set_cons_succ, List.set_cons_zero]
                          have k1 : u.cell? ⟨bF, oF + j * 2 + 1, none⟩ = some (.slice ae e.box.length ce) := range_below HRG.out hu.has 1 _ rfl
                          have k2 : u.cell? ⟨bF, oF + j * 2, none⟩ = some (.int .u64 e.x) := by have := range_below HRG.out hu.has 0 _ rfl; rwa [Nat.add_zero] at this
                          have k3 := conv_str _ _ _ (HVE.out.below hu.has (by decide))
                          go_wp2_with (fail)
                          exact ⟨rfl, hu, Ext.refl _, slot_eq rfl⟩) ?_
                        refine sp_op (Ph.eq _) (fun u hu => by
                          refine spArg_eq 1 rfl rfl ?_
                          refine spArg_eq 0 rfl rfl ?_
                          refine spArg_eq 12 rfl rfl ?_
                          refine spArg_nil ?_
                          simp only [Act.put, List.setIfInBounds_toArray, List.set_cons_succ, List.set_cons_zero]
                          have k1 : u.cell? ⟨bF, oF + j * 2 + 1, none⟩ = some (.slice ae e.box.length ce) := range_below HRG.out hu.has 1 _ rfl
                          have k2 : u.cell? ⟨bF, oF + j * 2, none⟩ = some (.int .u64 e.x) := by have := range_below HRG.out hu.has 0 _ rfl; rwa [Nat.add_zero] at this
                          have k3 := conv_str _ _ _ (HVE.out.below hu.has (by decide))
                          go_wp2_with ((go_at_call 16; refine (HTI.out _).mono ?_; rintro e_ x_ ⟨rfl, rfl⟩))
                          exact ⟨rfl, hu, Ext.refl _, slot_eq rfl⟩) ?_
                        refine sp_op (Ph.eq _) (fun u hu => by
                          refine spArg_eq 8 rfl rfl ?_
                          refine spArg_eq 0 rfl rfl ?_
                          refine spArg_eq 13 rfl rfl ?_
                          refine spArg_nil ?_
                          simp only [Act.put, List.setIfInBounds_toArray, List.set_cons_succ, List.set_cons_zero]
                          have k1 : u.cell? ⟨bF, oF + j * 2 + 1, none⟩ = some (.slice ae e.box.length ce) := range_below HRG.out hu.has 1 _ rfl
                          have k2 : u.cell? ⟨bF, oF + j * 2, none⟩ = some (.int .u64 e.x) := by have := range_below HRG.out hu.has 0 _ rfl; rwa [Nat.add_zero] at this
                          have k3 := conv_str _ _ _ (HVE.out.below hu.has (by decide))
                          go_wp2_with (fail)
                          exact ⟨rfl, hu, Ext.refl _, slot_eq rfl⟩) ?_
                        refine sp_op (Ph.eq _) (fun u hu => by
                          refine spArg_eq 14 rfl rfl ?_
                          refine spArg_eq 0 rfl rfl ?_
                          refine spArg_eq 26 rfl rfl ?_
                          refine spArg_nil ?_
                          simp only [Act.put, List.setIfInBounds_toArray, List.set_cons_succ, List.set_cons_zero]
                          have k1 : u.cell? ⟨bF, oF + j * 2 + 1, none⟩ = some (.slice ae e.box.length ce) := range_below HRG.out hu.has 1 _ rfl
                          have k2 : u.cell? ⟨bF, oF + j * 2, none⟩ = some (.int .u64 e.x) := by have := range_below HRG.out hu.has 0 _ rfl; rwa [Nat.add_zero] at this
                          have k3 := conv_str _ _ _ (HVE.out.below hu.has (by decide))
                          go_wp2_with (fail)
                          exact ⟨rfl, hu, Ext.refl _, slot_eq rfl⟩) ?_
                        refine sp_op (Ph.eq _) (fun u hu => by
                          refine spArg_eq 27 rfl rfl ?_
                          refine spArg_eq 0 rfl rfl ?_
                          refine spArg_nil ?_
                          simp only [Act.put, List.setIfInBounds_toArray, List.set_cons_succ, List.set_cons_zero]
                          have k1 : u.cell? ⟨bF, oF + j * 2 + 1, none⟩ = some (.slice ae e.box.length ce) := range_below HRG.out hu.has 1 _ rfl
                          have k2 : u.cell? ⟨bF, oF + j * 2, none⟩ = some (.int .u64 e.x) := by have := range_below HRG.out hu.has 0 _ rfl; rwa [Nat.add_zero] at this
                          have k3 := conv_str _ _ _ (HVE.out.below hu.has (by decide))
                          go_wp2_with (fail)
                          exact ⟨rfl, hu, Ext.refl _, slot_eq rfl⟩) ?_
                        refine sp_end ?_
                        intro u hu
                        refine spArg_eq 29 rfl rfl ?_
                        refine spArg_eq 28 rfl rfl ?_
                        refine spArg_eq 27 rfl rfl ?_
                        refine spArg_eq 26 rfl rfl ?_
                        refine spArg_eq 25 rfl rfl ?_
                        refine spArg_eq 24 rfl rfl ?_
                        refine spArg_eq 23 rfl rfl ?_
                        refine spArg_eq 22 rfl rfl ?_
                        refine spArg_eq 21 rfl rfl ?_
                        refine spArg_eq 20 rfl rfl ?_
                        refine spArg_in (φ := Ph.ownB w.heap.size P8) 19 rfl rfl ?_; intro v10 h10
                        obtain ⟨a10, c10, rfl, -, -⟩ := owns_form h10
                        have k10 := conv_str _ _ _ (sees_of_owns h10)
                        refine spArg_eq 18 rfl rfl ?_
                        refine spArg_eq 17 rfl rfl ?_
                        refine spArg_eq 16 rfl rfl ?_
                        refine spArg_eq 15 rfl rfl ?_
                        refine spArg_eq 14 rfl rfl ?_
                        refine spArg_eq 13 rfl rfl ?_
                        refine spArg_eq 12 rfl rfl ?_
                        refine spArg_eq 11 rfl rfl ?_
                        refine spArg_eq 10 rfl rfl ?_
                        refine spArg_eq 9 rfl rfl ?_
                        refine spArg_eq 8 rfl rfl ?_
                        refine spArg_eq 7 rfl rfl ?_
                        refine spArg_eq 6 rfl rfl ?_
                        refine spArg_eq 5 rfl rfl ?_
                        refine spArg_eq 4 rfl rfl ?_
                        refine spArg_eq 3 rfl rfl ?_
                        refine spArg_eq 2 rfl rfl ?_
                        refine spArg_eq 1 rfl rfl ?_
                        refine spArg_eq 0 rfl rfl ?_
                        refine spArg_nil ?_
                        simp only [Act.put, List.setIfInBounds_toArray, List.set_cons_succ, List.set_cons_zero]
                        go_wp2_with fail
                        go_roundw
                        case rel => exact ⟨true, j + 1, rfl, rfl, by omega, fun _ => rfl, Ext.tr HXI.out hu.has⟩
                        case measure => (simp [intOf] <;> omega)
                      · have hxe : (e.x == XX) = false := by rw [beq_eq_false_iff_ne]; exact hxx
                        have hJn : J ≠ j := fun h => hxx (HJJ.out h).2
                        clear hbx hxx
                        try change Code.wp _ _ _ (Act.mk _ _) _
                        refine wp_region_runR Ext 30 148 (HoldT (fun u => Ext wr u) _) [[], [(0, 116)], [(1, 117)], [(1, 117)], [(2, 118), (3, 119), (1, 117)], [(4, 120), (1, 117)], [(5, 121), (1, 117)], [(6, 122), (1, 117)], [(1, 117)], [(8, 124), (1, 117)], [(9, 125), (1, 117)], [(10, 126), (1, 117)], [(7, 123), (11, 127), (1, 117)], [(12, 128), (1, 117)], [(13, 129)], [(13, 129)], [(14, 130), (15, 131), (13, 129)], [(16, 132), (13, 129)], [(17, 133), (13, 129)], [(13, 129)], [(13, 129)], [(20, 136), (13, 129)], [(21, 137), (13, 129)], [(19, 135), (22, 138), (13, 129)], [(23, 139), (13, 129)], [(13, 129)], [(24, 140), (25, 141), (13, 129)], [(18, 134), (26, 142), (13, 129)], [(13, 129), (27, 143), (1, 117)], [(1, 117), (28, 144)]] [(0, 116), (1, 117), (2, 118), (3, 119), (4, 120), (5, 121), (6, 122), (7, 123), (8, 124), (9, 125), (10, 126), (11, 127), (12, 128), (13, 129), (14, 130), (15, 131), (16, 132), (17, 133), (18, 134), (19, 135), (20, 136), (21, 137), (22, 138), (23, 139), (24, 140), (25, 141), (26, 142), (27, 143), (28, 144), (29, 145)] (by kernel_rfl) (by kernel_rfl) (by first | rfl | simp) (hk24) ?_
                        simp only [List.take_succ_cons, List.take_zero, List.drop_succ_cons, List.drop_zero]
                        refine sp_op (Ph.eq (.bool false)) (fun u hu => by
                          refine spArg_nil ?_
                          have k1 : u.cell? ⟨bF, oF + j * 2 + 1, none⟩ = some (.slice ae e.box.length ce) := range_below HRG.out hu.has 1 _ rfl
                          have k2 : u.cell? ⟨bF, oF + j * 2, none⟩ = some (.int .u64 e.x) := by have := range_below HRG.out hu.has 0 _ rfl; rwa [Nat.add_zero] at this
                          have k3 := conv_str _ _ _ (HVE.out.below hu.has (by decide))
                          go_wp2_with (fail)
                          exact ⟨rfl, hu, Ext.refl _, slot_eq rfl⟩) ?_
                        refine sp_op (Ph.eq _) (fun u hu => by
                          refine spArg_eq 0 rfl rfl ?_
                          refine spArg_nil ?_
                          simp only [Act.put, List.setIfInBounds_toArray, List.set_cons_succ, List.set_cons_zero]
                          have k1 : u.cell? ⟨bF, oF + j * 2 + 1, none⟩ = some (.slice ae e.box.length ce) := range_below HRG.out hu.has 1 _ rfl
                          have k2 : u.cell? ⟨bF, oF + j * 2, none⟩ = some (.int .u64 e.x) := by have := range_below HRG.out hu.has 0 _ rfl; rwa [Nat.add_zero] at this
                          have k3 := conv_str _ _ _ (HVE.out.below hu.has (by decide))
                          go_wp2_with (fail)
                          exact ⟨rfl, hu, Ext.refl _, slot_eq rfl⟩) ?_
                        refine sp_op (Ph.eq _) (fun u hu => by
                          refine spArg_eq 0 rfl rfl ?_
                          refine spArg_nil ?_
                          simp only [Act.put, List.setIfInBounds_toArray, List.set_cons_succ, List.set_cons_zero]
                          have k1 : u.cell? ⟨bF, oF + j * 2 + 1, none⟩ = some (.slice ae e.box.length ce) := range_below HRG.out hu.has 1 _ rfl
                          have k2 : u.cell? ⟨bF, oF + j * 2, none⟩ = some (.int .u64 e.x) := by have := range_below HRG.out hu.has 0 _ rfl; rwa [Nat.add_zero] at this
                          have k3 := conv_str _ _ _ (HVE.out.below hu.has (by decide))
                          go_wp2_with (fail)
                          exact ⟨rfl, hu, Ext.refl _, slot_eq rfl⟩) ?_
                        refine sp_op (Ph.eq _) (fun u hu => by
                          refine spArg_eq 1 rfl rfl ?_
                          refine spArg_nil ?_
                          simp only [Act.put, List.setIfInBounds_toArray, List.set_cons_succ, List.set_cons_zero]
                          have k1 : u.cell? ⟨bF, oF + j * 2 + 1, none⟩ = some (.slice ae e.box.length ce) := range_below HRG.out hu.has 1 _ rfl
                          have k2 : u.cell? ⟨bF, oF + j * 2, none⟩ = some (.int .u64 e.x) := by have := range_below HRG.out hu.has 0 _ rfl; rwa [Nat.add_zero] at this
                          have k3 := conv_str _ _ _ (HVE.out.below hu.has (by decide))
                          go_wp2_with (fail)
                          exact ⟨rfl, hu, Ext.refl _, slot_eq rfl⟩) ?_
                        refine sp_op (Ph.eq _) (fun u hu => by
                          refine spArg_eq 1 rfl rfl ?_
                          refine spArg_eq 0 rfl rfl ?_
                          refine spArg_eq 2 rfl rfl ?_
                          refine spArg_nil ?_
                          simp only [Act.put, List.setIfInBounds_toArray, List.set_cons_succ, List.set_cons_zero]
                          have k1 : u.cell? ⟨bF, oF + j * 2 + 1, none⟩ = some (.slice ae e.box.length ce) := range_below HRG.out hu.has 1 _ rfl
                          have k2 : u.cell? ⟨bF, oF + j * 2, none⟩ = some (.int .u64 e.x) := by have := range_below HRG.out hu.has 0 _ rfl; rwa [Nat.add_zero] at this
                          have k3 := conv_str _ _ _ (HVE.out.below hu.has (by decide))
                          go_wp2_with (fail)
                          exact ⟨rfl, hu, Ext.refl _, slot_eq rfl⟩) ?_
                        refine sp_op (Ph.eq _) (fun u hu => by
                          refine spArg_eq 0 rfl rfl ?_
                          refine spArg_eq 3 rfl rfl ?_
                          refine spArg_nil ?_
                          simp only [Act.put, List.setIfInBounds_toArray, List.set_cons_succ, List.set_cons_zero]
                          have k1 : u.cell? ⟨bF, oF + j * 2 + 1, none⟩ = some (.slice ae e.box.length ce) := range_below HRG.out hu.has 1 _ rfl
                          have k2 : u.cell? ⟨bF, oF + j * 2, none⟩ = some (.int .u64 e.x) := by have := range_below HRG.out hu.has 0 _ rfl; rwa [Nat.add_zero] at this
                          have k3 := conv_str _ _ _ (HVE.out.below hu.has (by decide))
                          go_wp2_with (fail)
                          exact ⟨rfl, hu, Ext.refl _, slot_eq rfl⟩) ?_
                        refine sp_op (Ph.eq _) (fun u hu => by
                          refine spArg_eq 0 rfl rfl ?_
                          refine spArg_eq 4 rfl rfl ?_
                          refine spArg_nil ?_
                          simp only [Act.put, List.setIfInBounds_toArray, List.set_cons_succ, List.set_cons_zero]
                          have k1 : u.cell? ⟨bF, oF + j * 2 + 1, none⟩ = some (.slice ae e.box.length ce) := range_below HRG.out hu.has 1 _ rfl
                          have k2 : u.cell? ⟨bF, oF + j * 2, none⟩ = some (.int .u64 e.x) := by have := range_below HRG.out hu.has 0 _ rfl; rwa [Nat.add_zero] at this
                          have k3 := conv_str _ _ _ (HVE.out.below hu.has (by decide))
                          go_wp2_with (fail)
                          exact ⟨rfl, hu, Ext.refl _, slot_eq rfl⟩) ?_
                        refine sp_op (Ph.eq _) (fun u hu => by
                          refine spArg_eq 0 rfl rfl ?_
                          refine spArg_eq 5 rfl rfl ?_
                          refine spArg_nil ?_
                          simp only [Act.put, List.setIfInBounds_toArray, List.set_cons_succ, List.set_cons_zero]
                          have k1 : u.cell? ⟨bF, oF + j * 2 + 1, none⟩ = some (.slice ae e.box.length ce) := range_below HRG.out hu.has 1 _ rfl
                          have k2 : u.cell? ⟨bF, oF + j * 2, none⟩ = some (.int .u64 e.x) := by have := range_below HRG.out hu.has 0 _ rfl; rwa [Nat.add_zero] at this
                          have k3 := conv_str _ _ _ (HVE.out.below hu.has (by decide))
                          go_wp2_with (fail)
                          exact ⟨rfl, hu, Ext.refl _, slot_eq rfl⟩) ?_
                        refine sp_op (Ph.eq _) (fun u hu => by
                          refine spArg_eq 6 rfl rfl ?_
                          refine spArg_nil ?_
                          simp only [Act.put, List.setIfInBounds_toArray, List.set_cons_succ, List.set_cons_zero]
                          have k1 : u.cell? ⟨bF, oF + j * 2 + 1, none⟩ = some (.slice ae e.box.length ce) := range_below HRG.out hu.has 1 _ rfl
                          have k2 : u.cell? ⟨bF, oF + j * 2, none⟩ = some (.int .u64 e.x) := by have := range_below HRG.out hu.has 0 _ rfl; rwa [Nat.add_zero] at this
                          have k3 := conv_str _ _ _ (HVE.out.below hu.has (by decide))
                          go_wp2_with (fail)
                          exact ⟨rfl, hu, Ext.refl _, slot_eq rfl⟩) ?_
                        refine sp_op (Ph.eq _) (fun u hu => by
                          refine spArg_eq 0 rfl rfl ?_
                          refine spArg_eq 7 rfl rfl ?_
                          refine spArg_nil ?_
                          simp only [Act.put, List.setIfInBounds_toArray, List.set_cons_succ, List.set_cons_zero]
                          have k1 : u.cell? ⟨bF, oF + j * 2 + 1, none⟩ = some (.slice ae e.box.length ce) := range_below HRG.out hu.has 1 _ rfl
                          have k2 : u.cell? ⟨bF, oF + j * 2, none⟩ = some (.int .u64 e.x) := by have := range_below HRG.out hu.has 0 _ rfl; rwa [Nat.add_zero] at this
                          have k3 := conv_str _ _ _ (HVE.out.below hu.has (by decide))
                          go_wp2_with (fail)
                          exact ⟨rfl, hu, Ext.refl _, slot_eq rfl⟩) ?_
                        refine sp_op (Ph.ownB w.heap.size P8) (fun u hu => by
                          refine spArg_eq 0 rfl rfl ?_
                          refine spArg_eq 8 rfl rfl ?_
                          refine spArg_nil ?_
                          simp only [Act.put, List.setIfInBounds_toArray, List.set_cons_succ, List.set_cons_zero]
                          have k1 : u.cell? ⟨bF, oF + j * 2 + 1, none⟩ = some (.slice ae e.box.length ce) := range_below HRG.out hu.has 1 _ rfl
                          have k2 : u.cell? ⟨bF, oF + j * 2, none⟩ = some (.int .u64 e.x) := by have := range_below HRG.out hu.has 0 _ rfl; rwa [Nat.add_zero] at this
                          have k3 := conv_str _ _ _ (HVE.out.below hu.has (by decide))
                          go_wp2_with ((go_at_call 15; refine (HPU.out _).mono ?_; rintro e_ x_ ⟨v_, rfl, hown_, hb_⟩))
                          exact ⟨rfl, HoldT.step hst hu hb_, hb_, slot_of rfl (owns_mono hown_ hu.up.size)⟩) ?_
                        refine sp_op (Ph.eq (.string ⟨P8.toArray⟩)) (fun u hu => by
                          refine spArg_in (φ := Ph.ownB w.heap.size P8) 0 rfl rfl ?_; intro v10 h10
                          obtain ⟨a10, c10, rfl, -, -⟩ := owns_form h10
                          have k10 := conv_str _ _ _ (sees_of_owns h10)
                          refine spArg_eq 9 rfl rfl ?_
                          refine spArg_nil ?_
                          simp only [Act.put, List.setIfInBounds_toArray, List.set_cons_succ, List.set_cons_zero]
                          have k1 : u.cell? ⟨bF, oF + j * 2 + 1, none⟩ = some (.slice ae e.box.length ce) := range_below HRG.out hu.has 1 _ rfl
                          have k2 : u.cell? ⟨bF, oF + j * 2, none⟩ = some (.int .u64 e.x) := by have := range_below HRG.out hu.has 0 _ rfl; rwa [Nat.add_zero] at this
                          have k3 := conv_str _ _ _ (HVE.out.below hu.has (by decide))
                          go_wp2_with (fail)
                          exact ⟨rfl, hu, Ext.refl _, slot_eq rfl⟩) ?_
                        refine sp_op (Ph.eq _) (fun u hu => by
                          refine spArg_eq 4 rfl rfl ?_
                          refine spArg_eq 0 rfl rfl ?_
                          refine spArg_eq 10 rfl rfl ?_
                          refine spArg_nil ?_
                          simp only [Act.put, List.setIfInBounds_toArray, List.set_cons_succ, List.set_cons_zero]
                          have k1 : u.cell? ⟨bF, oF + j * 2 + 1, none⟩ = some (.slice ae e.box.length ce) := range_below HRG.out hu.has 1 _ rfl
                          have k2 : u.cell? ⟨bF, oF + j * 2, none⟩ = some (.int .u64 e.x) := by have := range_below HRG.out hu.has 0 _ rfl; rwa [Nat.add_zero] at this
                          have k3 := conv_str _ _ _ (HVE.out.below hu.has (by decide))
                          go_wp2_with (fail)
                          exact ⟨rfl, hu, Ext.refl _, slot_eq rfl⟩) ?_
                        refine sp_op (Ph.eq _) (fun u hu => by
                          refine spArg_eq 0 rfl rfl ?_
                          refine spArg_eq 11 rfl rfl ?_
                          refine spArg_nil ?_
                          simp only [Act.put, List.setIfInBounds_toArray, List.set_cons_succ, List.set_cons_zero]
                          have k1 : u.cell? ⟨bF, oF + j * 2 + 1, none⟩ = some (.slice ae e.box.length ce) := range_below HRG.out hu.has 1 _ rfl
                          have k2 : u.cell? ⟨bF, oF + j * 2, none⟩ = some (.int .u64 e.x) := by have := range_below HRG.out hu.has 0 _ rfl; rwa [Nat.add_zero] at this
                          have k3 := conv_str _ _ _ (HVE.out.below hu.has (by decide))
                          go_wp2_with (fail)
                          exact ⟨rfl, hu, Ext.refl _, slot_eq rfl⟩) ?_
                        refine sp_op (Ph.eq _) (fun u hu => by
                          refine spArg_eq 0 rfl rfl ?_
                          refine spArg_nil ?_
                          simp only [Act.put, List.setIfInBounds_toArray, List.set_cons_succ, List.set_cons_zero]
                          have k1 : u.cell? ⟨bF, oF + j * 2 + 1, none⟩ = some (.slice ae e.box.length ce) := range_below HRG.out hu.has 1 _ rfl
                          have k2 : u.cell? ⟨bF, oF + j * 2, none⟩ = some (.int .u64 e.x) := by have := range_below HRG.out hu.has 0 _ rfl; rwa [Nat.add_zero] at this
                          have k3 := conv_str _ _ _ (HVE.out.below hu.has (by decide))
                          go_wp2_with (fail)
                          exact ⟨rfl, hu, Ext.refl _, slot_eq rfl⟩) ?_
                        refine sp_op (Ph.eq _) (fun u hu => by
                          refine spArg_eq 1 rfl rfl ?_
                          refine spArg_nil ?_
                          simp only [Act.put, List.setIfInBounds_toArray, List.set_cons_succ, List.set_cons_zero]
                          have k1 : u.cell? ⟨bF, oF + j * 2 + 1, none⟩ = some (.slice ae e.box.length ce) := range_below HRG.out hu.has 1 _ rfl
                          have k2 : u.cell? ⟨bF, oF + j * 2, none⟩ = some (.int .u64 e.x) := by have := range_below HRG.out hu.has 0 _ rfl; rwa [Nat.add_zero] at this
                          have k3 := conv_str _ _ _ (HVE.out.below hu.has (by decide))
                          go_wp2_with (fail)
                          exact ⟨rfl, hu, Ext.refl _, slot_eq rfl⟩) ?_
                        refine sp_op (Ph.eq _) (fun u hu => by
                          refine spArg_eq 1 rfl rfl ?_
                          refine spArg_eq 0 rfl rfl ?_
                          refine spArg_eq 2 rfl rfl ?_
                          refine spArg_nil ?_
                          simp only [Act.put, List.setIfInBounds_toArray, List.set_cons_succ, List.set_cons_zero]
                          have k1 : u.cell? ⟨bF, oF + j * 2 + 1, none⟩ = some (.slice ae e.box.length ce) := range_below HRG.out hu.has 1 _ rfl
                          have k2 : u.cell? ⟨bF, oF + j * 2, none⟩ = some (.int .u64 e.x) := by have := range_below HRG.out hu.has 0 _ rfl; rwa [Nat.add_zero] at this
                          have k3 := conv_str _ _ _ (HVE.out.below hu.has (by decide))
                          go_wp2_with (fail)
                          exact ⟨rfl, hu, Ext.refl _, slot_eq rfl⟩) ?_
                        refine sp_op (Ph.eq _) (fun u hu => by
                          refine spArg_eq 0 rfl rfl ?_
                          refine spArg_eq 3 rfl rfl ?_
                          refine spArg_nil ?_
                          simp only [Act.put, List.setIfInBounds_toArray, List.set_cons_succ, List.set_cons_zero]
                          have k1 : u.cell? ⟨bF, oF + j * 2 + 1, none⟩ = some (.slice ae e.box.length ce) := range_below HRG.out hu.has 1 _ rfl
                          have k2 : u.cell? ⟨bF, oF + j * 2, none⟩ = some (.int .u64 e.x) := by have := range_below HRG.out hu.has 0 _ rfl; rwa [Nat.add_zero] at this
                          have k3 := conv_str _ _ _ (HVE.out.below hu.has (by decide))
                          go_wp2_with (fail)
                          exact ⟨rfl, hu, Ext.refl _, slot_eq rfl⟩) ?_
                        refine sp_op (Ph.eq _) (fun u hu => by
                          refine spArg_eq 0 rfl rfl ?_
                          refine spArg_eq 4 rfl rfl ?_
                          refine spArg_nil ?_
                          simp only [Act.put, List.setIfInBounds_toArray, List.set_cons_succ, List.set_cons_zero]
                          have k1 : u.cell? ⟨bF, oF + j * 2 + 1, none⟩ = some (.slice ae e.box.length ce) := range_below HRG.out hu.has 1 _ rfl
                          have k2 : u.cell? ⟨bF, oF + j * 2, none⟩ = some (.int .u64 e.x) := by have := range_below HRG.out hu.has 0 _ rfl; rwa [Nat.add_zero] at this
                          have k3 := conv_str _ _ _ (HVE.out.below hu.has (by decide))
                          go_wp2_with (fail)
                          exact ⟨rfl, hu, Ext.refl _, slot_eq rfl⟩) ?_
                        refine sp_op (Ph.eq _) (fun u hu => by
                          refine spArg_eq 5 rfl rfl ?_
                          refine spArg_nil ?_
                          simp only [Act.put, List.setIfInBounds_toArray, List.set_cons_succ, List.set_cons_zero]
                          have k1 : u.cell? ⟨bF, oF + j * 2 + 1, none⟩ = some (.slice ae e.box.length ce) := range_below HRG.out hu.has 1 _ rfl
                          have k2 : u.cell? ⟨bF, oF + j * 2, none⟩ = some (.int .u64 e.x) := by have := range_below HRG.out hu.has 0 _ rfl; rwa [Nat.add_zero] at this
                          have k3 := conv_str _ _ _ (HVE.out.below hu.has (by decide))
                          go_wp2_with (fail)
                          exact ⟨rfl, hu, Ext.refl _, slot_eq rfl⟩) ?_
                        refine sp_op (Ph.eq _) (fun u hu => by
                          refine spArg_eq 6 rfl rfl ?_
                          refine spArg_nil ?_
                          simp only [Act.put, List.setIfInBounds_toArray, List.set_cons_succ, List.set_cons_zero]
                          have k1 : u.cell? ⟨bF, oF + j * 2 + 1, none⟩ = some (.slice ae e.box.length ce) := range_below HRG.out hu.has 1 _ rfl
                          have k2 : u.cell? ⟨bF, oF + j * 2, none⟩ = some (.int .u64 e.x) := by have := range_below HRG.out hu.has 0 _ rfl; rwa [Nat.add_zero] at this
                          have k3 := conv_str _ _ _ (HVE.out.below hu.has (by decide))
                          go_wp2_with (fail)
                          exact ⟨rfl, hu, Ext.refl _, slot_eq rfl⟩) ?_
                        refine sp_op (Ph.eq _) (fun u hu => by
                          refine spArg_eq 0 rfl rfl ?_
                          refine spArg_eq 7 rfl rfl ?_
                          refine spArg_nil ?_
                          simp only [Act.put, List.setIfInBounds_toArray, List.set_cons_succ, List.set_cons_zero]
                          have k1 : u.cell? ⟨bF, oF + j * 2 + 1, none⟩ = some (.slice ae e.box.length ce) := range_below HRG.out hu.has 1 _ rfl
                          have k2 : u.cell? ⟨bF, oF + j * 2, none⟩ = some (.int .u64 e.x) := by have := range_below HRG.out hu.has 0 _ rfl; rwa [Nat.add_zero] at this
                          have k3 := conv_str _ _ _ (HVE.out.below hu.has (by decide))
                          go_wp2_with (fail)
                          exact ⟨rfl, hu, Ext.refl _, slot_eq rfl⟩) ?_
                        refine sp_op (Ph.eq _) (fun u hu => by
                          refine spArg_eq 0 rfl rfl ?_
                          refine spArg_eq 8 rfl rfl ?_
                          refine spArg_nil ?_
                          simp only [Act.put, List.setIfInBounds_toArray, List.set_cons_succ, List.set_cons_zero]
                          have k1 : u.cell? ⟨bF, oF + j * 2 + 1, none⟩ = some (.slice ae e.box.length ce) := range_below HRG.out hu.has 1 _ rfl
                          have k2 : u.cell? ⟨bF, oF + j * 2, none⟩ = some (.int .u64 e.x) := by have := range_below HRG.out hu.has 0 _ rfl; rwa [Nat.add_zero] at this
                          have k3 := conv_str _ _ _ (HVE.out.below hu.has (by decide))
                          go_wp2_with (fail)
                          exact ⟨rfl, hu, Ext.refl _, slot_eq rfl⟩) ?_
                        refine sp_op (Ph.eq _) (fun u hu => by
                          refine spArg_eq 3 rfl rfl ?_
                          refine spArg_eq 0 rfl rfl ?_
                          refine spArg_eq 9 rfl rfl ?_
                          refine spArg_nil ?_
                          simp only [Act.put, List.setIfInBounds_toArray, List.set_cons_succ, List.set_cons_zero]
                          have k1 : u.cell? ⟨bF, oF + j * 2 + 1, none⟩ = some (.slice ae e.box.length ce) := range_below HRG.out hu.has 1 _ rfl
                          have k2 : u.cell? ⟨bF, oF + j * 2, none⟩ = some (.int .u64 e.x) := by have := range_below HRG.out hu.has 0 _ rfl; rwa [Nat.add_zero] at this
                          have k3 := conv_str _ _ _ (HVE.out.below hu.has (by decide))
                          go_wp2_with (fail)
                          exact ⟨rfl, hu, Ext.refl _, slot_eq rfl⟩) ?_
                        refine sp_op (Ph.eq _) (fun u hu => by
                          refine spArg_eq 0 rfl rfl ?_
                          refine spArg_eq 10 rfl rfl ?_
                          refine spArg_nil ?_
                          simp only [Act.put, List.setIfInBounds_toArray, List.set_cons_succ, List.set_cons_zero]
                          have k1 : u.cell? ⟨bF, oF + j * 2 + 1, none⟩ = some (.slice ae e.box.length ce) := range_below HRG.out hu.has 1 _ rfl
                          have k2 : u.cell? ⟨bF, oF + j * 2, none⟩ = some (.int .u64 e.x) := by have := range_below HRG.out hu.has 0 _ rfl; rwa [Nat.add_zero] at this
                          have k3 := conv_str _ _ _ (HVE.out.below hu.has (by decide))
                          go_wp2_with ((go_at_call 17; refine (HBA.out _).mono ?_; rintro e_ x_ ⟨rfl, rfl⟩))
                          exact ⟨rfl, hu, Ext.refl _, slot_eq rfl⟩) ?_
                        refine sp_op (Ph.eq _) (fun u hu => by
                          refine spArg_eq 11 rfl rfl ?_
                          refine spArg_nil ?_
                          simp only [Act.put, List.setIfInBounds_toArray, List.set_cons_succ, List.set_cons_zero]
                          have k1 : u.cell? ⟨bF, oF + j * 2 + 1, none⟩ = some (.slice ae e.box.length ce) := range_below HRG.out hu.has 1 _ rfl
                          have k2 : u.cell? ⟨bF, oF + j * 2, none⟩ = some (.int .u64 e.x) := by have := range_below HRG.out hu.has 0 _ rfl; rwa [Nat.add_zero] at this
                          have k3 := conv_str _ _ _ (HVE.out.below hu.has (by decide))
                          go_wp2_with (fail)
                          exact ⟨rfl, hu, Ext.refl _, slot_eq rfl⟩) ?_
                        refine sp_op (Ph.eq _) (fun u hu => by
                          refine spArg_eq 1 rfl rfl ?_
                          refine spArg_eq 0 rfl rfl ?_
                          refine spArg_eq 12 rfl rfl ?_
                          refine spArg_nil ?_
                          simp only [Act.put, List.setIfInBounds_toArray, List.set_cons_succ, List.set_cons_zero]
                          have k1 : u.cell? ⟨bF, oF + j * 2 + 1, none⟩ = some (.slice ae e.box.length ce) := range_below HRG.out hu.has 1 _ rfl
                          have k2 : u.cell? ⟨bF, oF + j * 2, none⟩ = some (.int .u64 e.x) := by have := range_below HRG.out hu.has 0 _ rfl; rwa [Nat.add_zero] at this
                          have k3 := conv_str _ _ _ (HVE.out.below hu.has (by decide))
                          go_wp2_with ((go_at_call 16; refine (HTI.out _).mono ?_; rintro e_ x_ ⟨rfl, rfl⟩))
                          exact ⟨rfl, hu, Ext.refl _, slot_eq rfl⟩) ?_
                        refine sp_op (Ph.eq _) (fun u hu => by
                          refine spArg_eq 8 rfl rfl ?_
                          refine spArg_eq 0 rfl rfl ?_
                          refine spArg_eq 13 rfl rfl ?_
                          refine spArg_nil ?_
                          simp only [Act.put, List.setIfInBounds_toArray, List.set_cons_succ, List.set_cons_zero]
                          have k1 : u.cell? ⟨bF, oF + j * 2 + 1, none⟩ = some (.slice ae e.box.length ce) := range_below HRG.out hu.has 1 _ rfl
                          have k2 : u.cell? ⟨bF, oF + j * 2, none⟩ = some (.int .u64 e.x) := by have := range_below HRG.out hu.has 0 _ rfl; rwa [Nat.add_zero] at this
                          have k3 := conv_str _ _ _ (HVE.out.below hu.has (by decide))
                          go_wp2_with (fail)
                          exact ⟨rfl, hu, Ext.refl _, slot_eq rfl⟩) ?_
                        refine sp_op (Ph.eq _) (fun u hu => by
                          refine spArg_eq 14 rfl rfl ?_
                          refine spArg_eq 0 rfl rfl ?_
                          refine spArg_eq 26 rfl rfl ?_
                          refine spArg_nil ?_
                          simp only [Act.put, List.setIfInBounds_toArray, List.set_cons_succ, List.set_cons_zero]
                          have k1 : u.cell? ⟨bF, oF + j * 2 + 1, none⟩ = some (.slice ae e.box.length ce) := range_below HRG.out hu.has 1 _ rfl
                          have k2 : u.cell? ⟨bF, oF + j * 2, none⟩ = some (.int .u64 e.x) := by have := range_below HRG.out hu.has 0 _ rfl; rwa [Nat.add_zero] at this
                          have k3 := conv_str _ _ _ (HVE.out.below hu.has (by decide))
                          go_wp2_with (fail)
                          exact ⟨rfl, hu, Ext.refl _, slot_eq rfl⟩) ?_
                        refine sp_op (Ph.eq _) (fun u hu => by
                          refine spArg_eq 27 rfl rfl ?_
                          refine spArg_eq 0 rfl rfl ?_
                          refine spArg_nil ?_
                          simp only [Act.put, List.setIfInBounds_toArray, List.set_cons_succ, List.set_cons_zero]
                          have k1 : u.cell? ⟨bF, oF + j * 2 + 1, none⟩ = some (.slice ae e.box.length ce) := range_below HRG.out hu.has 1 _ rfl
                          have k2 : u.cell? ⟨bF, oF + j * 2, none⟩ = some (.int .u64 e.x) := by have := range_below HRG.out hu.has 0 _ rfl; rwa [Nat.add_zero] at this
                          have k3 := conv_str _ _ _ (HVE.out.below hu.has (by decide))
                          go_wp2_with (fail)
                          exact ⟨rfl, hu, Ext.refl _, slot_eq rfl⟩) ?_
                        refine sp_end ?_
                        intro u hu
                        refine spArg_eq 29 rfl rfl ?_
                        refine spArg_eq 28 rfl rfl ?_
                        refine spArg_eq 27 rfl rfl ?_
                        refine spArg_eq 26 rfl rfl ?_
                        refine spArg_eq 25 rfl rfl ?_
                        refine spArg_eq 24 rfl rfl ?_
                        refine spArg_eq 23 rfl rfl ?_
                        refine spArg_eq 22 rfl rfl ?_
                        refine spArg_eq 21 rfl rfl ?_
                        refine spArg_eq 20 rfl rfl ?_
                        refine spArg_in (φ := Ph.ownB w.heap.size P8) 19 rfl rfl ?_; intro v10 h10
                        obtain ⟨a10, c10, rfl, -, -⟩ := owns_form h10
                        have k10 := conv_str _ _ _ (sees_of_owns h10)
                        refine spArg_eq 18 rfl rfl ?_
                        refine spArg_eq 17 rfl rfl ?_
                        refine spArg_eq 16 rfl rfl ?_
                        refine spArg_eq 15 rfl rfl ?_
                        refine spArg_eq 14 rfl rfl ?_
                        refine spArg_eq 13 rfl rfl ?_
                        refine spArg_eq 12 rfl rfl ?_
                        refine spArg_eq 11 rfl rfl ?_
                        refine spArg_eq 10 rfl rfl ?_
                        refine spArg_eq 9 rfl rfl ?_
                        refine spArg_eq 8 rfl rfl ?_
                        refine spArg_eq 7 rfl rfl ?_
                        refine spArg_eq 6 rfl rfl ?_
                        refine spArg_eq 5 rfl rfl ?_
                        refine spArg_eq 4 rfl rfl ?_
                        refine spArg_eq 3 rfl rfl ?_
                        refine spArg_eq 2 rfl rfl ?_
                        refine spArg_eq 1 rfl rfl ?_
                        refine spArg_eq 0 rfl rfl ?_
                        refine spArg_nil ?_
                        simp only [Act.put, List.setIfInBounds_toArray, List.set_cons_succ, List.set_cons_zero]
                        go_wp2_with fail
                        go_roundw
                        case rel => exact ⟨false, j + 1, rfl, rfl, by omega, fun h => HBJ.out (by omega), Ext.tr HXI.out hu.has⟩
                        case measure => (simp [intOf] <;> omega)
                    · have hbe : (e.box == P8) = false := by rw [beq_eq_false_iff_ne]; exact hbx
                      have hJn : J ≠ j := fun h => hbx (HJJ.out h).1
                      clear hbx
                      try change Code.wp _ _ _ (Act.mk _ _) _
                      refine wp_region_runR Ext 30 148 (HoldT (fun u => Ext wr u) _) [[], [(0, 116)], [(1, 117)], [(1, 117)], [(2, 118), (3, 119), (1, 117)], [(4, 120), (1, 117)], [(5, 121), (1, 117)], [(6, 122), (1, 117)], [(1, 117)], [(8, 124), (1, 117)], [(9, 125), (1, 117)], [(10, 126), (1, 117)], [(7, 123), (11, 127), (1, 117)], [(12, 128), (1, 117)], [(13, 129)], [(13, 129)], [(14, 130), (15, 131), (13, 129)], [(16, 132), (13, 129)], [(17, 133), (13, 129)], [(13, 129)], [(13, 129)], [(20, 136), (13, 129)], [(21, 137), (13, 129)], [(19, 135), (22, 138), (13, 129)], [(23, 139), (13, 129)], [(13, 129)], [(24, 140), (25, 141), (13, 129)], [(18, 134), (26, 142), (13, 129)], [(13, 129), (27, 143), (1, 117)], [(1, 117), (28, 144)]] [(0, 116), (1, 117), (2, 118), (3, 119), (4, 120), (5, 121), (6, 122), (7, 123), (8, 124), (9, 125), (10, 126), (11, 127), (12, 128), (13, 129), (14, 130), (15, 131), (16, 132), (17, 133), (18, 134), (19, 135), (20, 136), (21, 137), (22, 138), (23, 139), (24, 140), (25, 141), (26, 142), (27, 143), (28, 144), (29, 145)] (by kernel_rfl) (by kernel_rfl) (by first | rfl | simp) (hk24) ?_
                      simp only [List.take_succ_cons, List.take_zero, List.drop_succ_cons, List.drop_zero]
                      refine sp_op (Ph.eq (.bool false)) (fun u hu => by
                        refine spArg_nil ?_
                        have k1 : u.cell? ⟨bF, oF + j * 2 + 1, none⟩ = some (.slice ae e.box.length ce) := range_below HRG.out hu.has 1 _ rfl
                        have k2 : u.cell? ⟨bF, oF + j * 2, none⟩ = some (.int .u64 e.x) := by have := range_below HRG.out hu.has 0 _ rfl; rwa [Nat.add_zero] at this
                        have k3 := conv_str _ _ _ (HVE.out.below hu.has (by decide))
                        go_wp2_with (fail)
                        exact ⟨rfl, hu, Ext.refl _, slot_eq rfl⟩) ?_
                      refine sp_op (Ph.eq _) (fun u hu => by
                        refine spArg_eq 0 rfl rfl ?_
                        refine spArg_nil ?_
                        simp only [Act.put, List.setIfInBounds_toArray, List.set_cons_succ, List.set_cons_zero]
                        have k1 : u.cell? ⟨bF, oF + j * 2 + 1, none⟩ = some (.slice ae e.box.length ce) := range_below HRG.out hu.has 1 _ rfl
                        have k2 : u.cell? ⟨bF, oF + j * 2, none⟩ = some (.int .u64 e.x) := by have := range_below HRG.out hu.has 0 _ rfl; rwa [Nat.add_zero] at this
                        have k3 := conv_str _ _ _ (HVE.out.below hu.has (by decide))
                        go_wp2_with (fail)
                        exact ⟨rfl, hu, Ext.refl _, slot_eq rfl⟩) ?_
                      refine sp_op (Ph.eq _) (fun u hu => by
                        refine spArg_eq 0 rfl rfl ?_
                        refine spArg_nil ?_
                        simp only [Act.put, List.setIfInBounds_toArray, List.set_cons_succ, List.set_cons_zero]
                        have k1 : u.cell? ⟨bF, oF + j * 2 + 1, none⟩ = some (.slice ae e.box.length ce) := range_below HRG.out hu.has 1 _ rfl
                        have k2 : u.cell? ⟨bF, oF + j * 2, none⟩ = some (.int .u64 e.x) := by have := range_below HRG.out hu.has 0 _ rfl; rwa [Nat.add_zero] at this
                        have k3 := conv_str _ _ _ (HVE.out.below hu.has (by decide))
                        go_wp2_with (fail)
                        exact ⟨rfl, hu, Ext.refl _, slot_eq rfl⟩) ?_
                      refine sp_op (Ph.eq _) (fun u hu => by
                        refine spArg_eq 1 rfl rfl ?_
                        refine spArg_nil ?_
                        simp only [Act.put, List.setIfInBounds_toArray, List.set_cons_succ, List.set_cons_zero]
                        have k1 : u.cell? ⟨bF, oF + j * 2 + 1, none⟩ = some (.slice ae e.box.length ce) := range_below HRG.out hu.has 1 _ rfl
                        have k2 : u.cell? ⟨bF, oF + j * 2, none⟩ = some (.int .u64 e.x) := by have := range_below HRG.out hu.has 0 _ rfl; rwa [Nat.add_zero] at this
                        have k3 := conv_str _ _ _ (HVE.out.below hu.has (by decide))
                        go_wp2_with (fail)
                        exact ⟨rfl, hu, Ext.refl _, slot_eq rfl⟩) ?_
                      refine sp_op (Ph.eq _) (fun u hu => by
                        refine spArg_eq 1 rfl rfl ?_
                        refine spArg_eq 0 rfl rfl ?_
                        refine spArg_eq 2 rfl rfl ?_
                        refine spArg_nil ?_
                        simp only [Act.put, List.setIfInBounds_toArray, List.set_cons_succ, List.set_cons_zero]
                        have k1 : u.cell? ⟨bF, oF + j * 2 + 1, none⟩ = some (.slice ae e.box.length ce) := range_below HRG.out hu.has 1 _ rfl
                        have k2 : u.cell? ⟨bF, oF + j * 2, none⟩ = some (.int .u64 e.x) := by have := range_below HRG.out hu.has 0 _ rfl; rwa [Nat.add_zero] at this
                        have k3 := conv_str _ _ _ (HVE.out.below hu.has (by decide))
                        go_wp2_with (fail)
                        exact ⟨rfl, hu, Ext.refl _, slot_eq rfl⟩) ?_
                      refine sp_op (Ph.eq _) (fun u hu => by
                        refine spArg_eq 0 rfl rfl ?_
                        refine spArg_eq 3 rfl rfl ?_
                        refine spArg_nil ?_
                        simp only [Act.put, List.setIfInBounds_toArray, List.set_cons_succ, List.set_cons_zero]
                        have k1 : u.cell? ⟨bF, oF + j * 2 + 1, none⟩ = some (.slice ae e.box.length ce) := range_below HRG.out hu.has 1 _ rfl
                        have k2 : u.cell? ⟨bF, oF + j * 2, none⟩ = some (.int .u64 e.x) := by have := range_below HRG.out hu.has 0 _ rfl; rwa [Nat.add_zero] at this
                        have k3 := conv_str _ _ _ (HVE.out.below hu.has (by decide))
                        go_wp2_with (fail)
                        exact ⟨rfl, hu, Ext.refl _, slot_eq rfl⟩) ?_
                      refine sp_op (Ph.eq _) (fun u hu => by
                        refine spArg_eq 0 rfl rfl ?_
                        refine spArg_eq 4 rfl rfl ?_
                        refine spArg_nil ?_
                        simp only [Act.put, List.setIfInBounds_toArray, List.set_cons_succ, List.set_cons_zero]
                        have k1 : u.cell? ⟨bF, oF + j * 2 + 1, none⟩ = some (.slice ae e.box.length ce) := range_below HRG.out hu.has 1 _ rfl
                        have k2 : u.cell? ⟨bF, oF + j * 2, none⟩ = some (.int .u64 e.x) := by have := range_below HRG.out hu.has 0 _ rfl; rwa [Nat.add_zero] at this
                        have k3 := conv_str _ _ _ (HVE.out.below hu.has (by decide))
                        go_wp2_with (fail)
                        exact ⟨rfl, hu, Ext.refl _, slot_eq rfl⟩) ?_
                      refine sp_op (Ph.eq _) (fun u hu => by
                        refine spArg_eq 0 rfl rfl ?_
                        refine spArg_eq 5 rfl rfl ?_
                        refine spArg_nil ?_
                        simp only [Act.put, List.setIfInBounds_toArray, List.set_cons_succ, List.set_cons_zero]
                        have k1 : u.cell? ⟨bF, oF + j * 2 + 1, none⟩ = some (.slice ae e.box.length ce) := range_below HRG.out hu.has 1 _ rfl
                        have k2 : u.cell? ⟨bF, oF + j * 2, none⟩ = some (.int .u64 e.x) := by have := range_below HRG.out hu.has 0 _ rfl; rwa [Nat.add_zero] at this
                        have k3 := conv_str _ _ _ (HVE.out.below hu.has (by decide))
                        go_wp2_with (fail)
                        exact ⟨rfl, hu, Ext.refl _, slot_eq rfl⟩) ?_
                      refine sp_op (Ph.eq _) (fun u hu => by
                        refine spArg_eq 6 rfl rfl ?_
                        refine spArg_nil ?_
                        simp only [Act.put, List.setIfInBounds_toArray, List.set_cons_succ, List.set_cons_zero]
                        have k1 : u.cell? ⟨bF, oF + j * 2 + 1, none⟩ = some (.slice ae e.box.length ce) := range_below HRG.out hu.has 1 _ rfl
                        have k2 : u.cell? ⟨bF, oF + j * 2, none⟩ = some (.int .u64 e.x) := by have := range_below HRG.out hu.has 0 _ rfl; rwa [Nat.add_zero] at this
                        have k3 := conv_str _ _ _ (HVE.out.below hu.has (by decide))
                        go_wp2_with (fail)
                        exact ⟨rfl, hu, Ext.refl _, slot_eq rfl⟩) ?_
                      refine sp_op (Ph.eq _) (fun u hu => by
                        refine spArg_eq 0 rfl rfl ?_
                        refine spArg_eq 7 rfl rfl ?_
                        refine spArg_nil ?_
                        simp only [Act.put, List.setIfInBounds_toArray, List.set_cons_succ, List.set_cons_zero]
                        have k1 : u.cell? ⟨bF, oF + j * 2 + 1, none⟩ = some (.slice ae e.box.length ce) := range_below HRG.out hu.has 1 _ rfl
                        have k2 : u.cell? ⟨bF, oF + j * 2, none⟩ = some (.int .u64 e.x) := by have := range_below HRG.out hu.has 0 _ rfl; rwa [Nat.add_zero] at this
                        have k3 := conv_str _ _ _ (HVE.out.below hu.has (by decide))
                        go_wp2_with (fail)
                        exact ⟨rfl, hu, Ext.refl _, slot_eq rfl⟩) ?_
                      refine sp_op (Ph.ownB w.heap.size P8) (fun u hu => by
                        refine spArg_eq 0 rfl rfl ?_
                        refine spArg_eq 8 rfl rfl ?_
                        refine spArg_nil ?_
                        simp only [Act.put, List.setIfInBounds_toArray, List.set_cons_succ, List.set_cons_zero]
                        have k1 : u.cell? ⟨bF, oF + j * 2 + 1, none⟩ = some (.slice ae e.box.length ce) := range_below HRG.out hu.has 1 _ rfl
                        have k2 : u.cell? ⟨bF, oF + j * 2, none⟩ = some (.int .u64 e.x) := by have := range_below HRG.out hu.has 0 _ rfl; rwa [Nat.add_zero] at this
                        have k3 := conv_str _ _ _ (HVE.out.below hu.has (by decide))
                        go_wp2_with ((go_at_call 15; refine (HPU.out _).mono ?_; rintro e_ x_ ⟨v_, rfl, hown_, hb_⟩))
                        exact ⟨rfl, HoldT.step hst hu hb_, hb_, slot_of rfl (owns_mono hown_ hu.up.size)⟩) ?_
                      refine sp_op (Ph.eq (.string ⟨P8.toArray⟩)) (fun u hu => by
                        refine spArg_in (φ := Ph.ownB w.heap.size P8) 0 rfl rfl ?_; intro v10 h10
                        obtain ⟨a10, c10, rfl, -, -⟩ := owns_form h10
                        have k10 := conv_str _ _ _ (sees_of_owns h10)
                        refine spArg_eq 9 rfl rfl ?_
                        refine spArg_nil ?_
                        simp only [Act.put, List.setIfInBounds_toArray, List.set_cons_succ, List.set_cons_zero]
                        have k1 : u.cell? ⟨bF, oF + j * 2 + 1, none⟩ = some (.slice ae e.box.length ce) := range_below HRG.out hu.has 1 _ rfl
                        have k2 : u.cell? ⟨bF, oF + j * 2, none⟩ = some (.int .u64 e.x) := by have := range_below HRG.out hu.has 0 _ rfl; rwa [Nat.add_zero] at this
                        have k3 := conv_str _ _ _ (HVE.out.below hu.has (by decide))
                        go_wp2_with (fail)
                        exact ⟨rfl, hu, Ext.refl _, slot_eq rfl⟩) ?_
                      refine sp_op (Ph.eq _) (fun u hu => by
                        refine spArg_eq 4 rfl rfl ?_
                        refine spArg_eq 0 rfl rfl ?_
                        refine spArg_eq 10 rfl rfl ?_
                        refine spArg_nil ?_
                        simp only [Act.put, List.setIfInBounds_toArray, List.set_cons_succ, List.set_cons_zero]
                        have k1 : u.cell? ⟨bF, oF + j * 2 + 1, none⟩ = some (.slice ae e.box.length ce) := range_below HRG.out hu.has 1 _ rfl
                        have k2 : u.cell? ⟨bF, oF + j * 2, none⟩ = some (.int .u64 e.x) := by have := range_below HRG.out hu.has 0 _ rfl; rwa [Nat.add_zero] at this
                        have k3 := conv_str _ _ _ (HVE.out.below hu.has (by decide))
                        go_wp2_with (fail)
                        exact ⟨rfl, hu, Ext.refl _, slot_eq rfl⟩) ?_
                      refine sp_op (Ph.eq _) (fun u hu => by
                        refine spArg_eq 0 rfl rfl ?_
                        refine spArg_eq 11 rfl rfl ?_
                        refine spArg_nil ?_
                        simp only [Act.put, List.setIfInBounds_toArray, List.set_cons_succ, List.set_cons_zero]
                        have k1 : u.cell? ⟨bF, oF + j * 2 + 1, none⟩ = some (.slice ae e.box.length ce) := range_below HRG.out hu.has 1 _ rfl
                        have k2 : u.cell? ⟨bF, oF + j * 2, none⟩ = some (.int .u64 e.x) := by have := range_below HRG.out hu.has 0 _ rfl; rwa [Nat.add_zero] at this
                        have k3 := conv_str _ _ _ (HVE.out.below hu.has (by decide))
                        go_wp2_with (fail)
                        exact ⟨rfl, hu, Ext.refl _, slot_eq rfl⟩) ?_
                      refine sp_op (Ph.eq _) (fun u hu => by
                        refine spArg_eq 0 rfl rfl ?_
                        refine spArg_nil ?_
                        simp only [Act.put, List.setIfInBounds_toArray, List.set_cons_succ, List.set_cons_zero]
                        have k1 : u.cell? ⟨bF, oF + j * 2 + 1, none⟩ = some (.slice ae e.box.length ce) := range_below HRG.out hu.has 1 _ rfl
                        have k2 : u.cell? ⟨bF, oF + j * 2, none⟩ = some (.int .u64 e.x) := by have := range_below HRG.out hu.has 0 _ rfl; rwa [Nat.add_zero] at this
                        have k3 := conv_str _ _ _ (HVE.out.below hu.has (by decide))
                        go_wp2_with (fail)
                        exact ⟨rfl, hu, Ext.refl _, slot_eq rfl⟩) ?_
                      refine sp_op (Ph.eq _) (fun u hu => by
                        refine spArg_eq 1 rfl rfl ?_
                        refine spArg_nil ?_
                        simp only [Act.put, List.setIfInBounds_toArray, List.set_cons_succ, List.set_cons_zero]
                        have k1 : u.cell? ⟨bF, oF + j * 2 + 1, none⟩ = some (.slice ae e.box.length ce) := range_below HRG.out hu.has 1 _ rfl
                        have k2 : u.cell? ⟨bF, oF + j * 2, none⟩ = some (.int .u64 e.x) := by have := range_below HRG.out hu.has 0 _ rfl; rwa [Nat.add_zero] at this
                        have k3 := conv_str _ _ _ (HVE.out.below hu.has (by decide))
                        go_wp2_with (fail)
                        exact ⟨rfl, hu, Ext.refl _, slot_eq rfl⟩) ?_
                      refine sp_op (Ph.eq _) (fun u hu => by
                        refine spArg_eq 1 rfl rfl ?_
                        refine spArg_eq 0 rfl rfl ?_
                        refine spArg_eq 2 rfl rfl ?_
                        refine spArg_nil ?_
                        simp only [Act.put, List.setIfInBounds_toArray, List.set_cons_succ, List.set_cons_zero]
                        have k1 : u.cell? ⟨bF, oF + j * 2 + 1, none⟩ = some (.slice ae e.box.length ce) := range_below HRG.out hu.has 1 _ rfl
                        have k2 : u.cell? ⟨bF, oF + j * 2, none⟩ = some (.int .u64 e.x) := by have := range_below HRG.out hu.has 0 _ rfl; rwa [Nat.add_zero] at this
                        have k3 := conv_str _ _ _ (HVE.out.below hu.has (by decide))
                        go_wp2_with (fail)
                        exact ⟨rfl, hu, Ext.refl _, slot_eq rfl⟩) ?_
                      refine sp_op (Ph.eq _) (fun u hu => by
                        refine spArg_eq 0 rfl rfl ?_
                        refine spArg_eq 3 rfl rfl ?_
                        refine spArg_nil ?_
                        simp only [Act.put, List.setIfInBounds_toArray, List.set_cons_succ, List.set_cons_zero]
                        have k1 : u.cell? ⟨bF, oF + j * 2 + 1, none⟩ = some (.slice ae e.box.length ce) := range_below HRG.out hu.has 1 _ rfl
                        have k2 : u.cell? ⟨bF, oF + j * 2, none⟩ = some (.int .u64 e.x) := by have := range_below HRG.out hu.has 0 _ rfl; rwa [Nat.add_zero] at this
                        have k3 := conv_str _ _ _ (HVE.out.below hu.has (by decide))
                        go_wp2_with (fail)
                        exact ⟨rfl, hu, Ext.refl _, slot_eq rfl⟩) ?_
                      refine sp_op (Ph.eq _) (fun u hu => by
                        refine spArg_eq 0 rfl rfl ?_
                        refine spArg_eq 4 rfl rfl ?_
                        refine spArg_nil ?_
                        simp only [Act.put, List.setIfInBounds_toArray, List.set_cons_succ, List.set_cons_zero]
                        have k1 : u.cell? ⟨bF, oF + j * 2 + 1, none⟩ = some (.slice ae e.box.length ce) := range_below HRG.out hu.has 1 _ rfl
                        have k2 : u.cell? ⟨bF, oF + j * 2, none⟩ = some (.int .u64 e.x) := by have := range_below HRG.out hu.has 0 _ rfl; rwa [Nat.add_zero] at this
                        have k3 := conv_str _ _ _ (HVE.out.below hu.has (by decide))
                        go_wp2_with (fail)
                        exact ⟨rfl, hu, Ext.refl _, slot_eq rfl⟩) ?_
                      refine sp_op (Ph.eq _) (fun u hu => by
                        refine spArg_eq 5 rfl rfl ?_
                        refine spArg_nil ?_
                        simp only [Act.put, List.setIfInBounds_toArray, List.set_cons_succ, List.set_cons_zero]
                        have k1 : u.cell? ⟨bF, oF + j * 2 + 1, none⟩ = some (.slice ae e.box.length ce) := range_below HRG.out hu.has 1 _ rfl
                        have k2 : u.cell? ⟨bF, oF + j * 2, none⟩ = some (.int .u64 e.x) := by have := range_below HRG.out hu.has 0 _ rfl; rwa [Nat.add_zero] at this
                        have k3 := conv_str _ _ _ (HVE.out.below hu.has (by decide))
                        go_wp2_with (fail)
                        exact ⟨rfl, hu, Ext.refl _, slot_eq rfl⟩) ?_
                      refine sp_op (Ph.eq _) (fun u hu => by
                        refine spArg_eq 6 rfl rfl ?_
                        refine spArg_nil ?_
                        simp only [Act.put, List.setIfInBounds_toArray, List.set_cons_succ, List.set_cons_zero]
                        have k1 : u.cell? ⟨bF, oF + j * 2 + 1, none⟩ = some (.slice ae e.box.length ce) := range_below HRG.out hu.has 1 _ rfl
                        have k2 : u.cell? ⟨bF, oF + j * 2, none⟩ = some (.int .u64 e.x) := by have := range_below HRG.out hu.has 0 _ rfl; rwa [Nat.add_zero] at this
                        have k3 := conv_str _ _ _ (HVE.out.below hu.has (by decide))
                        go_wp2_with (fail)
                        exact ⟨rfl, hu, Ext.refl _, slot_eq rfl⟩) ?_
                      refine sp_op (Ph.eq _) (fun u hu => by
                        refine spArg_eq 0 rfl rfl ?_
                        refine spArg_eq 7 rfl rfl ?_
                        refine spArg_nil ?_
                        simp only [Act.put, List.setIfInBounds_toArray, List.set_cons_succ, List.set_cons_zero]
                        have k1 : u.cell? ⟨bF, oF + j * 2 + 1, none⟩ = some (.slice ae e.box.length ce) := range_below HRG.out hu.has 1 _ rfl
                        have k2 : u.cell? ⟨bF, oF + j * 2, none⟩ = some (.int .u64 e.x) := by have := range_below HRG.out hu.has 0 _ rfl; rwa [Nat.add_zero] at this
                        have k3 := conv_str _ _ _ (HVE.out.below hu.has (by decide))
                        go_wp2_with (fail)
                        exact ⟨rfl, hu, Ext.refl _, slot_eq rfl⟩) ?_
                      refine sp_op (Ph.eq _) (fun u hu => by
                        refine spArg_eq 0 rfl rfl ?_
                        refine spArg_eq 8 rfl rfl ?_
                        refine spArg_nil ?_
                        simp only [Act.put, List.setIfInBounds_toArray, List.set_cons_succ, List.set_cons_zero]
                        have k1 : u.cell? ⟨bF, oF + j * 2 + 1, none⟩ = some (.slice ae e.box.length ce) := range_below HRG.out hu.has 1 _ rfl
                        have k2 : u.cell? ⟨bF, oF + j * 2, none⟩ = some (.int .u64 e.x) := by have := range_below HRG.out hu.has 0 _ rfl; rwa [Nat.add_zero] at this
                        have k3 := conv_str _ _ _ (HVE.out.below hu.has (by decide))
                        go_wp2_with (fail)
                        exact ⟨rfl, hu, Ext.refl _, slot_eq rfl⟩) ?_
                      refine sp_op (Ph.eq _) (fun u hu => by
                        refine spArg_eq 3 rfl rfl ?_
                        refine spArg_eq 0 rfl rfl ?_
                        refine spArg_eq 9 rfl rfl ?_
                        refine spArg_nil ?_
                        simp only [Act.put, List.setIfInBounds_toArray, List.set_cons_succ, List.set_cons_zero]
                        have k1 : u.cell? ⟨bF, oF + j * 2 + 1, none⟩ = some (.slice ae e.box.length ce) := range_below HRG.out hu.has 1 _ rfl
                        have k2 : u.cell? ⟨bF, oF + j * 2, none⟩ = some (.int .u64 e.x) := by have := range_below HRG.out hu.has 0 _ rfl; rwa [Nat.add_zero] at this
                        have k3 := conv_str _ _ _ (HVE.out.below hu.has (by decide))
                        go_wp2_with (fail)
                        exact ⟨rfl, hu, Ext.refl _, slot_eq rfl⟩) ?_
                      refine sp_op (Ph.eq _) (fun u hu => by
                        refine spArg_eq 0 rfl rfl ?_
                        refine spArg_eq 10 rfl rfl ?_
                        refine spArg_nil ?_
                        simp only [Act.put, List.setIfInBounds_toArray, List.set_cons_succ, List.set_cons_zero]
                        have k1 : u.cell? ⟨bF, oF + j * 2 + 1, none⟩ = some (.slice ae e.box.length ce) := range_below HRG.out hu.has 1 _ rfl
                        have k2 : u.cell? ⟨bF, oF + j * 2, none⟩ = some (.int .u64 e.x) := by have := range_below HRG.out hu.has 0 _ rfl; rwa [Nat.add_zero] at this
                        have k3 := conv_str _ _ _ (HVE.out.below hu.has (by decide))
                        go_wp2_with ((go_at_call 17; refine (HBA.out _).mono ?_; rintro e_ x_ ⟨rfl, rfl⟩))
                        exact ⟨rfl, hu, Ext.refl _, slot_eq rfl⟩) ?_
                      refine sp_op (Ph.eq _) (fun u hu => by
                        refine spArg_eq 11 rfl rfl ?_
                        refine spArg_nil ?_
                        simp only [Act.put, List.setIfInBounds_toArray, List.set_cons_succ, List.set_cons_zero]
                        have k1 : u.cell? ⟨bF, oF + j * 2 + 1, none⟩ = some (.slice ae e.box.length ce) := range_below HRG.out hu.has 1 _ rfl
                        have k2 : u.cell? ⟨bF, oF + j * 2, none⟩ = some (.int .u64 e.x) := by have := range_below HRG.out hu.has 0 _ rfl; rwa [Nat.add_zero] at this
                        have k3 := conv_str _ _ _ (HVE.out.below hu.has (by decide))
                        go_wp2_with (fail)
                        exact ⟨rfl, hu, Ext.refl _, slot_eq rfl⟩) ?_
                      refine sp_op (Ph.eq _) (fun u hu => by
                        refine spArg_eq 1 rfl rfl ?_
                        refine spArg_eq 0 rfl rfl ?_
                        refine spArg_eq 12 rfl rfl ?_
                        refine spArg_nil ?_
                        simp only [Act.put, List.setIfInBounds_toArray, List.set_cons_succ, List.set_cons_zero]
                        have k1 : u.cell? ⟨bF, oF + j * 2 + 1, none⟩ = some (.slice ae e.box.length ce) := range_below HRG.out hu.has 1 _ rfl
                        have k2 : u.cell? ⟨bF, oF + j * 2, none⟩ = some (.int .u64 e.x) := by have := range_below HRG.out hu.has 0 _ rfl; rwa [Nat.add_zero] at this
                        have k3 := conv_str _ _ _ (HVE.out.below hu.has (by decide))
                        go_wp2_with ((go_at_call 16; refine (HTI.out _).mono ?_; rintro e_ x_ ⟨rfl, rfl⟩))
                        exact ⟨rfl, hu, Ext.refl _, slot_eq rfl⟩) ?_
                      refine sp_op (Ph.eq _) (fun u hu => by
                        refine spArg_eq 8 rfl rfl ?_
                        refine spArg_eq 0 rfl rfl ?_
                        refine spArg_eq 13 rfl rfl ?_
                        refine spArg_nil ?_
                        simp only [Act.put, List.setIfInBounds_toArray, List.set_cons_succ, List.set_cons_zero]
                        have k1 : u.cell? ⟨bF, oF + j * 2 + 1, none⟩ = some (.slice ae e.box.length ce) := range_below HRG.out hu.has 1 _ rfl
                        have k2 : u.cell? ⟨bF, oF + j * 2, none⟩ = some (.int .u64 e.x) := by have := range_below HRG.out hu.has 0 _ rfl; rwa [Nat.add_zero] at this
                        have k3 := conv_str _ _ _ (HVE.out.below hu.has (by decide))
                        go_wp2_with (fail)
                        exact ⟨rfl, hu, Ext.refl _, slot_eq rfl⟩) ?_
                      refine sp_op (Ph.eq _) (fun u hu => by
                        refine spArg_eq 14 rfl rfl ?_
                        refine spArg_eq 0 rfl rfl ?_
                        refine spArg_eq 26 rfl rfl ?_
                        refine spArg_nil ?_
                        simp only [Act.put, List.setIfInBounds_toArray, List.set_cons_succ, List.set_cons_zero]
                        have k1 : u.cell? ⟨bF, oF + j * 2 + 1, none⟩ = some (.slice ae e.box.length ce) := range_below HRG.out hu.has 1 _ rfl
                        have k2 : u.cell? ⟨bF, oF + j * 2, none⟩ = some (.int .u64 e.x) := by have := range_below HRG.out hu.has 0 _ rfl; rwa [Nat.add_zero] at this
                        have k3 := conv_str _ _ _ (HVE.out.below hu.has (by decide))
                        go_wp2_with (fail)
                        exact ⟨rfl, hu, Ext.refl _, slot_eq rfl⟩) ?_
                      refine sp_op (Ph.eq _) (fun u hu => by
                        refine spArg_eq 27 rfl rfl ?_
                        refine spArg_eq 0 rfl rfl ?_
                        refine spArg_nil ?_
                        simp only [Act.put, List.setIfInBounds_toArray, List.set_cons_succ, List.set_cons_zero]
                        have k1 : u.cell? ⟨bF, oF + j * 2 + 1, none⟩ = some (.slice ae e.box.length ce) := range_below HRG.out hu.has 1 _ rfl
                        have k2 : u.cell? ⟨bF, oF + j * 2, none⟩ = some (.int .u64 e.x) := by have := range_below HRG.out hu.has 0 _ rfl; rwa [Nat.add_zero] at this
                        have k3 := conv_str _ _ _ (HVE.out.below hu.has (by decide))
                        go_wp2_with (fail)
                        exact ⟨rfl, hu, Ext.refl _, slot_eq rfl⟩) ?_
                      refine sp_end ?_
                      intro u hu
                      refine spArg_eq 29 rfl rfl ?_
                      refine spArg_eq 28 rfl rfl ?_
                      refine spArg_eq 27 rfl rfl ?_
                      refine spArg_eq 26 rfl rfl ?_
                      refine spArg_eq 25 rfl rfl ?_
                      refine spArg_eq 24 rfl rfl ?_
                      refine spArg_eq 23 rfl rfl ?_
                      refine spArg_eq 22 rfl rfl ?_
                      refine spArg_eq 21 rfl rfl ?_
                      refine spArg_eq 20 rfl rfl ?_
                      refine spArg_in (φ := Ph.ownB w.heap.size P8) 19 rfl rfl ?_; intro v10 h10
                      obtain ⟨a10, c10, rfl, -, -⟩ := owns_form h10
                      have k10 := conv_str _ _ _ (sees_of_owns h10)
                      refine spArg_eq 18 rfl rfl ?_
                      refine spArg_eq 17 rfl rfl ?_
                      refine spArg_eq 16 rfl rfl ?_
                      refine spArg_eq 15 rfl rfl ?_
                      refine spArg_eq 14 rfl rfl ?_
                      refine spArg_eq 13 rfl rfl ?_
                      refine spArg_eq 12 rfl rfl ?_
                      refine spArg_eq 11 rfl rfl ?_
                      refine spArg_eq 10 rfl rfl ?_
                      refine spArg_eq 9 rfl rfl ?_
                      refine spArg_eq 8 rfl rfl ?_
                      refine spArg_eq 7 rfl rfl ?_
                      refine spArg_eq 6 rfl rfl ?_
                      refine spArg_eq 5 rfl rfl ?_
                      refine spArg_eq 4 rfl rfl ?_
                      refine spArg_eq 3 rfl rfl ?_
                      refine spArg_eq 2 rfl rfl ?_
                      refine spArg_eq 1 rfl rfl ?_
                      refine spArg_eq 0 rfl rfl ?_
                      refine spArg_nil ?_
                      simp only [Act.put, List.setIfInBounds_toArray, List.set_cons_succ, List.set_cons_zero]
                      go_wp2_with fail
                      go_roundw
                      case rel => exact ⟨false, j + 1, rfl, rfl, by omega, fun h => HBJ.out (by omega), Ext.tr HXI.out hu.has⟩
                      case measure => (simp [intOf] <;> omega)
                · obtain rfl : N = j := by omega
                  have hbt := HBJ.out hJ
                  subst hbt
                  go_wp2_with fail
                  go_roundw
                  case rel => exact ⟨i + 1, rfl, by omega, HXI.out⟩
                  case measure => (simp [intOf] <;> omega)
            · obtain rfl : N = i := by omega
              go_wp2_with fail
              go_ret
              exact ⟨rfl, Ext.tr HX2.out (Ext.tr HX.out HXO.out)⟩
    · have HG := Lib.hid hg; clear hg
      have HRR := Lib.hid hRR; clear hRR
      go_enter Tryz.func4, Tryz.ntmps4
      go_wp2_with (first
        | (go_at_call 6; refine (alive19_any _).mono ?_; rintro e w1 ⟨rfl, hb1⟩; have hkey1 := hk0.out.below hb1; have e1 : Ext w w1 := Ext.tr hb0.out hb1)
        | (refine wpList_load_row rfl 23 _ rfl w.heap.size rfl _ (keyA seed) (0, 0) _ hkey1 under_key rfl (by rw [keyA_size, HK.out]; exact info_key) ?_)
        | (go_at_call 7; refine (HRR.out _).mono ?_; rintro e w2 ⟨v2, u2, rfl, hok2, hb2⟩; rw [HD.out]; have hbel2 : Ext w w2 := Ext.tr e1 hb2))
      all_goals (first | (exfalso; have := HG.out; omega) | (go_ret; exact ⟨rfl, hbel2⟩))
  · have HD := Lib.hid (decide_eq_false hr)
    have HRR := Lib.hid hRR; clear hRR
    go_enter Tryz.func4, Tryz.ntmps4
    go_wp2_with (first
      | (go_at_call 6; refine (alive19_any _).mono ?_; rintro e w1 ⟨rfl, hb1⟩; have hkey1 := hk0.out.below hb1; have e1 : Ext w w1 := Ext.tr hb0.out hb1)
      | (refine wpList_load_row rfl 23 _ rfl w.heap.size rfl _ (keyA seed) (0, 0) _ hkey1 under_key rfl (by rw [keyA_size, HK.out]; exact info_key) ?_)
      | (go_at_call 7; refine (HRR.out _).mono ?_; rintro e w2 ⟨v2, u2, rfl, hok2, hb2⟩; rw [HD.out]; have hbel2 : Ext w w2 := Ext.tr e1 hb2))
    go_ret
    exact ⟨rfl, hbel2⟩
end Go.Proofs.YtmbgcjfmfkddpaaGreat
