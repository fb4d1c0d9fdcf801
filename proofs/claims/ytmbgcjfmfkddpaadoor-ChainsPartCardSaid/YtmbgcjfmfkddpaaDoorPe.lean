/-
  A key's block, each byte xored: the first program.
  Sums with a key: the first program.
  Sums with a key: the reference.
  Signatures: names, challenges, signing; both programs.
  Signing and checking; both programs.
  Signatures checked; both programs. (Printed by wip/gen_sign3.py.)
  Proofs and keys compared, in a walk and in a drawn region.
-/
import Derived.Test.YtmbgcjfmfkddpaaDoorPb
import Derived.Laws.CopyOwn
import Derived.Test.YtmbgcjfmfkddpaaDoorPa
import Derived.Test.YtmbgcjfmfkddpaaDoorPd
import Derived.Lib.SlBytesConst
import Derived.Stop.BytesEq
import Derived.BigQuiet
namespace Go.Proofs.YtmbgcjfmfkddpaaDoor
set_option linter.unusedVariables false
set_option linter.unusedSimpArgs false
open Go Go.RowKit

def maskL (m : UInt8) (k : List UInt8) : List UInt8 := k.map (fun c => c ^^^ m)
theorem length_maskL (m : UInt8) (k : List UInt8) : (maskL m k).length = k.length := by simp [maskL]
theorem ofInt_u8 (a : UInt8) : BitVec.ofInt 8 (a.toNat : Int) = a.toBitVec := by
  apply BitVec.eq_of_toNat_eq; simp
theorem xor_u8 (a b : UInt8) : bits .xor .u8 (a.toNat : Int) (b.toNat : Int) = ((a ^^^ b).toNat : Int) := by
  show IntKind.u8.wrap ((BitVec.ofInt 8 (a.toNat : Int) ^^^ BitVec.ofInt 8 (b.toNat : Int)).toNat : Int) = _
  rw [ofInt_u8, ofInt_u8, IntKind.wrap_u8]
  have := (a ^^^ b).toNat_lt
  rw [← UInt8.toBitVec_xor, UInt8.toNat_toBitVec]; omega
theorem info_blk : (Tryd.prog.info? 102).map (·.size) = some 64 := by kernel_rfl
theorem run_indexB (k : List UInt8) (hk : k.length = 64) (i : Nat) (h : i < 64) (w : World) : (Instr.index 102 (.agg (keyA k)) (.int .i64 i)).run Tryd.prog w = .ok (BV (k[i]'(by omega))) w := by
  have hc : (keyA k)[i]? = some (BV (k[i]'(by omega))) := by simp [keyA, List.getElem?_eq_getElem (show i < k.length by omega)]
  have hs : (keyA k).size = 64 := by rw [keyA_size, hk]
  generalize keyA k = cs at hc hs
  have h1 : (Tryd.prog.info? 5).map (·.size) = some 1 := by kernel_rfl
  obtain ⟨ti, hti, hsz⟩ := Option.map_eq_some_iff.1 h1
  simp [Instr.index, run_underlying Tryd.underlying102, sizeOf, typeInfo, hti, hsz, h, go_sem]
  rw [hc]; rfl

def MaskRel (w : World) (m : UInt8) (k : List UInt8) (i v : Value) (wr : World) : Prop :=
  ∃ n : Nat, n ≤ 64 ∧ i = .int .i64 n ∧ OwnB wr w.heap.size v (maskL m (k.take n)) ∧ Below w.heap.size w wr
theorem maskL_snoc (m : UInt8) (k : List UInt8) (n : Nat) (h : n < k.length) : maskL m (k.take (n + 1)) = maskL m (k.take n) ++ [k[n] ^^^ m] := by
  rw [List.take_succ_eq_append_getElem h]; simp only [maskL, List.map_append, List.map_cons, List.map_nil]

end Go.Proofs.YtmbgcjfmfkddpaaDoor
namespace Go.Proofs.YtmbgcjfmfkddpaaDoor
set_option linter.unusedVariables false
set_option linter.unusedSimpArgs false
open Go Go.RowKit

theorem keyA_zero64 : keyA (List.replicate 64 0) = #[.int .u8 0, .int .u8 0, .int .u8 0, .int .u8 0, .int .u8 0, .int .u8 0, .int .u8 0, .int .u8 0, .int .u8 0, .int .u8 0, .int .u8 0, .int .u8 0, .int .u8 0, .int .u8 0, .int .u8 0, .int .u8 0, .int .u8 0, .int .u8 0, .int .u8 0, .int .u8 0, .int .u8 0, .int .u8 0, .int .u8 0, .int .u8 0, .int .u8 0, .int .u8 0, .int .u8 0, .int .u8 0, .int .u8 0, .int .u8 0, .int .u8 0, .int .u8 0, .int .u8 0, .int .u8 0, .int .u8 0, .int .u8 0, .int .u8 0, .int .u8 0, .int .u8 0, .int .u8 0, .int .u8 0, .int .u8 0, .int .u8 0, .int .u8 0, .int .u8 0, .int .u8 0, .int .u8 0, .int .u8 0, .int .u8 0, .int .u8 0, .int .u8 0, .int .u8 0, .int .u8 0, .int .u8 0, .int .u8 0, .int .u8 0, .int .u8 0, .int .u8 0, .int .u8 0, .int .u8 0, .int .u8 0, .int .u8 0, .int .u8 0, .int .u8 0] := by rfl
/-- A key's block, and the sum of bytes with a key. -/
def macK (l : List UInt8) : List UInt8 := (if 64 < l.length then sha l else l) ++ List.replicate (64 - (if 64 < l.length then sha l else l).length) 0
def mac (k b : List UInt8) : List UInt8 := sha (maskL 92 (macK k) ++ sha (maskL 54 (macK k) ++ b))
theorem length_macK (l : List UInt8) : (macK l).length = 64 := by
  unfold macK
  by_cases h : 64 < l.length
  · simp [h, length_sha]
  · simp [h]; omega
theorem length_mac (k b : List UInt8) : (mac k b).length = 32 := length_sha _
theorem grownBy_setRow (w : World) (g : Nat) (cs : Array Value) : w.grownBy (w.setRow g cs) (some g) :=
  ⟨rfl, rfl, rfl, by simp [World.setRow], fun k _ hne => setRow_other w g k cs (fun e => hne (by rw [e]))⟩
/-- copy(k[:], x) on bytes: a whole block, what is copied not longer. -/
theorem copyB {w : World} {ops : Array Oper} {rest : List Oper} {o : Oper} {a : Act} {Q : Exit → Act → World → Prop} (hgd : o.guard = none) (d s : Operand)
    (ho : o.op = .call { callee := .builtin .copy, args := #[d, s], argTypes := #[63, 63] }) (g n c : Nat) (cur l : List UInt8) (t : TypeId) (v : Value)
    (hd : a.eval d = .slice (some ⟨g, 0, none⟩) n c) (hg : Blk w g (keyA cur) t) (hcur : cur.length = n) (hs : a.eval s = v) (hv : SeesB w v l) (hl : l.length ≤ n)
    (h : ∀ w', w.grownBy w' (some g) → w'.heap.size = w.heap.size → Blk w' g (keyA (l ++ cur.drop l.length)) t → wpList Tryd.prog ops Q rest (a.put o.dst (goInt l.length)) w') : wpList Tryd.prog ops Q (o :: rest) a w := by
  have hsz : (Tryd.prog.info? 5).map (·.size) = some 1 := by kernel_rfl
  obtain ⟨hl1, av, cv, rfl, hcv, hm, hnc, hb⟩ := hv
  by_cases h0 : l.length = 0
  · obtain rfl : l = [] := List.eq_nil_of_length_eq_zero h0
    refine wpList_copy_nothing hgd d s _ _ ho 5 Tryd.underlying63 hsz _ _ _ _ _ _ hd hs (by simp) ?_
    have := h w (grownBy_refl _ _) rfl (by simpa using hg)
    simpa using this
  · obtain ⟨b, off, rfl, hcell⟩ := hb (by omega)
    have hlen : (l.map BV).length = l.length := by simp
    refine wpList_copy_own hgd d s _ _ ho 5 Tryd.underlying63 hsz g 0 n c ⟨b, off, none⟩ l.length cv hd hs (keyA cur) t hg (l.map BV) (by rw [hlen]; exact (Nat.min_eq_left hl).symm) (fun j u hj => ?_) (by rw [hlen, keyA_size]; omega) (one_BV l) ?_
    · rw [addr_add]; exact hcell j u hj
    · have hset := setRow_heap w g (keyA cur) (((keyA cur).toList.take 0 ++ (l.map BV ++ (keyA cur).toList.drop (0 + (l.map BV).length))).toArray) t (0, 0) hg
      have e : ((keyA cur).toList.take 0 ++ (l.map BV ++ (keyA cur).toList.drop (0 + (l.map BV).length))).toArray = keyA (l ++ cur.drop l.length) := by
        simp [keyA, List.map_drop]
      have := h _ (grownBy_setRow w g _) (by simp [World.setRow]) (by unfold Blk; rw [← e]; exact hset)
      rwa [hlen] at *


end Go.Proofs.YtmbgcjfmfkddpaaDoor
namespace Go.Proofs.YtmbgcjfmfkddpaaDoor
set_option linter.unusedVariables false
set_option linter.unusedSimpArgs false
open Go Go.RowKit

theorem ownB_blk {w : World} {B g : Nat} {l : List UInt8} (h : Blk w g (keyA l) 5) (hB : B ≤ g) (hm : l.length ≤ maxLen) : OwnB w B (.slice (some ⟨g, 0, none⟩) l.length l.length) l :=
  ⟨by simp, .inr ⟨g, l.length, keyA l, rfl, hB, h, Nat.le_refl _, hm, by simp [keyA], by rw [Nat.mul_one, keyA, List.take_of_length_le (by simp)]⟩⟩
def zeroB (n : Nat) : List UInt8 := List.replicate n 0
theorem length_zeroB (n : Nat) : (zeroB n).length = n := List.length_replicate ..
theorem run_make_bytes (n : Nat) (w : World) (hn : n ≤ 16777216) : (Instr.makeSlice 63 (.int .i64 n) (.int .i64 n)).run Tryd.prog w = .ok (.slice (some ⟨w.heap.size, 0, none⟩) n n) (w.alloc (.cells (keyA (zeroB n)) 5)) := by
  obtain ⟨i, hi, hz, hsize, hby⟩ := info_parts info_u8
  have h := run_makeSlice (P := Tryd.prog) w 63 5 i (.int .u8 0) Tryd.underlying63 hi hz .i64 .i64 n n (by omega) (Int.le_refl _) (by rw [hsize]; omega) (by rw [hby]; omega) (by omega)
  have e : madeCells (Value.int .u8 0).cells n = keyA (zeroB n) := by
    unfold madeCells keyA zeroB
    rw [List.map_replicate]
    apply Array.ext_getElem?
    intro j
    by_cases hj : j < n
    · simp [Value.cells, hj, Nat.mod_one]
    · simp [hj]
  rw [hsize, Nat.mul_one, Int.toNat_natCast, e] at h
  exact h
theorem arrB_zero64 : arrB 64 (fun _ => 0) = #[.int .u8 0, .int .u8 0, .int .u8 0, .int .u8 0, .int .u8 0, .int .u8 0, .int .u8 0, .int .u8 0, .int .u8 0, .int .u8 0, .int .u8 0, .int .u8 0, .int .u8 0, .int .u8 0, .int .u8 0, .int .u8 0, .int .u8 0, .int .u8 0, .int .u8 0, .int .u8 0, .int .u8 0, .int .u8 0, .int .u8 0, .int .u8 0, .int .u8 0, .int .u8 0, .int .u8 0, .int .u8 0, .int .u8 0, .int .u8 0, .int .u8 0, .int .u8 0, .int .u8 0, .int .u8 0, .int .u8 0, .int .u8 0, .int .u8 0, .int .u8 0, .int .u8 0, .int .u8 0, .int .u8 0, .int .u8 0, .int .u8 0, .int .u8 0, .int .u8 0, .int .u8 0, .int .u8 0, .int .u8 0, .int .u8 0, .int .u8 0, .int .u8 0, .int .u8 0, .int .u8 0, .int .u8 0, .int .u8 0, .int .u8 0, .int .u8 0, .int .u8 0, .int .u8 0, .int .u8 0, .int .u8 0, .int .u8 0, .int .u8 0, .int .u8 0] := by rfl
theorem arrB_key {n : Nat} {l : List UInt8} (h : l.length = n) : arrB n (fun j => l.getD j 0) = keyA l := by subst h; exact (keyA_arrB l).symm
theorem seesB_at {w : World} {a : Option Addr} {n c : Nat} {l : List UInt8} (h : SeesB w (.slice a n c) l) (hn : 0 < l.length) : ∃ b o, a = some ⟨b, o, none⟩ ∧ w.rangeAt b o (l.map BV) := by
  obtain ⟨hl, a', c', he, hc, hm, hnc, hb⟩ := h
  injection he with e1 _ _
  obtain ⟨b, o, rfl, hcell⟩ := hb hn
  exact ⟨b, o, e1, hcell⟩
def MacRel (u : World) (B : Nat) (K : List UInt8) (i : Value) (wr : World) : Prop :=
  ∃ n : Nat, n ≤ 64 ∧ i = .int .i64 n ∧ Blk wr B (arrB 64 (fun j => if j < n then K.getD j 0 ^^^ 54 else 0)) 5 ∧ Blk wr (B + 1) (arrB 64 (fun j => if j < n then K.getD j 0 ^^^ 92 else 0)) 5 ∧ Below u.heap.size u wr
theorem arrB_none (f : Nat → UInt8) : arrB 64 (fun j => if j < 0 then f j else 0) = keyA (zeroB 64) := by
  rw [← arrB_key (n := 64) (length_zeroB 64)]
  apply arrB_congr
  intro i hi
  rw [if_neg (by omega), List.getD_eq_getElem?_getD, zeroB, List.getElem?_replicate, if_pos hi]; rfl
theorem macK_getD {K l : List UInt8} (h : K = l ++ List.replicate (64 - l.length) 0) (j : Nat) (hj : j < 64) : K.getD j 0 = l.getD j 0 := by
  rw [h, List.getD_eq_getElem?_getD, List.getD_eq_getElem?_getD]
  by_cases hl : j < l.length
  · rw [List.getElem?_append_left hl]
  · rw [List.getElem?_append_right (by omega), List.getElem?_replicate, if_pos (by omega), List.getElem?_eq_none (by omega)]; rfl
theorem mac_start {u : World} {B : Nat} (K : List UInt8) (hus : u.heap.size = B) : MacRel u B K (.int .i64 0) ((u.alloc (.cells (keyA (zeroB 64)) 5)).alloc (.cells (keyA (zeroB 64)) 5)) := by
  subst hus
  refine ⟨0, by omega, rfl, ?_, ?_, by go_grown⟩
  · rw [arrB_none]; exact (Blk.new u _ _).alloc _
  · rw [arrB_none]; exact Blk.new2 u _ _ _
theorem mac_put {wr : World} {g n : Nat} {t : TypeId} {K : List UInt8} {m c : UInt8} (h : Blk wr g (arrB 64 (fun j => if j < n then K.getD j 0 ^^^ m else 0)) t) (hc : K.getD n 0 = c) :
    Blk (wr.setCell ⟨g, n, none⟩ (BV (c ^^^ m))) g (arrB 64 (fun j => if j < n + 1 then K.getD j 0 ^^^ m else 0)) t := by
  have := h.set n (BV (c ^^^ m))
  rw [← hc, arrB_step (f := fun j => K.getD j 0 ^^^ m)] at this
  rw [← hc]; exact this
theorem mac_step {u wr : World} {B n : Nat} {K : List UInt8} {c : UInt8} (hlt : n < 64) (hus : u.heap.size = B) (hc : K.getD n 0 = c) (hI : Blk wr B (arrB 64 (fun j => if j < n then K.getD j 0 ^^^ 54 else 0)) 5)
    (hO : Blk wr (B + 1) (arrB 64 (fun j => if j < n then K.getD j 0 ^^^ 92 else 0)) 5) (hb : Below u.heap.size u wr) {i : Value} (hi : i = .int .i64 (n + 1 : Nat)) :
    MacRel u B K i ((wr.setCell ⟨B, n, none⟩ (BV (c ^^^ 54))).setCell ⟨B + 1, n, none⟩ (BV (c ^^^ 92))) := by
  subst hus
  exact ⟨n + 1, by omega, hi, (mac_put hI hc).setCell _ _ (by simp), mac_put (hO.setCell _ _ (by simp)) hc, (hb.setCell (by simp) _).setCell (by simp) _⟩
theorem maskL_getD (m : UInt8) (K : List UInt8) (hK : K.length = 64) : arrB 64 (fun j => if j < 64 then K.getD j 0 ^^^ m else 0) = keyA (maskL m K) := by
  rw [← arrB_key (n := 64) (by rw [length_maskL, hK])]
  apply arrB_congr
  intro i hi
  rw [if_pos hi]
  simp [maskL, List.getD_eq_getElem?_getD, List.getElem?_eq_getElem (show i < K.length by omega)]



end Go.Proofs.YtmbgcjfmfkddpaaDoor
namespace Go.Proofs.YtmbgcjfmfkddpaaDoor
set_option linter.unusedVariables false
set_option linter.unusedSimpArgs false
open Go Go.RowKit

def sigS : List UInt8 := [115, 105, 103, 110]
def sigC (pub t : Int) (b : List UInt8) : Int := ofN (parts [sigS, put64 pub.toNat, put64 t.toNat, b])
theorem sigC_pos (pub t : Int) (b : List UInt8) : 0 ≤ sigC pub t b ∧ sigC pub t b < 2305843009213693950 := ofN_pos _
def nameL (pub : Int) : List UInt8 := sha (put64 pub.toNat)
theorem length_nameL (pub : Int) : (nameL pub).length = 32 := length_sha _
def sigD (secret : Int) (b : List UInt8) : Int := ofN (mac (put64 secret.toNat) b)
theorem sigD_pos (secret : Int) (b : List UInt8) : 0 ≤ sigD secret b ∧ sigD secret b < 2305843009213693950 := ofN_pos _
def signC (secret : Int) (b : List UInt8) : Int := sigC (timesP 37 secret) (timesP 37 (sigD secret b)) b
def signS (secret : Int) (b : List UInt8) : Int := ansP (signC secret b) secret (sigD secret b)
theorem signC_pos (secret : Int) (b : List UInt8) : 0 ≤ signC secret b ∧ signC secret b < 2305843009213693950 := ofN_pos _
theorem signS_pos (secret : Int) (b : List UInt8) : 0 ≤ signS secret b ∧ signS secret b < 2305843009213693950 := ansP_pos _ _ _
def signOk (pub : Int) (b : List UInt8) (c s : Int) : Prop := okP pub ∧ smallP c s ∧ sigC pub (backP 37 pub c s) b = c
instance (pub : Int) (b : List UInt8) (c s : Int) : Decidable (signOk pub b c s) := by unfold signOk; infer_instance

theorem seesBB_new {w : World} (us : List Value) (t : TypeId) (ll : List (List UInt8)) (hl : us.length = ll.length) (hm : ll.length ≤ 1000) (h : ∀ (i : Nat) (l : List UInt8) (u : Value), ll[i]? = some l → us[i]? = some u → SeesB w u l) :
    SeesBB (w.alloc (.cells us.toArray t)) (.slice (some ⟨w.heap.size, 0, none⟩) ll.length ll.length) ll :=
  ⟨us, by have := sees_new w 1 us.toArray t ll.length (by simp [hl]) (by unfold maxLen; omega); simpa using this, fun i l u h1 h2 => (h i l u h1 h2).alloc (by decide) _⟩
theorem seesBB_4 {w : World} {u1 u2 u3 u4 : Value} {l1 l2 l3 l4 : List UInt8} (t : TypeId) (h1 : SeesB w u1 l1) (h2 : SeesB w u2 l2) (h3 : SeesB w u3 l3) (h4 : SeesB w u4 l4) :
    SeesBB (w.alloc (.cells #[u1, u2, u3, u4] t)) (.slice (some ⟨w.heap.size, 0, none⟩) 4 4) [l1, l2, l3, l4] :=
  seesBB_new [u1, u2, u3, u4] t [l1, l2, l3, l4] rfl (by show 4 ≤ 1000; decide) (fun i l u hl hu => by
    match i with
    | 0 => cases hl; cases hu; exact h1
    | 1 => cases hl; cases hu; exact h2
    | 2 => cases hl; cases hu; exact h3
    | 3 => cases hl; cases hu; exact h4
    | n + 4 => simp at hl)
theorem seesB_key {w : World} {g : Nat} {l : List UInt8} {t : TypeId} (h : Blk w g (keyA l) t) (h32 : l.length = 32) : SeesB w (.slice (some ⟨g, 0, none⟩) 32 32) l := by
  have h1 := sees_block h 1 l.length (by rw [keyA_size, Nat.mul_one]) (by rw [h32]; decide)
  rw [h32] at h1
  unfold SeesB; rw [h32]
  rwa [keyA, List.toList_toArray] at h1

theorem seesB_litF (w : World) (cs : List Value) (t : TypeId) (fr : Nat × Nat) (l : List UInt8) (n : Nat) (h : cs = l.map BV) (hn : n = l.length) (hm : n ≤ maxLen) : SeesB (w.alloc (.cells cs.toArray t fr)) (.slice (some ⟨w.heap.size, 0, none⟩) n n) l := by
  subst h; subst hn
  have := sees_block (heap_alloc_new w (.cells (l.map BV).toArray t fr)) 1 l.length (by simp) hm
  simpa using this
theorem conv4 (a b c d : Int) (W : World) : (convert 63 63 (.slice (some ⟨W.heap.size, 0, none⟩) 4 4)).run Tryd.prog (W.alloc (.cells #[.int .u8 a, .int .u8 b, .int .u8 c, .int .u8 d] 5)) = .ok (.slice (some ⟨W.heap.size, 0, none⟩) 4 4) (W.alloc (.cells #[.int .u8 a, .int .u8 b, .int .u8 c, .int .u8 d] 5 (4, 5))) :=
  Lib.run_convert_bytes_const W 63 5 #[.int .u8 a, .int .u8 b, .int .u8 c, .int .u8 d] 4 4 u_bytes u_byte
end Go.Proofs.YtmbgcjfmfkddpaaDoor
namespace Go.Proofs.YtmbgcjfmfkddpaaDoor
set_option linter.unusedVariables false
set_option linter.unusedSimpArgs false
open Go Go.RowKit

end Go.Proofs.YtmbgcjfmfkddpaaDoor
namespace Go.Proofs.YtmbgcjfmfkddpaaDoor
set_option linter.unusedVariables false
set_option linter.unusedSimpArgs false
open Go Go.RowKit

end Go.Proofs.YtmbgcjfmfkddpaaDoor
namespace Go.Proofs.YtmbgcjfmfkddpaaDoor
set_option linter.unusedVariables false
set_option linter.unusedSimpArgs false
open Go Go.RowKit

theorem run_eqKey (a b : List UInt8) (ha : a.length = 32) (hb : b.length = 32) (w : World) : (binOp .eql 23 (.agg (keyA a)) (.agg (keyA b))).run Tryd.prog w = .ok (.bool (a == b)) w := by
  have h1 : (Tryd.prog.info? 5).map (·.size) = some 1 := by kernel_rfl
  obtain ⟨ti, hti, hsz⟩ := Option.map_eq_some_iff.1 h1
  exact run_eql_bytes w 23 5 32 under_key u_byte (fun w => by simp [sizeOf, typeInfo, hti, hsz]) a b ha hb
theorem guard_key : Tryd.prog.eqGuardType Tryd.prog.depth 23 = false := by kernel_rfl
theorem quiet_eql {P : Program} {C : World → Prop} {o : Oper} {a : Act} {K : Act → Prop} (ty : TypeId) (x y : Operand) (ho : o.op = .binOp .eql ty x y ty) (xs ys : Array Value) (v : Value) (hx : a.eval x = .agg xs) (hy : a.eval y = .agg ys)
    (hg : P.eqGuardType P.depth ty = false) (hr : ∀ w, (binOp .eql ty (.agg xs) (.agg ys)).run P w = .ok v w) (hk : K (a.put o.dst v)) : o.quiet P a C K :=
  ⟨v, fun w _ => by
    unfold Oper.quietAt
    simp only [execOp, ho, hx, hy, Sem.run_bind, run_eqGuard_agg w .eql ty x y xs ys hg, Result.andThen_ok, hr w]
    exact ⟨rfl, rfl⟩, hk⟩
theorem wpList_eql {P : Program} {ops : Array Oper} {rest : List Oper} {o : Oper} {a : Act} {w : World} {Q : Exit → Act → World → Prop} (hgd : Region.wanted o (yielded ops a.tmps) = true) (ty : TypeId) (x y : Operand)
    (ho : o.op = .binOp .eql ty x y ty) (xs ys : Array Value) (v : Value) (hx : a.eval x = .agg xs) (hy : a.eval y = .agg ys) (hg : P.eqGuardType P.depth ty = false) (hr : ∀ w, (binOp .eql ty (.agg xs) (.agg ys)).run P w = .ok v w)
    (h : wpList P ops Q rest (a.put o.dst v) w) : wpList P ops Q (o :: rest) a w := by
  unfold wpList
  rw [if_pos hgd]
  refine .inl ?_
  unfold Oper.wp
  simp only [execOp, ho, hx, hy, Sem.run_bind, run_eqGuard_agg w .eql ty x y xs ys hg, Result.andThen_ok, hr w]
  exact h
end Go.Proofs.YtmbgcjfmfkddpaaDoor
