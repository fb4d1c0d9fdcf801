/-
  A key's block, each byte xored: the first program.
  Sums with a key: the first program.
  Sums with a key: the reference.
  Signatures: names, challenges, signing; both programs.
  Signing and checking; both programs.
  Signatures checked; both programs. (Printed by wip/gen_sign3.py.)
  Proofs and keys compared, in a walk and in a drawn region.
-/
import Derived.Test.YtbgnfioggmkdeaaGreatDoorPb
import Derived.Laws.CopyOwn
import Derived.Test.YtbgnfioggmkdeaaGreatDoorPa
import Derived.Test.YtbgnfioggmkdeaaGreatDoorPd
import Derived.Lib.SlBytesConst
import Derived.Stop.BytesEq
import Derived.BigQuiet
namespace Go.Proofs.YtbgnfioggmkdeaaGreatDoor
set_option linter.unusedVariables false
set_option linter.unusedSimpArgs false
open Go Go.RowKit

def maskL (m : UInt8) (k : List UInt8) : List UInt8 := k.map (fun c => c ^^^ m)
theorem length_maskL (m : UInt8) (k : List UInt8) : (maskL m k).length = k.length := by simp [maskL]
theorem ofInt_u8 (a : UInt8) : BitVec.ofInt 8 (a.toNat : Int) = a.toBitVec := by
  apply BitVec.eq_of_toNat_eq; simp
theorem xor_u8 (a b : UInt8) : bits .xor .u8 (a.toNat : Int) (b.toNat : Int) = ((a ^^^ b).toNat : Int) := by
  show IntKind.u8.wrap ((BitVec.ofInt 8 (a.toNat : Int) ^^^ BitVec.ofInt 8 (b.toNat : Int)).toNat : Int) = _
  rw [ofInt_u8, ofInt_u8, IntKind.wrap_u8]
  have := (a ^^^ b).toNat_lt
  rw [← UInt8.toBitVec_xor, UInt8.toNat_toBitVec]; omega
theorem info_blk : (Tryz.prog.info? 239).map (·.size) = some 64 := by kernel_rfl
theorem run_indexB (k : List UInt8) (hk : k.length = 64) (i : Nat) (h : i < 64) (w : World) : (Instr.index 239 (.agg (keyA k)) (.int .i64 i)).run Tryz.prog w = .ok (BV (k[i]'(by omega))) w := by
  have hc : (keyA k)[i]? = some (BV (k[i]'(by omega))) := by simp [keyA, List.getElem?_eq_getElem (show i < k.length by omega)]
  have hs : (keyA k).size = 64 := by rw [keyA_size, hk]
  generalize keyA k = cs at hc hs
  have h1 : (Tryz.prog.info? 5).map (·.size) = some 1 := by kernel_rfl
  obtain ⟨ti, hti, hsz⟩ := Option.map_eq_some_iff.1 h1
  simp [Instr.index, run_underlying Tryz.underlying239, sizeOf, typeInfo, hti, hsz, h, go_sem]
  rw [hc]; rfl

def MaskRel (w : World) (m : UInt8) (k : List UInt8) (i v : Value) (wr : World) : Prop :=
  ∃ n : Nat, n ≤ 64 ∧ i = .int .i64 n ∧ OwnB wr w.heap.size v (maskL m (k.take n)) ∧ Below w.heap.size w wr
theorem maskL_snoc (m : UInt8) (k : List UInt8) (n : Nat) (h : n < k.length) : maskL m (k.take (n + 1)) = maskL m (k.take n) ++ [k[n] ^^^ m] := by
  rw [List.take_succ_eq_append_getElem h]; simp only [maskL, List.map_append, List.map_cons, List.map_nil]

set_option maxRecDepth 100000 in
set_option maxHeartbeats 1000000 in
theorem masked_any (w : World) (k : List UInt8) (m : UInt8) (hk : k.length = 64) :
    Calls Tryz.prog 187 #[.agg (keyA k), .int .u8 (m.toNat : Int)] w (RetB (maskL m k) w) := by
  have HK := Lib.hid hk; clear hk
  go_enter Tryz.func187, Tryz.ntmps187
  go_wp2_with (refine wpList_load_row rfl 239 _ rfl w.heap.size rfl _ _ (0, 0) _ (Blk.new w _ _) Tryz.underlying239 rfl (by rw [keyA_size, HK.out]; exact info_blk) ?_)
  go_loopw [9, 5] (fun i v wr => MaskRel w m k i v wr) (fun i _ _ => 64 - (intOf i).toNat)
  case atStart => exact ⟨0, by omega, rfl, ownB_nil _ _, by go_grown⟩
  case round =>
    obtain ⟨n, hn, rfl, hown, hbel⟩ := hrel
    by_cases hlt : n < 64
    · obtain ⟨a1, c1, rfl, hac1, hc1⟩ := owns_form hown
      have hix := fun W : World => run_indexB k HK.out n hlt W
      have hsn := Lib.hid (maskL_snoc m k n (by rw [HK.out]; exact hlt))
      have hlen : (maskL m (k.take n)).length = n := by rw [length_maskL, List.length_take, HK.out]; omega
      have HLEN := Lib.hid hlen; clear hlen
      generalize k[n]'(by rw [HK.out]; exact hlt) = c at hix hsn
      have hxor := xor_u8 c m
      go_wp2_with (at_builtin; refine appB (W := w) rfl _ _ rfl _ _ rfl (hown.alloc _) _ [c ^^^ m] rfl (seesB_one _ (c ^^^ m) _) (by rw [HLEN.out]; simp only [List.length_cons, List.length_nil]; omega) (hbel.alloc hbel.size _) ?_; intro v2 w2 hown2 hgr2 hb2)
      go_roundw
      case rel => exact ⟨n + 1, by omega, by go_num, by rw [hsn.out]; exact hown2, hb2⟩
      case measure => simp [intOf]; omega
    · obtain rfl : n = 64 := by omega
      rw [List.take_of_length_le (by rw [HK.out]; omega)] at hown
      obtain ⟨a1, c1, rfl, hac1, hc1⟩ := owns_form hown
      go_wp2_with fail
      go_ret
      exact RetB.mk hown hbel
end Go.Proofs.YtbgnfioggmkdeaaGreatDoor
namespace Go.Proofs.YtbgnfioggmkdeaaGreatDoor
set_option linter.unusedVariables false
set_option linter.unusedSimpArgs false
open Go Go.RowKit

theorem keyA_zero64 : keyA (List.replicate 64 0) = #[.int .u8 0, .int .u8 0, .int .u8 0, .int .u8 0, .int .u8 0, .int .u8 0, .int .u8 0, .int .u8 0, .int .u8 0, .int .u8 0, .int .u8 0, .int .u8 0, .int .u8 0, .int .u8 0, .int .u8 0, .int .u8 0, .int .u8 0, .int .u8 0, .int .u8 0, .int .u8 0, .int .u8 0, .int .u8 0, .int .u8 0, .int .u8 0, .int .u8 0, .int .u8 0, .int .u8 0, .int .u8 0, .int .u8 0, .int .u8 0, .int .u8 0, .int .u8 0, .int .u8 0, .int .u8 0, .int .u8 0, .int .u8 0, .int .u8 0, .int .u8 0, .int .u8 0, .int .u8 0, .int .u8 0, .int .u8 0, .int .u8 0, .int .u8 0, .int .u8 0, .int .u8 0, .int .u8 0, .int .u8 0, .int .u8 0, .int .u8 0, .int .u8 0, .int .u8 0, .int .u8 0, .int .u8 0, .int .u8 0, .int .u8 0, .int .u8 0, .int .u8 0, .int .u8 0, .int .u8 0, .int .u8 0, .int .u8 0, .int .u8 0, .int .u8 0] := by rfl
/-- A key's block, and the sum of bytes with a key. -/
def macK (l : List UInt8) : List UInt8 := (if 64 < l.length then sha l else l) ++ List.replicate (64 - (if 64 < l.length then sha l else l).length) 0
def mac (k b : List UInt8) : List UInt8 := sha (maskL 92 (macK k) ++ sha (maskL 54 (macK k) ++ b))
theorem length_macK (l : List UInt8) : (macK l).length = 64 := by
  unfold macK
  by_cases h : 64 < l.length
  · simp [h, length_sha]
  · simp [h]; omega
theorem length_mac (k b : List UInt8) : (mac k b).length = 32 := length_sha _
theorem grownBy_setRow (w : World) (g : Nat) (cs : Array Value) : w.grownBy (w.setRow g cs) (some g) :=
  ⟨rfl, rfl, rfl, by simp [World.setRow], fun k _ hne => setRow_other w g k cs (fun e => hne (by rw [e]))⟩
/-- copy(k[:], x) on bytes: a whole block, what is copied not longer. -/
theorem copyB {w : World} {ops : Array Oper} {rest : List Oper} {o : Oper} {a : Act} {Q : Exit → Act → World → Prop} (hgd : o.guard = none) (d s : Operand)
    (ho : o.op = .call { callee := .builtin .copy, args := #[d, s], argTypes := #[44, 44] }) (g n c : Nat) (cur l : List UInt8) (t : TypeId) (v : Value)
    (hd : a.eval d = .slice (some ⟨g, 0, none⟩) n c) (hg : Blk w g (keyA cur) t) (hcur : cur.length = n) (hs : a.eval s = v) (hv : SeesB w v l) (hl : l.length ≤ n)
    (h : ∀ w', w.grownBy w' (some g) → w'.heap.size = w.heap.size → Blk w' g (keyA (l ++ cur.drop l.length)) t → wpList Tryz.prog ops Q rest (a.put o.dst (goInt l.length)) w') : wpList Tryz.prog ops Q (o :: rest) a w := by
  have hsz : (Tryz.prog.info? 5).map (·.size) = some 1 := by kernel_rfl
  obtain ⟨hl1, av, cv, rfl, hcv, hm, hnc, hb⟩ := hv
  by_cases h0 : l.length = 0
  · obtain rfl : l = [] := List.eq_nil_of_length_eq_zero h0
    refine wpList_copy_nothing hgd d s _ _ ho 5 Tryz.underlying44 hsz _ _ _ _ _ _ hd hs (by simp) ?_
    have := h w (grownBy_refl _ _) rfl (by simpa using hg)
    simpa using this
  · obtain ⟨b, off, rfl, hcell⟩ := hb (by omega)
    have hlen : (l.map BV).length = l.length := by simp
    refine wpList_copy_own hgd d s _ _ ho 5 Tryz.underlying44 hsz g 0 n c ⟨b, off, none⟩ l.length cv hd hs (keyA cur) t hg (l.map BV) (by rw [hlen]; exact (Nat.min_eq_left hl).symm) (fun j u hj => ?_) (by rw [hlen, keyA_size]; omega) (one_BV l) ?_
    · rw [addr_add]; exact hcell j u hj
    · have hset := setRow_heap w g (keyA cur) (((keyA cur).toList.take 0 ++ (l.map BV ++ (keyA cur).toList.drop (0 + (l.map BV).length))).toArray) t (0, 0) hg
      have e : ((keyA cur).toList.take 0 ++ (l.map BV ++ (keyA cur).toList.drop (0 + (l.map BV).length))).toArray = keyA (l ++ cur.drop l.length) := by
        simp [keyA, List.map_drop]
      have := h _ (grownBy_setRow w g _) (by simp [World.setRow]) (by unfold Blk; rw [← e]; exact hset)
      rwa [hlen] at *


set_option maxRecDepth 100000 in
set_option maxHeartbeats 2000000 in
theorem MacOf_any (w : World) (vk vb : Value) (key b : List UInt8) (hkv : SeesB w vk key) (hbv : SeesB w vb b) (hk1 : key.length ≤ 70368744170000) (hb1 : b.length ≤ 70368744170000) :
    Calls Tryz.prog 162 #[vk, vb] w fun e w' => e = .returned (.agg (keyA (mac key b))) ∧ Below w.heap.size w w' := by
  obtain ⟨a0, c0, rfl, hac0, hc0⟩ := sees_form hkv
  obtain ⟨a1, c1, rfl, hac1, hc1⟩ := sees_form hbv
  have HK := Lib.hid (length_macK key)
  have hR0 : Blk ((w.alloc (.cells (keyA (List.replicate 32 0)) 24)).alloc (.cells (keyA (List.replicate 64 0)) 239)) w.heap.size (keyA (List.replicate 32 0)) 24 := (Blk.new w _ _).alloc _
  have hK0 : Blk ((w.alloc (.cells (keyA (List.replicate 32 0)) 24)).alloc (.cells (keyA (List.replicate 64 0)) 239)) (w.heap.size + 1) (keyA (List.replicate 64 0)) 239 := Blk.new2 w _ _ _
  have hbel0 : Below w.heap.size w ((w.alloc (.cells (keyA (List.replicate 32 0)) 24)).alloc (.cells (keyA (List.replicate 64 0)) 239)) := by go_grown
  rw [keyA_zero, keyA_zero64] at hR0 hK0 hbel0
  rw [← keyA_zero] at hR0
  have HR0 := Lib.hid hR0; have HK0 := Lib.hid hK0; have HB0 := Lib.hid hbel0
  clear hR0 hK0 hbel0
  by_cases h64 : 64 < key.length
  · have HM := Lib.hid (show macK key = sha key ++ List.drop (sha key).length (List.replicate 64 0) by unfold macK; rw [if_pos h64, length_sha]; rfl)
    generalize hKe : macK key = K at HK HM
    have HE := Lib.hid hKe; clear hKe
    go_enter Tryz.func162, Tryz.ntmps162
    go_wp2_with (first
      | (go_at_call 68; refine (Sum_any _ _ key (hkv.below HB0.out (by decide)) (by omega)).mono ?_; rintro e w1 ⟨rfl, hb1⟩)
      | (refine wpList_store_row rfl 24 _ _ rfl w1.heap.size (keyA (sha key)) _ _ rfl rfl (Blk.new _ _ _) (by rw [keyA_size, length_sha]; rfl) (by rw [keyA_size, length_sha]; exact info_key) (keyA_one _) ?_; intro w2 hg2 hs2 hR2))
    have hb2 := HB0.out.trans (hb1.mono (by simp only [World.size_alloc]; omega))
    have hR2' := ((HR0.out.below hb1).alloc (.cells #[.int .u8 0, .int .u8 0, .int .u8 0, .int .u8 0, .int .u8 0, .int .u8 0, .int .u8 0, .int .u8 0, .int .u8 0, .int .u8 0, .int .u8 0, .int .u8 0, .int .u8 0, .int .u8 0, .int .u8 0, .int .u8 0, .int .u8 0, .int .u8 0, .int .u8 0, .int .u8 0, .int .u8 0, .int .u8 0, .int .u8 0, .int .u8 0, .int .u8 0, .int .u8 0, .int .u8 0, .int .u8 0, .int .u8 0, .int .u8 0, .int .u8 0, .int .u8 0] 24)).grownBy hg2 (some_ne (by have := (HR0.out.below hb1).lt; omega))
    have hK2 := ((HK0.out.below hb1).alloc (.cells #[.int .u8 0, .int .u8 0, .int .u8 0, .int .u8 0, .int .u8 0, .int .u8 0, .int .u8 0, .int .u8 0, .int .u8 0, .int .u8 0, .int .u8 0, .int .u8 0, .int .u8 0, .int .u8 0, .int .u8 0, .int .u8 0, .int .u8 0, .int .u8 0, .int .u8 0, .int .u8 0, .int .u8 0, .int .u8 0, .int .u8 0, .int .u8 0, .int .u8 0, .int .u8 0, .int .u8 0, .int .u8 0, .int .u8 0, .int .u8 0, .int .u8 0, .int .u8 0] 24)).grownBy hg2 (some_ne (by have := (HK0.out.below hb1).lt; omega))
    have hbel2 := (hb2.alloc hb2.size (.cells #[.int .u8 0, .int .u8 0, .int .u8 0, .int .u8 0, .int .u8 0, .int .u8 0, .int .u8 0, .int .u8 0, .int .u8 0, .int .u8 0, .int .u8 0, .int .u8 0, .int .u8 0, .int .u8 0, .int .u8 0, .int .u8 0, .int .u8 0, .int .u8 0, .int .u8 0, .int .u8 0, .int .u8 0, .int .u8 0, .int .u8 0, .int .u8 0, .int .u8 0, .int .u8 0, .int .u8 0, .int .u8 0, .int .u8 0, .int .u8 0, .int .u8 0, .int .u8 0] 24)).grown hg2 (by simp only [World.size_alloc]; exact Nat.le_succ_of_le hb2.size) (fun k hk => by cases hk; exact hb2.size)
    have hsum : SeesB w2 (.slice (some ⟨w1.heap.size, 0, none⟩) 32 32) (sha key) := by
      have h := sees_block hR2 1 (sha key).length (by rw [keyA_size, Nat.mul_one]) (by rw [length_sha]; decide)
      rw [length_sha] at h
      unfold SeesB; rw [length_sha]
      rwa [keyA, List.toList_toArray] at h
    clear hg2 hs2 hR2 hb1 hb2
    generalize w1.heap.size = B1 at *
    have hR2 := hR2'.drew
    change Code.wp _ _ _ (Act.mk _ _) _
    try change Code.wp _ _ _ (Act.mk _ _) _
    haveI hne_ : Nonempty (InC (fun u => Blk u w.heap.size (keyA (List.replicate 32 0)) 24)) := ⟨⟨_, hR2⟩⟩
    refine wp_region_ph (C := fun w_ => ∃ e_ : InC (fun u => Blk u w.heap.size (keyA (List.replicate 32 0)) 24), w_ = e_.u) [([0, 1], 2)] [] (by kernel_rfl) (by kernel_rfl) (fun _ _ _ _ hd_ h_ => ⟨hd_.symm.trans h_.1, h_.2⟩) ⟨⟨World.drew _, hR2⟩, rfl⟩ ?_
    first | refine wpPh_cons ?_ | refine wpPh_nil ?_
    simp only [pickOps, List.flatMap_cons, List.flatMap_nil, List.drop_succ_cons, List.drop_zero, List.take_succ_cons, List.take_zero, List.cons_append, List.nil_append, List.append_nil]
    iterate 2 (go_big_quiet_step (exact rfl))
    refine wpQuiet_nil ?_
    go_wp2_with (refine copyB rfl _ _ rfl (w.heap.size + 1) 64 64 (List.replicate 64 0) (sha key) _ _ rfl (by rw [keyA_zero64]; exact hK2) (List.length_replicate ..) rfl hsum.drew (by rw [length_sha]; decide) ?_; intro u hgu hsu hK)
    rw [← HM.out] at hK
    have hR := hR2.grownBy hgu (some_ne (by omega))
    have hbel := hbel2.drew.grown hgu hbel2.size (fun k hk => by cases hk; omega)
    clear hgu hsu hsum hK2 hR2' hbel2
    refine phPost_normal ⟨⟨⟨_, hR⟩, rfl⟩, ?_⟩
    refine wpPh_nil ?_
    simp only [pickOps, List.flatMap_nil]
    refine wpQuiet_nil ?_
    go_wp2_with (first
      | (refine wpList_load_row rfl 239 _ rfl (w.heap.size + 1) rfl _ _ (0, 0) _ hK Tryz.underlying239 rfl (by rw [keyA_size, HK.out]; exact info_blk) ?_)
      | (go_at_call 187; refine (masked_any _ K 54 HK.out).mono ?_; rintro e w5 ⟨v5, rfl, hown5, hb5⟩; obtain ⟨a5, c5, rfl, hac5, hc5⟩ := owns_form hown5)
      | (at_builtin; refine appB (W := u) rfl _ _ rfl _ (maskL 54 K) rfl hown5 _ b rfl ((hbv.below hbel (by decide)).below hb5 (by decide)) (by rw [length_maskL, HK.out]; omega) hb5 ?_; intro v6 w6 hown6 hgr6 hb6)
      | (go_at_call 68; refine (Sum_any _ _ (maskL 54 K ++ b) (sees_of_owns hown6) (by rw [List.length_append, length_maskL, HK.out]; omega)).mono ?_; rintro e w7 ⟨rfl, hb7⟩; have hbu7 := hb6.trans (hb7.mono hb6.size))
      | (refine wpList_store_row rfl 24 _ _ rfl w7.heap.size (keyA (sha (maskL 54 K ++ b))) _ _ rfl rfl (Blk.new _ _ _) (by rw [keyA_size, length_sha]; rfl) (by rw [keyA_size, length_sha]; exact info_key) (keyA_one _) ?_; intro w8 hg8 hs8 hR8))
    have hbu8 : Below u.heap.size u w8 := (hbu7.alloc hbu7.size _).grown hg8 (by simp only [World.size_alloc]; exact Nat.le_succ_of_le hbu7.size) (fun k hk => by cases hk; exact hbu7.size)
    have hK8 := hK.below hbu8
    have hR0 := hR.below hbu8
    have hbel8 : Below w.heap.size w w8 := hbel.trans (hbu8.mono hbel.size)
    have hin : SeesB w8 (.slice (some ⟨w7.heap.size, 0, none⟩) 32 32) (sha (maskL 54 K ++ b)) := by
      have h := sees_block hR8 1 (sha (maskL 54 K ++ b)).length (by rw [keyA_size, Nat.mul_one]) (by rw [length_sha]; decide)
      rw [length_sha] at h
      unfold SeesB; rw [length_sha]
      rwa [keyA, List.toList_toArray] at h
    have h32 := Lib.hid (length_sha (maskL 54 K ++ b))
    have hF := Lib.hid (show mac key b = sha (maskL 92 K ++ sha (maskL 54 K ++ b)) by rw [← HE.out]; rfl)
    clear hg8 hs8 hR8 hb5 hown5 hgr6 hown6 hb6 hb7 hbu7 hK hR hbel hac5 hc5 hbu8
    generalize w7.heap.size = B7 at *
    generalize sha (maskL 54 K ++ b) = S at *
    have hk : Blk w8.drew (w.heap.size + 1) (keyA K) 239 := hK8
    try change Code.wp _ _ _ (Act.mk _ _) _
    haveI hne_ : Nonempty (InC (fun u => Blk u (w.heap.size + 1) (keyA K) 239)) := ⟨⟨_, hk⟩⟩
    refine wp_region_ph (C := fun w_ => ∃ e_ : InC (fun u => Blk u (w.heap.size + 1) (keyA K) 239), w_ = e_.u) [([2, 0], 1), ([], 3), ([], 4), ([], 5)] [] (by kernel_rfl) (by kernel_rfl) (fun _ _ _ _ hd_ h_ => ⟨hd_.symm.trans h_.1, h_.2⟩) ⟨⟨World.drew _, hk⟩, rfl⟩ ?_
    first | refine wpPh_cons ?_ | refine wpPh_nil ?_
    simp only [pickOps, List.flatMap_cons, List.flatMap_nil, List.drop_succ_cons, List.drop_zero, List.take_succ_cons, List.take_zero, List.cons_append, List.nil_append, List.append_nil]
    iterate 2 (first | (refine wpQuiet_load_row rfl 239 _ rfl (w.heap.size + 1) rfl _ (keyA K) (0, 0) _ (fun w_ hw_ => by obtain ⟨e_, rfl⟩ := hw_; exact e_.has) Tryz.underlying239 rfl (by rw [keyA_size, HK.out]; exact info_blk) ?_) | go_big_quiet_step (exact rfl))
    refine wpQuiet_nil ?_
    go_wp2_with (go_at_call 187; refine (masked_any _ K 92 HK.out).mono ?_; rintro e w9 ⟨v9, rfl, hown9, hb9⟩; obtain ⟨a9, c9, rfl, hac9, hc9⟩ := owns_form hown9)
    refine phPost_normal ⟨⟨⟨_, hk.below hb9⟩, rfl⟩, ?_⟩
    first | refine wpPh_cons ?_ | refine wpPh_nil ?_
    simp only [pickOps, List.flatMap_cons, List.flatMap_nil, List.drop_succ_cons, List.drop_zero, List.take_succ_cons, List.take_zero, List.cons_append, List.nil_append, List.append_nil]
    refine wpQuiet_nil ?_
    go_wp2_with (at_builtin; refine appB (W := w8.drew) rfl _ _ rfl _ (maskL 92 K) rfl hown9 _ S rfl ((hin.drew).below hb9 (by decide)) (by rw [length_maskL, HK.out, h32.out]; omega) hb9 ?_; intro v10 w10 hown10 hgr10 hb10)
    refine phPost_normal ⟨⟨⟨_, hk.below hb10⟩, rfl⟩, ?_⟩
    first | refine wpPh_cons ?_ | refine wpPh_nil ?_
    simp only [pickOps, List.flatMap_cons, List.flatMap_nil, List.drop_succ_cons, List.drop_zero, List.take_succ_cons, List.take_zero, List.cons_append, List.nil_append, List.append_nil]
    refine wpQuiet_nil ?_
    go_wp2_with (go_at_call 68; refine (Sum_any _ _ (maskL 92 K ++ S) (sees_of_owns hown10) (by rw [List.length_append, length_maskL, HK.out, h32.out]; omega)).mono ?_; rintro e w11 ⟨rfl, hb11⟩; have hb12 : Below w8.drew.heap.size w8.drew w11 := hb10.trans (hb11.mono hb10.size))
    refine phPost_normal ⟨⟨⟨_, hk.below hb12⟩, rfl⟩, ?_⟩
    first | refine wpPh_cons ?_ | refine wpPh_nil ?_
    simp only [pickOps, List.flatMap_cons, List.flatMap_nil, List.drop_succ_cons, List.drop_zero, List.take_succ_cons, List.take_zero, List.cons_append, List.nil_append, List.append_nil]
    refine wpQuiet_nil ?_
    have hR12 := Blk.below (w := w8.drew) hR0 hb12
    go_wp2_with (refine wpList_store_row rfl 24 _ _ rfl w.heap.size (keyA (sha (maskL 92 K ++ S))) _ _ rfl rfl hR12 (by rw [keyA_size, keyA_size, length_sha, List.length_replicate]) (by rw [keyA_size, length_sha]; exact info_key) (keyA_one _) ?_; intro w13 hg13 hs13 hR13)
    refine phPost_normal ⟨⟨⟨_, (hk.below hb12).grownBy hg13 (some_ne (by omega))⟩, rfl⟩, ?_⟩
    first | refine wpPh_cons ?_ | refine wpPh_nil ?_
    simp only [pickOps, List.flatMap_cons, List.flatMap_nil, List.drop_succ_cons, List.drop_zero, List.take_succ_cons, List.take_zero, List.cons_append, List.nil_append, List.append_nil]
    refine wpQuiet_nil ?_
    go_wp2_with fail
    refine bodyPost_ret (results_cell_row Tryz.results162 _ _ w.heap.size _ _ (0, 0) _ rfl hR13 under_key rfl (by rw [keyA_size, length_sha]; exact info_key)) rfl ⟨by rw [hF.out], ?_⟩
    have hbel9 : Below w.heap.size w w11 := hbel8.drew.trans (hb12.mono hbel8.size)
    exact hbel9.grown hg13 hbel9.size (fun k hk => by cases hk; exact Nat.le_refl _)
  · have HM := Lib.hid (show macK key = key ++ List.drop key.length (List.replicate 64 0) by unfold macK; rw [if_neg h64, List.drop_replicate])
    generalize hKe : macK key = K at HK HM
    have HE := Lib.hid hKe; clear hKe
    go_enter Tryz.func162, Tryz.ntmps162
    go_wp2_with (first
      | (refine copyB rfl _ _ rfl (w.heap.size + 1) 64 64 (List.replicate 64 0) key _ _ rfl (by rw [keyA_zero64]; exact HK0.out) (List.length_replicate ..) rfl (hkv.below HB0.out (by decide)) (by omega) ?_; intro u hgu hsu hK; rw [← HM.out] at hK; have hR := HR0.out.grownBy hgu (some_ne (by omega)); have hbel := HB0.out.grown hgu HB0.out.size (fun k hk => by cases hk; omega); clear hgu hsu)
      | (refine wpList_load_row rfl 239 _ rfl (w.heap.size + 1) rfl _ _ (0, 0) _ hK Tryz.underlying239 rfl (by rw [keyA_size, HK.out]; exact info_blk) ?_)
      | (go_at_call 187; refine (masked_any _ K 54 HK.out).mono ?_; rintro e w5 ⟨v5, rfl, hown5, hb5⟩; obtain ⟨a5, c5, rfl, hac5, hc5⟩ := owns_form hown5)
      | (at_builtin; refine appB (W := u) rfl _ _ rfl _ (maskL 54 K) rfl hown5 _ b rfl ((hbv.below hbel (by decide)).below hb5 (by decide)) (by rw [length_maskL, HK.out]; omega) hb5 ?_; intro v6 w6 hown6 hgr6 hb6)
      | (go_at_call 68; refine (Sum_any _ _ (maskL 54 K ++ b) (sees_of_owns hown6) (by rw [List.length_append, length_maskL, HK.out]; omega)).mono ?_; rintro e w7 ⟨rfl, hb7⟩; have hbu7 := hb6.trans (hb7.mono hb6.size))
      | (refine wpList_store_row rfl 24 _ _ rfl w7.heap.size (keyA (sha (maskL 54 K ++ b))) _ _ rfl rfl (Blk.new _ _ _) (by rw [keyA_size, length_sha]; rfl) (by rw [keyA_size, length_sha]; exact info_key) (keyA_one _) ?_; intro w8 hg8 hs8 hR8))
    have hbu8 : Below u.heap.size u w8 := (hbu7.alloc hbu7.size _).grown hg8 (by simp only [World.size_alloc]; exact Nat.le_succ_of_le hbu7.size) (fun k hk => by cases hk; exact hbu7.size)
    have hK8 := hK.below hbu8
    have hR0 := hR.below hbu8
    have hbel8 : Below w.heap.size w w8 := hbel.trans (hbu8.mono hbel.size)
    have hin : SeesB w8 (.slice (some ⟨w7.heap.size, 0, none⟩) 32 32) (sha (maskL 54 K ++ b)) := by
      have h := sees_block hR8 1 (sha (maskL 54 K ++ b)).length (by rw [keyA_size, Nat.mul_one]) (by rw [length_sha]; decide)
      rw [length_sha] at h
      unfold SeesB; rw [length_sha]
      rwa [keyA, List.toList_toArray] at h
    have h32 := Lib.hid (length_sha (maskL 54 K ++ b))
    have hF := Lib.hid (show mac key b = sha (maskL 92 K ++ sha (maskL 54 K ++ b)) by rw [← HE.out]; rfl)
    clear hg8 hs8 hR8 hb5 hown5 hgr6 hown6 hb6 hb7 hbu7 hK hR hbel hac5 hc5 hbu8
    generalize w7.heap.size = B7 at *
    generalize sha (maskL 54 K ++ b) = S at *
    have hk : Blk w8.drew (w.heap.size + 1) (keyA K) 239 := hK8
    try change Code.wp _ _ _ (Act.mk _ _) _
    haveI hne_ : Nonempty (InC (fun u => Blk u (w.heap.size + 1) (keyA K) 239)) := ⟨⟨_, hk⟩⟩
    refine wp_region_ph (C := fun w_ => ∃ e_ : InC (fun u => Blk u (w.heap.size + 1) (keyA K) 239), w_ = e_.u) [([2, 0], 1), ([], 3), ([], 4), ([], 5)] [] (by kernel_rfl) (by kernel_rfl) (fun _ _ _ _ hd_ h_ => ⟨hd_.symm.trans h_.1, h_.2⟩) ⟨⟨World.drew _, hk⟩, rfl⟩ ?_
    first | refine wpPh_cons ?_ | refine wpPh_nil ?_
    simp only [pickOps, List.flatMap_cons, List.flatMap_nil, List.drop_succ_cons, List.drop_zero, List.take_succ_cons, List.take_zero, List.cons_append, List.nil_append, List.append_nil]
    iterate 2 (first | (refine wpQuiet_load_row rfl 239 _ rfl (w.heap.size + 1) rfl _ (keyA K) (0, 0) _ (fun w_ hw_ => by obtain ⟨e_, rfl⟩ := hw_; exact e_.has) Tryz.underlying239 rfl (by rw [keyA_size, HK.out]; exact info_blk) ?_) | go_big_quiet_step (exact rfl))
    refine wpQuiet_nil ?_
    go_wp2_with (go_at_call 187; refine (masked_any _ K 92 HK.out).mono ?_; rintro e w9 ⟨v9, rfl, hown9, hb9⟩; obtain ⟨a9, c9, rfl, hac9, hc9⟩ := owns_form hown9)
    refine phPost_normal ⟨⟨⟨_, hk.below hb9⟩, rfl⟩, ?_⟩
    first | refine wpPh_cons ?_ | refine wpPh_nil ?_
    simp only [pickOps, List.flatMap_cons, List.flatMap_nil, List.drop_succ_cons, List.drop_zero, List.take_succ_cons, List.take_zero, List.cons_append, List.nil_append, List.append_nil]
    refine wpQuiet_nil ?_
    go_wp2_with (at_builtin; refine appB (W := w8.drew) rfl _ _ rfl _ (maskL 92 K) rfl hown9 _ S rfl ((hin.drew).below hb9 (by decide)) (by rw [length_maskL, HK.out, h32.out]; omega) hb9 ?_; intro v10 w10 hown10 hgr10 hb10)
    refine phPost_normal ⟨⟨⟨_, hk.below hb10⟩, rfl⟩, ?_⟩
    first | refine wpPh_cons ?_ | refine wpPh_nil ?_
    simp only [pickOps, List.flatMap_cons, List.flatMap_nil, List.drop_succ_cons, List.drop_zero, List.take_succ_cons, List.take_zero, List.cons_append, List.nil_append, List.append_nil]
    refine wpQuiet_nil ?_
    go_wp2_with (go_at_call 68; refine (Sum_any _ _ (maskL 92 K ++ S) (sees_of_owns hown10) (by rw [List.length_append, length_maskL, HK.out, h32.out]; omega)).mono ?_; rintro e w11 ⟨rfl, hb11⟩; have hb12 : Below w8.drew.heap.size w8.drew w11 := hb10.trans (hb11.mono hb10.size))
    refine phPost_normal ⟨⟨⟨_, hk.below hb12⟩, rfl⟩, ?_⟩
    first | refine wpPh_cons ?_ | refine wpPh_nil ?_
    simp only [pickOps, List.flatMap_cons, List.flatMap_nil, List.drop_succ_cons, List.drop_zero, List.take_succ_cons, List.take_zero, List.cons_append, List.nil_append, List.append_nil]
    refine wpQuiet_nil ?_
    have hR12 := Blk.below (w := w8.drew) hR0 hb12
    go_wp2_with (refine wpList_store_row rfl 24 _ _ rfl w.heap.size (keyA (sha (maskL 92 K ++ S))) _ _ rfl rfl hR12 (by rw [keyA_size, keyA_size, length_sha, List.length_replicate]) (by rw [keyA_size, length_sha]; exact info_key) (keyA_one _) ?_; intro w13 hg13 hs13 hR13)
    refine phPost_normal ⟨⟨⟨_, (hk.below hb12).grownBy hg13 (some_ne (by omega))⟩, rfl⟩, ?_⟩
    first | refine wpPh_cons ?_ | refine wpPh_nil ?_
    simp only [pickOps, List.flatMap_cons, List.flatMap_nil, List.drop_succ_cons, List.drop_zero, List.take_succ_cons, List.take_zero, List.cons_append, List.nil_append, List.append_nil]
    refine wpQuiet_nil ?_
    go_wp2_with fail
    refine bodyPost_ret (results_cell_row Tryz.results162 _ _ w.heap.size _ _ (0, 0) _ rfl hR13 under_key rfl (by rw [keyA_size, length_sha]; exact info_key)) rfl ⟨by rw [hF.out], ?_⟩
    have hbel9 : Below w.heap.size w w11 := hbel8.drew.trans (hb12.mono hbel8.size)
    exact hbel9.grown hg13 hbel9.size (fun k hk => by cases hk; exact Nat.le_refl _)
end Go.Proofs.YtbgnfioggmkdeaaGreatDoor
namespace Go.Proofs.YtbgnfioggmkdeaaGreatDoor
set_option linter.unusedVariables false
set_option linter.unusedSimpArgs false
open Go Go.RowKit

theorem ownB_blk {w : World} {B g : Nat} {l : List UInt8} (h : Blk w g (keyA l) 5) (hB : B ≤ g) (hm : l.length ≤ maxLen) : OwnB w B (.slice (some ⟨g, 0, none⟩) l.length l.length) l :=
  ⟨by simp, .inr ⟨g, l.length, keyA l, rfl, hB, h, Nat.le_refl _, hm, by simp [keyA], by rw [Nat.mul_one, keyA, List.take_of_length_le (by simp)]⟩⟩
def zeroB (n : Nat) : List UInt8 := List.replicate n 0
theorem length_zeroB (n : Nat) : (zeroB n).length = n := List.length_replicate ..
theorem run_make_bytes (n : Nat) (w : World) (hn : n ≤ 16777216) : (Instr.makeSlice 44 (.int .i64 n) (.int .i64 n)).run Tryz.prog w = .ok (.slice (some ⟨w.heap.size, 0, none⟩) n n) (w.alloc (.cells (keyA (zeroB n)) 5)) := by
  obtain ⟨i, hi, hz, hsize, hby⟩ := info_parts info_u8
  have h := run_makeSlice (P := Tryz.prog) w 44 5 i (.int .u8 0) Tryz.underlying44 hi hz .i64 .i64 n n (by omega) (Int.le_refl _) (by rw [hsize]; omega) (by rw [hby]; omega) (by omega)
  have e : madeCells (Value.int .u8 0).cells n = keyA (zeroB n) := by
    unfold madeCells keyA zeroB
    rw [List.map_replicate]
    apply Array.ext_getElem?
    intro j
    by_cases hj : j < n
    · simp [Value.cells, hj, Nat.mod_one]
    · simp [hj]
  rw [hsize, Nat.mul_one, Int.toNat_natCast, e] at h
  exact h
theorem arrB_zero64 : arrB 64 (fun _ => 0) = #[.int .u8 0, .int .u8 0, .int .u8 0, .int .u8 0, .int .u8 0, .int .u8 0, .int .u8 0, .int .u8 0, .int .u8 0, .int .u8 0, .int .u8 0, .int .u8 0, .int .u8 0, .int .u8 0, .int .u8 0, .int .u8 0, .int .u8 0, .int .u8 0, .int .u8 0, .int .u8 0, .int .u8 0, .int .u8 0, .int .u8 0, .int .u8 0, .int .u8 0, .int .u8 0, .int .u8 0, .int .u8 0, .int .u8 0, .int .u8 0, .int .u8 0, .int .u8 0, .int .u8 0, .int .u8 0, .int .u8 0, .int .u8 0, .int .u8 0, .int .u8 0, .int .u8 0, .int .u8 0, .int .u8 0, .int .u8 0, .int .u8 0, .int .u8 0, .int .u8 0, .int .u8 0, .int .u8 0, .int .u8 0, .int .u8 0, .int .u8 0, .int .u8 0, .int .u8 0, .int .u8 0, .int .u8 0, .int .u8 0, .int .u8 0, .int .u8 0, .int .u8 0, .int .u8 0, .int .u8 0, .int .u8 0, .int .u8 0, .int .u8 0, .int .u8 0] := by rfl
theorem arrB_key {n : Nat} {l : List UInt8} (h : l.length = n) : arrB n (fun j => l.getD j 0) = keyA l := by subst h; exact (keyA_arrB l).symm
theorem seesB_at {w : World} {a : Option Addr} {n c : Nat} {l : List UInt8} (h : SeesB w (.slice a n c) l) (hn : 0 < l.length) : ∃ b o, a = some ⟨b, o, none⟩ ∧ w.rangeAt b o (l.map BV) := by
  obtain ⟨hl, a', c', he, hc, hm, hnc, hb⟩ := h
  injection he with e1 _ _
  obtain ⟨b, o, rfl, hcell⟩ := hb hn
  exact ⟨b, o, e1, hcell⟩
def MacRel (u : World) (B : Nat) (K : List UInt8) (i : Value) (wr : World) : Prop :=
  ∃ n : Nat, n ≤ 64 ∧ i = .int .i64 n ∧ Blk wr B (arrB 64 (fun j => if j < n then K.getD j 0 ^^^ 54 else 0)) 5 ∧ Blk wr (B + 1) (arrB 64 (fun j => if j < n then K.getD j 0 ^^^ 92 else 0)) 5 ∧ Below u.heap.size u wr
theorem arrB_none (f : Nat → UInt8) : arrB 64 (fun j => if j < 0 then f j else 0) = keyA (zeroB 64) := by
  rw [← arrB_key (n := 64) (length_zeroB 64)]
  apply arrB_congr
  intro i hi
  rw [if_neg (by omega), List.getD_eq_getElem?_getD, zeroB, List.getElem?_replicate, if_pos hi]; rfl
theorem macK_getD {K l : List UInt8} (h : K = l ++ List.replicate (64 - l.length) 0) (j : Nat) (hj : j < 64) : K.getD j 0 = l.getD j 0 := by
  rw [h, List.getD_eq_getElem?_getD, List.getD_eq_getElem?_getD]
  by_cases hl : j < l.length
  · rw [List.getElem?_append_left hl]
  · rw [List.getElem?_append_right (by omega), List.getElem?_replicate, if_pos (by omega), List.getElem?_eq_none (by omega)]; rfl
theorem mac_start {u : World} {B : Nat} (K : List UInt8) (hus : u.heap.size = B) : MacRel u B K (.int .i64 0) ((u.alloc (.cells (keyA (zeroB 64)) 5)).alloc (.cells (keyA (zeroB 64)) 5)) := by
  subst hus
  refine ⟨0, by omega, rfl, ?_, ?_, by go_grown⟩
  · rw [arrB_none]; exact (Blk.new u _ _).alloc _
  · rw [arrB_none]; exact Blk.new2 u _ _ _
theorem mac_put {wr : World} {g n : Nat} {t : TypeId} {K : List UInt8} {m c : UInt8} (h : Blk wr g (arrB 64 (fun j => if j < n then K.getD j 0 ^^^ m else 0)) t) (hc : K.getD n 0 = c) :
    Blk (wr.setCell ⟨g, n, none⟩ (BV (c ^^^ m))) g (arrB 64 (fun j => if j < n + 1 then K.getD j 0 ^^^ m else 0)) t := by
  have := h.set n (BV (c ^^^ m))
  rw [← hc, arrB_step (f := fun j => K.getD j 0 ^^^ m)] at this
  rw [← hc]; exact this
theorem mac_step {u wr : World} {B n : Nat} {K : List UInt8} {c : UInt8} (hlt : n < 64) (hus : u.heap.size = B) (hc : K.getD n 0 = c) (hI : Blk wr B (arrB 64 (fun j => if j < n then K.getD j 0 ^^^ 54 else 0)) 5)
    (hO : Blk wr (B + 1) (arrB 64 (fun j => if j < n then K.getD j 0 ^^^ 92 else 0)) 5) (hb : Below u.heap.size u wr) {i : Value} (hi : i = .int .i64 (n + 1 : Nat)) :
    MacRel u B K i ((wr.setCell ⟨B, n, none⟩ (BV (c ^^^ 54))).setCell ⟨B + 1, n, none⟩ (BV (c ^^^ 92))) := by
  subst hus
  exact ⟨n + 1, by omega, hi, (mac_put hI hc).setCell _ _ (by simp), mac_put (hO.setCell _ _ (by simp)) hc, (hb.setCell (by simp) _).setCell (by simp) _⟩
theorem maskL_getD (m : UInt8) (K : List UInt8) (hK : K.length = 64) : arrB 64 (fun j => if j < 64 then K.getD j 0 ^^^ m else 0) = keyA (maskL m K) := by
  rw [← arrB_key (n := 64) (by rw [length_maskL, hK])]
  apply arrB_congr
  intro i hi
  rw [if_pos hi]
  simp [maskL, List.getD_eq_getElem?_getD, List.getElem?_eq_getElem (show i < K.length by omega)]



set_option maxRecDepth 100000 in
set_option maxHeartbeats 2000000 in
theorem Macr_any (w : World) (vk vb : Value) (key b : List UInt8) (hkv : SeesB w vk key) (hbv : SeesB w vb b) (hk1 : key.length ≤ 70368744170000) (hb1 : b.length ≤ 70368744170000) :
    Calls Tryz.prog 133 #[vk, vb] w fun e w' => e = .returned (.agg (keyA (mac key b))) ∧ Below w.heap.size w w' := by
  obtain ⟨a0, c0, rfl, hac0, hc0⟩ := sees_form hkv
  obtain ⟨a1, c1, rfl, hac1, hc1⟩ := sees_form hbv
  have HK := Lib.hid (length_macK key)
  by_cases h64 : 64 < key.length
  · have HM := Lib.hid (show macK key = sha key ++ List.replicate (64 - (sha key).length) 0 by unfold macK; rw [if_pos h64])
    generalize hKe : macK key = K at HK HM
    have HE := Lib.hid hKe; clear hKe
    have HS := Lib.hid (length_sha key)
    have hmk : ∀ W : World, (Instr.makeSlice 44 (.int .i64 64) (.int .i64 64)).run Tryz.prog W = .ok (.slice (some ⟨W.heap.size, 0, none⟩) 64 64) (W.alloc (.cells (keyA (zeroB 64)) 5)) := fun W => run_make_bytes 64 W (by decide)
    have hR0 : Blk (w.alloc (.cells (keyA (List.replicate 32 0)) 24)) w.heap.size (keyA (List.replicate 32 0)) 24 := Blk.new _ _ _
    have hbel0 : Below w.heap.size w (w.alloc (.cells (keyA (List.replicate 32 0)) 24)) := by go_grown
    have hsz0 := World.size_alloc w (.cells (keyA (List.replicate 32 0)) 24)
    rw [keyA_zero] at hR0 hbel0 hsz0
    rw [← keyA_zero] at hR0
    have HR0 := Lib.hid hR0; have HB0 := Lib.hid hbel0; have HZ0 := Lib.hid hsz0
    clear hR0 hbel0 hsz0
    go_enter Tryz.func133, Tryz.ntmps133
    go_wp2_with (first
      | (go_at_call 98; refine (Shar_any _ _ key (hkv.below HB0.out (by decide)) (by omega)).mono ?_; rintro e w1 ⟨rfl, hb1⟩)
      | (refine wpList_store_row rfl 24 _ _ rfl w1.heap.size (keyA (sha key)) _ _ rfl rfl (Blk.new _ _ _) (by rw [keyA_size, HS.out]; rfl) (by rw [keyA_size, HS.out]; exact info_key) (keyA_one _) ?_
         intro u hg2 hs2 hR2
         have hb2 := HB0.out.trans (hb1.mono (by rw [HZ0.out]; omega))
         have hR := ((HR0.out.below hb1).alloc (.cells #[.int .u8 0, .int .u8 0, .int .u8 0, .int .u8 0, .int .u8 0, .int .u8 0, .int .u8 0, .int .u8 0, .int .u8 0, .int .u8 0, .int .u8 0, .int .u8 0, .int .u8 0, .int .u8 0, .int .u8 0, .int .u8 0, .int .u8 0, .int .u8 0, .int .u8 0, .int .u8 0, .int .u8 0, .int .u8 0, .int .u8 0, .int .u8 0, .int .u8 0, .int .u8 0, .int .u8 0, .int .u8 0, .int .u8 0, .int .u8 0, .int .u8 0, .int .u8 0] 24)).grownBy hg2 (some_ne (by have := (HR0.out.below hb1).lt; omega))
         have hbel := (hb2.alloc hb2.size (.cells #[.int .u8 0, .int .u8 0, .int .u8 0, .int .u8 0, .int .u8 0, .int .u8 0, .int .u8 0, .int .u8 0, .int .u8 0, .int .u8 0, .int .u8 0, .int .u8 0, .int .u8 0, .int .u8 0, .int .u8 0, .int .u8 0, .int .u8 0, .int .u8 0, .int .u8 0, .int .u8 0, .int .u8 0, .int .u8 0, .int .u8 0, .int .u8 0, .int .u8 0, .int .u8 0, .int .u8 0, .int .u8 0, .int .u8 0, .int .u8 0, .int .u8 0, .int .u8 0] 24)).grown hg2 (by simp only [World.size_alloc]; exact Nat.le_succ_of_le hb2.size) (fun k hk => by cases hk; exact hb2.size)
         have hkl : SeesB u (.slice (some ⟨w1.heap.size, 0, none⟩) 32 32) (sha key) := by
           have h := sees_block hR2 1 (sha key).length (by rw [keyA_size, Nat.mul_one]) (by rw [length_sha]; decide)
           rw [length_sha] at h
           unfold SeesB; rw [length_sha]
           rwa [keyA, List.toList_toArray] at h
         have hus : u.heap.size = w1.heap.size + 1 := by rw [hs2, World.size_alloc]
         have hu1 : w.heap.size ≤ w1.heap.size := hb2.size
         clear hg2 hs2 hR2 hb1 hb2))
    have HG := Lib.hid (macK_getD HM.out)
    clear HM HR0 HB0 HZ0
    generalize sha key = S at *
    generalize w1.heap.size = B1 at *
    have hst := Lib.hid (mac_start K hus)
    go_loopw [8, 9] (fun i k wr => MacRel u (B1 + 1) K i wr) (fun i _ _ => 64 - (intOf i).toNat)
    case atStart => exact hst.out
    case round =>
      clear hst
      obtain ⟨n, hn, rfl, hI, hO, hb⟩ := hrel
      by_cases hlt : n < 64
      · have cI : wr.cell? ⟨B1 + 1, n, none⟩ = some (BV 0) := by rw [hI.cell, arrB_get _ _ _ hlt, if_neg (by omega)]
        have cO : wr.cell? ⟨B1 + 1 + 1, n, none⟩ = some (BV 0) := by rw [hO.cell, arrB_get _ _ _ hlt, if_neg (by omega)]
        have fI := hI.free n
        have fO := hO.free n
        by_cases hnk : n < 32
        · obtain ⟨kb, ko, hae, hkr⟩ := seesB_at (hkl.below hb (by decide)) (by first | omega | (rw [HS.out]; omega))
          have hck : wr.cell? ⟨kb, ko + n, none⟩ = some (BV (S[n]'(by first | omega | (rw [HS.out]; omega)))) := hkr n _ (by rw [List.getElem?_map, List.getElem?_eq_getElem (by first | omega | (rw [HS.out]; omega))]; rfl)
          cases hae
          try rw [Nat.zero_add] at hck
          have HC := Lib.hid (show K.getD n 0 = (S[n]'(by first | omega | (rw [HS.out]; omega))) by rw [HG.out n hlt, List.getD_eq_getElem?_getD, List.getElem?_eq_getElem (by first | omega | (rw [HS.out]; omega))]; rfl)
          clear hkr
          generalize (S[n]'(by first | omega | (rw [HS.out]; omega))) = c at *
          have hx1 : bits .xor .u8 (c.toNat : Int) 54 = ((c ^^^ 54).toNat : Int) := xor_u8 c 54
          have hx2 : bits .xor .u8 (c.toNat : Int) 92 = ((c ^^^ 92).toNat : Int) := xor_u8 c 92
          go_wp2_with fail
          go_roundw
          case rel => exact mac_step hlt hus HC.out hI hO hb (by go_num)
          case measure => simp [intOf]; omega
        · have HC := Lib.hid (show K.getD n 0 = 0 by rw [HG.out n hlt, List.getD_eq_getElem?_getD, List.getElem?_eq_none (by first | omega | (rw [HS.out]; omega))]; rfl)
          have hx1 : bits .xor .u8 0 54 = (((0 : UInt8) ^^^ 54).toNat : Int) := xor_u8 0 54
          have hx2 : bits .xor .u8 0 92 = (((0 : UInt8) ^^^ 92).toNat : Int) := xor_u8 0 92
          go_wp2_with fail
          go_roundw
          case rel => exact mac_step (c := 0) hlt hus HC.out hI hO hb (by go_num)
          case measure => simp [intOf]; omega
      · obtain rfl : n = 64 := by omega
        rw [maskL_getD 54 K HK.out] at hI
        rw [maskL_getD 92 K HK.out] at hO
        have hown : OwnB wr u.heap.size (.slice (some ⟨B1 + 1, 0, none⟩) 64 64) (maskL 54 K) := by
          have := ownB_blk (B := u.heap.size) hI (by omega) (by rw [length_maskL, HK.out]; decide)
          rwa [length_maskL, HK.out] at this
        have hbw := hbel.trans (hb.mono hbel.size)
        go_wp2_with (first
          | (at_builtin; refine appB (W := u) rfl _ _ rfl _ (maskL 54 K) rfl hown _ b rfl (hbv.below hbw (by decide)) (by rw [length_maskL, HK.out]; omega) hb ?_; intro v6 w6 hown6 hgr6 hb6; have hgo : wr.grownBy w6 (some (B1 + 1)) := hgr6; clear hgr6)
          | (go_at_call 98; refine (Shar_any _ _ (maskL 54 K ++ b) (sees_of_owns hown6) (by rw [List.length_append, length_maskL, HK.out]; omega)).mono ?_; rintro e w7 ⟨rfl, hb7⟩; have hbu7 := hb6.trans (hb7.mono hb6.size); have hO7 := (hO.grownBy hgo (some_ne (by omega))).below hb7)
          | (refine wpList_store_row rfl 24 _ _ rfl w7.heap.size (keyA (sha (maskL 54 K ++ b))) _ _ rfl rfl (Blk.new _ _ _) (by rw [keyA_size, length_sha]; rfl) (by rw [keyA_size, length_sha]; exact info_key) (keyA_one _) ?_
             intro w8 hg8 hs8 hR8
             have hbu8 : Below u.heap.size u w8 := (hbu7.alloc hbu7.size _).grown hg8 (by simp only [World.size_alloc]; exact Nat.le_succ_of_le hbu7.size) (fun k hk => by cases hk; exact hbu7.size)
             have hO8 := (hO7.alloc (.cells #[.int .u8 0, .int .u8 0, .int .u8 0, .int .u8 0, .int .u8 0, .int .u8 0, .int .u8 0, .int .u8 0, .int .u8 0, .int .u8 0, .int .u8 0, .int .u8 0, .int .u8 0, .int .u8 0, .int .u8 0, .int .u8 0, .int .u8 0, .int .u8 0, .int .u8 0, .int .u8 0, .int .u8 0, .int .u8 0, .int .u8 0, .int .u8 0, .int .u8 0, .int .u8 0, .int .u8 0, .int .u8 0, .int .u8 0, .int .u8 0, .int .u8 0, .int .u8 0] 24)).grownBy hg8 (some_ne (by have := hO7.lt; omega))
             have hin : SeesB w8 (.slice (some ⟨w7.heap.size, 0, none⟩) 32 32) (sha (maskL 54 K ++ b)) := by
               have h := sees_block hR8 1 (sha (maskL 54 K ++ b)).length (by rw [keyA_size, Nat.mul_one]) (by rw [length_sha]; decide)
               rw [length_sha] at h
               unfold SeesB; rw [length_sha]
               rwa [keyA, List.toList_toArray] at h
             have h32 := Lib.hid (length_sha (maskL 54 K ++ b))
             have hF := Lib.hid (show mac key b = sha (maskL 92 K ++ sha (maskL 54 K ++ b)) by rw [← HE.out]; rfl)
             clear hg8 hs8 hR8 hown6 hb6 hb7 hbu7 hO7 hgo hown hI hO
             generalize w7.heap.size = B7 at *
             generalize sha (maskL 54 K ++ b) = S2 at *
             have hown2 : OwnB w8 u.heap.size (.slice (some ⟨B1 + 1 + 1, 0, none⟩) 64 64) (maskL 92 K) := by
               have := ownB_blk (B := u.heap.size) hO8 (by omega) (by rw [length_maskL, HK.out]; decide)
               rwa [length_maskL, HK.out] at this)
          | (at_builtin; refine appB (W := u) rfl _ _ rfl _ (maskL 92 K) rfl hown2 _ S2 rfl hin (by rw [length_maskL, HK.out, h32.out]; omega) hbu8 ?_; intro v10 w10 hown10 hgr10 hb10; clear hgr10)
          | (go_at_call 98; refine (Shar_any _ _ (maskL 92 K ++ S2) (sees_of_owns hown10) (by rw [List.length_append, length_maskL, HK.out, h32.out]; omega)).mono ?_; rintro e w11 ⟨rfl, hb11⟩; have hb12 := hb10.trans (hb11.mono hb10.size); have hR12 := hR.below hb12)
          | (refine wpList_store_row rfl 24 _ _ rfl w.heap.size (keyA (sha (maskL 92 K ++ S2))) _ _ rfl rfl hR12 (by rw [keyA_size, keyA_size, length_sha, List.length_replicate]) (by rw [keyA_size, length_sha]; exact info_key) (keyA_one _) ?_; intro w13 hg13 hs13 hR13))
        have hbel9 := hbel.trans (hb12.mono hbel.size)
        refine bodyPost_ret (results_cell_row Tryz.results133 _ _ w.heap.size _ _ (0, 0) _ rfl hR13 under_key rfl (by rw [keyA_size, length_sha]; exact info_key)) rfl ⟨by rw [hF.out], ?_⟩
        exact hbel9.grown hg13 hbel9.size (fun k hk => by cases hk; exact Nat.le_refl _)
  · have HM := Lib.hid (show macK key = key ++ List.replicate (64 - key.length) 0 by unfold macK; rw [if_neg h64])
    generalize hKe : macK key = K at HK HM
    have HE := Lib.hid hKe; clear hKe
    have hmk : ∀ W : World, (Instr.makeSlice 44 (.int .i64 64) (.int .i64 64)).run Tryz.prog W = .ok (.slice (some ⟨W.heap.size, 0, none⟩) 64 64) (W.alloc (.cells (keyA (zeroB 64)) 5)) := fun W => run_make_bytes 64 W (by decide)
    go_enter Tryz.func133, Tryz.ntmps133
    go_wp2_with fail
    generalize hW0 : World.alloc w _ = u
    have hus : u.heap.size = w.heap.size + 1 := by rw [← hW0]; exact World.size_alloc _ _
    have hR : Blk u w.heap.size (keyA (List.replicate 32 0)) 24 := by rw [← hW0, keyA_zero]; exact Blk.new _ _ _
    have hbel : Below w.heap.size w u := by rw [← hW0]; go_grown
    have hkl : SeesB u (.slice a0 key.length c0) key := hkv.below hbel (by decide)
    have HG := Lib.hid (macK_getD HM.out)
    clear hW0 HM hkv
    have hst := Lib.hid (mac_start K hus)
    go_loopw [8, 9] (fun i k wr => MacRel u (w.heap.size + 1) K i wr) (fun i _ _ => 64 - (intOf i).toNat)
    case atStart => exact hst.out
    case round =>
      clear hst
      obtain ⟨n, hn, rfl, hI, hO, hb⟩ := hrel
      by_cases hlt : n < 64
      · have cI : wr.cell? ⟨w.heap.size + 1, n, none⟩ = some (BV 0) := by rw [hI.cell, arrB_get _ _ _ hlt, if_neg (by omega)]
        have cO : wr.cell? ⟨w.heap.size + 1 + 1, n, none⟩ = some (BV 0) := by rw [hO.cell, arrB_get _ _ _ hlt, if_neg (by omega)]
        have fI := hI.free n
        have fO := hO.free n
        by_cases hnk : n < key.length
        · obtain ⟨kb, ko, hae, hkr⟩ := seesB_at (hkl.below hb (by decide)) (by first | omega | (rw [HS.out]; omega))
          have hck : wr.cell? ⟨kb, ko + n, none⟩ = some (BV (key[n]'(by first | omega | (rw [HS.out]; omega)))) := hkr n _ (by rw [List.getElem?_map, List.getElem?_eq_getElem (by first | omega | (rw [HS.out]; omega))]; rfl)
          cases hae
          try rw [Nat.zero_add] at hck
          have HC := Lib.hid (show K.getD n 0 = (key[n]'(by first | omega | (rw [HS.out]; omega))) by rw [HG.out n hlt, List.getD_eq_getElem?_getD, List.getElem?_eq_getElem (by first | omega | (rw [HS.out]; omega))]; rfl)
          clear hkr
          generalize (key[n]'(by first | omega | (rw [HS.out]; omega))) = c at *
          have hx1 : bits .xor .u8 (c.toNat : Int) 54 = ((c ^^^ 54).toNat : Int) := xor_u8 c 54
          have hx2 : bits .xor .u8 (c.toNat : Int) 92 = ((c ^^^ 92).toNat : Int) := xor_u8 c 92
          go_wp2_with fail
          go_roundw
          case rel => exact mac_step hlt hus HC.out hI hO hb (by go_num)
          case measure => simp [intOf]; omega
        · have HC := Lib.hid (show K.getD n 0 = 0 by rw [HG.out n hlt, List.getD_eq_getElem?_getD, List.getElem?_eq_none (by first | omega | (rw [HS.out]; omega))]; rfl)
          have hx1 : bits .xor .u8 0 54 = (((0 : UInt8) ^^^ 54).toNat : Int) := xor_u8 0 54
          have hx2 : bits .xor .u8 0 92 = (((0 : UInt8) ^^^ 92).toNat : Int) := xor_u8 0 92
          go_wp2_with fail
          go_roundw
          case rel => exact mac_step (c := 0) hlt hus HC.out hI hO hb (by go_num)
          case measure => simp [intOf]; omega
      · obtain rfl : n = 64 := by omega
        rw [maskL_getD 54 K HK.out] at hI
        rw [maskL_getD 92 K HK.out] at hO
        have hown : OwnB wr u.heap.size (.slice (some ⟨w.heap.size + 1, 0, none⟩) 64 64) (maskL 54 K) := by
          have := ownB_blk (B := u.heap.size) hI (by omega) (by rw [length_maskL, HK.out]; decide)
          rwa [length_maskL, HK.out] at this
        have hbw := hbel.trans (hb.mono hbel.size)
        go_wp2_with (first
          | (at_builtin; refine appB (W := u) rfl _ _ rfl _ (maskL 54 K) rfl hown _ b rfl (hbv.below hbw (by decide)) (by rw [length_maskL, HK.out]; omega) hb ?_; intro v6 w6 hown6 hgr6 hb6; have hgo : wr.grownBy w6 (some (w.heap.size + 1)) := hgr6; clear hgr6)
          | (go_at_call 98; refine (Shar_any _ _ (maskL 54 K ++ b) (sees_of_owns hown6) (by rw [List.length_append, length_maskL, HK.out]; omega)).mono ?_; rintro e w7 ⟨rfl, hb7⟩; have hbu7 := hb6.trans (hb7.mono hb6.size); have hO7 := (hO.grownBy hgo (some_ne (by omega))).below hb7)
          | (refine wpList_store_row rfl 24 _ _ rfl w7.heap.size (keyA (sha (maskL 54 K ++ b))) _ _ rfl rfl (Blk.new _ _ _) (by rw [keyA_size, length_sha]; rfl) (by rw [keyA_size, length_sha]; exact info_key) (keyA_one _) ?_
             intro w8 hg8 hs8 hR8
             have hbu8 : Below u.heap.size u w8 := (hbu7.alloc hbu7.size _).grown hg8 (by simp only [World.size_alloc]; exact Nat.le_succ_of_le hbu7.size) (fun k hk => by cases hk; exact hbu7.size)
             have hO8 := (hO7.alloc (.cells #[.int .u8 0, .int .u8 0, .int .u8 0, .int .u8 0, .int .u8 0, .int .u8 0, .int .u8 0, .int .u8 0, .int .u8 0, .int .u8 0, .int .u8 0, .int .u8 0, .int .u8 0, .int .u8 0, .int .u8 0, .int .u8 0, .int .u8 0, .int .u8 0, .int .u8 0, .int .u8 0, .int .u8 0, .int .u8 0, .int .u8 0, .int .u8 0, .int .u8 0, .int .u8 0, .int .u8 0, .int .u8 0, .int .u8 0, .int .u8 0, .int .u8 0, .int .u8 0] 24)).grownBy hg8 (some_ne (by have := hO7.lt; omega))
             have hin : SeesB w8 (.slice (some ⟨w7.heap.size, 0, none⟩) 32 32) (sha (maskL 54 K ++ b)) := by
               have h := sees_block hR8 1 (sha (maskL 54 K ++ b)).length (by rw [keyA_size, Nat.mul_one]) (by rw [length_sha]; decide)
               rw [length_sha] at h
               unfold SeesB; rw [length_sha]
               rwa [keyA, List.toList_toArray] at h
             have h32 := Lib.hid (length_sha (maskL 54 K ++ b))
             have hF := Lib.hid (show mac key b = sha (maskL 92 K ++ sha (maskL 54 K ++ b)) by rw [← HE.out]; rfl)
             clear hg8 hs8 hR8 hown6 hb6 hb7 hbu7 hO7 hgo hown hI hO
             generalize w7.heap.size = B7 at *
             generalize sha (maskL 54 K ++ b) = S2 at *
             have hown2 : OwnB w8 u.heap.size (.slice (some ⟨w.heap.size + 1 + 1, 0, none⟩) 64 64) (maskL 92 K) := by
               have := ownB_blk (B := u.heap.size) hO8 (by omega) (by rw [length_maskL, HK.out]; decide)
               rwa [length_maskL, HK.out] at this)
          | (at_builtin; refine appB (W := u) rfl _ _ rfl _ (maskL 92 K) rfl hown2 _ S2 rfl hin (by rw [length_maskL, HK.out, h32.out]; omega) hbu8 ?_; intro v10 w10 hown10 hgr10 hb10; clear hgr10)
          | (go_at_call 98; refine (Shar_any _ _ (maskL 92 K ++ S2) (sees_of_owns hown10) (by rw [List.length_append, length_maskL, HK.out, h32.out]; omega)).mono ?_; rintro e w11 ⟨rfl, hb11⟩; have hb12 := hb10.trans (hb11.mono hb10.size); have hR12 := hR.below hb12)
          | (refine wpList_store_row rfl 24 _ _ rfl w.heap.size (keyA (sha (maskL 92 K ++ S2))) _ _ rfl rfl hR12 (by rw [keyA_size, keyA_size, length_sha, List.length_replicate]) (by rw [keyA_size, length_sha]; exact info_key) (keyA_one _) ?_; intro w13 hg13 hs13 hR13))
        have hbel9 := hbel.trans (hb12.mono hbel.size)
        refine bodyPost_ret (results_cell_row Tryz.results133 _ _ w.heap.size _ _ (0, 0) _ rfl hR13 under_key rfl (by rw [keyA_size, length_sha]; exact info_key)) rfl ⟨by rw [hF.out], ?_⟩
        exact hbel9.grown hg13 hbel9.size (fun k hk => by cases hk; exact Nat.le_refl _)
end Go.Proofs.YtbgnfioggmkdeaaGreatDoor
namespace Go.Proofs.YtbgnfioggmkdeaaGreatDoor
set_option linter.unusedVariables false
set_option linter.unusedSimpArgs false
open Go Go.RowKit

def sigS : List UInt8 := [115, 105, 103, 110]
def sigC (pub t : Int) (b : List UInt8) : Int := ofN (parts [sigS, put64 pub.toNat, put64 t.toNat, b])
theorem sigC_pos (pub t : Int) (b : List UInt8) : 0 ≤ sigC pub t b ∧ sigC pub t b < 2305843009213693950 := ofN_pos _
def nameL (pub : Int) : List UInt8 := sha (put64 pub.toNat)
theorem length_nameL (pub : Int) : (nameL pub).length = 32 := length_sha _
def sigD (secret : Int) (b : List UInt8) : Int := ofN (mac (put64 secret.toNat) b)
theorem sigD_pos (secret : Int) (b : List UInt8) : 0 ≤ sigD secret b ∧ sigD secret b < 2305843009213693950 := ofN_pos _
def signC (secret : Int) (b : List UInt8) : Int := sigC (timesP 37 secret) (timesP 37 (sigD secret b)) b
def signS (secret : Int) (b : List UInt8) : Int := ansP (signC secret b) secret (sigD secret b)
theorem signC_pos (secret : Int) (b : List UInt8) : 0 ≤ signC secret b ∧ signC secret b < 2305843009213693950 := ofN_pos _
theorem signS_pos (secret : Int) (b : List UInt8) : 0 ≤ signS secret b ∧ signS secret b < 2305843009213693950 := ansP_pos _ _ _
def signOk (pub : Int) (b : List UInt8) (c s : Int) : Prop := okP pub ∧ smallP c s ∧ sigC pub (backP 37 pub c s) b = c
instance (pub : Int) (b : List UInt8) (c s : Int) : Decidable (signOk pub b c s) := by unfold signOk; infer_instance

theorem seesBB_new {w : World} (us : List Value) (t : TypeId) (ll : List (List UInt8)) (hl : us.length = ll.length) (hm : ll.length ≤ 1000) (h : ∀ (i : Nat) (l : List UInt8) (u : Value), ll[i]? = some l → us[i]? = some u → SeesB w u l) :
    SeesBB (w.alloc (.cells us.toArray t)) (.slice (some ⟨w.heap.size, 0, none⟩) ll.length ll.length) ll :=
  ⟨us, by have := sees_new w 1 us.toArray t ll.length (by simp [hl]) (by unfold maxLen; omega); simpa using this, fun i l u h1 h2 => (h i l u h1 h2).alloc (by decide) _⟩
theorem seesBB_4 {w : World} {u1 u2 u3 u4 : Value} {l1 l2 l3 l4 : List UInt8} (t : TypeId) (h1 : SeesB w u1 l1) (h2 : SeesB w u2 l2) (h3 : SeesB w u3 l3) (h4 : SeesB w u4 l4) :
    SeesBB (w.alloc (.cells #[u1, u2, u3, u4] t)) (.slice (some ⟨w.heap.size, 0, none⟩) 4 4) [l1, l2, l3, l4] :=
  seesBB_new [u1, u2, u3, u4] t [l1, l2, l3, l4] rfl (by show 4 ≤ 1000; decide) (fun i l u hl hu => by
    match i with
    | 0 => cases hl; cases hu; exact h1
    | 1 => cases hl; cases hu; exact h2
    | 2 => cases hl; cases hu; exact h3
    | 3 => cases hl; cases hu; exact h4
    | n + 4 => simp at hl)
theorem seesB_key {w : World} {g : Nat} {l : List UInt8} {t : TypeId} (h : Blk w g (keyA l) t) (h32 : l.length = 32) : SeesB w (.slice (some ⟨g, 0, none⟩) 32 32) l := by
  have h1 := sees_block h 1 l.length (by rw [keyA_size, Nat.mul_one]) (by rw [h32]; decide)
  rw [h32] at h1
  unfold SeesB; rw [h32]
  rwa [keyA, List.toList_toArray] at h1

theorem seesB_litF (w : World) (cs : List Value) (t : TypeId) (fr : Nat × Nat) (l : List UInt8) (n : Nat) (h : cs = l.map BV) (hn : n = l.length) (hm : n ≤ maxLen) : SeesB (w.alloc (.cells cs.toArray t fr)) (.slice (some ⟨w.heap.size, 0, none⟩) n n) l := by
  subst h; subst hn
  have := sees_block (heap_alloc_new w (.cells (l.map BV).toArray t fr)) 1 l.length (by simp) hm
  simpa using this
theorem conv4 (a b c d : Int) (W : World) : (convert 44 44 (.slice (some ⟨W.heap.size, 0, none⟩) 4 4)).run Tryz.prog (W.alloc (.cells #[.int .u8 a, .int .u8 b, .int .u8 c, .int .u8 d] 5)) = .ok (.slice (some ⟨W.heap.size, 0, none⟩) 4 4) (W.alloc (.cells #[.int .u8 a, .int .u8 b, .int .u8 c, .int .u8 d] 5 (4, 5))) :=
  Lib.run_convert_bytes_const W 44 5 #[.int .u8 a, .int .u8 b, .int .u8 c, .int .u8 d] 4 4 u_bytes u_byte
set_option maxRecDepth 100000 in
set_option maxHeartbeats 1000000 in
theorem Name_any (pub : Int) (w : World) (hp : in64 pub) :
    Calls Tryz.prog 43 #[.int .u64 pub] w fun e w' => e = .returned (.agg (keyA (nameL pub))) ∧ Below w.heap.size w w' := by
  obtain ⟨p0, p1⟩ := hp
  have hR0 : Blk (w.alloc (.cells (keyA (List.replicate 32 0)) 24)) w.heap.size (keyA (List.replicate 32 0)) 24 := Blk.new _ _ _
  have hbel0 : Below w.heap.size w (w.alloc (.cells (keyA (List.replicate 32 0)) 24)) := by go_grown
  rw [keyA_zero] at hR0 hbel0
  rw [← keyA_zero] at hR0
  have HR0 := Lib.hid hR0; have HB0 := Lib.hid hbel0
  clear hR0 hbel0
  go_enter Tryz.func43, Tryz.ntmps43
  go_wp2_with (first
    | (go_at_call 69; refine (Bytes_any _ _ (by omega) (by omega)).mono ?_; rintro e w1 ⟨v1, rfl, hown1, hb1⟩; have hR1 := HR0.out.below hb1; have hbel1 := HB0.out.trans (hb1.mono HB0.out.size))
    | (go_at_call 68; refine (Sum_any _ _ (put64 pub.toNat) (sees_of_owns hown1) (by rw [length_put64]; decide)).mono ?_; rintro e w2 ⟨rfl, hb2⟩; have hR2 := hR1.below hb2; have hbel2 := hbel1.trans (hb2.mono hbel1.size))
    | (refine wpList_store_row rfl 24 _ _ rfl w.heap.size (keyA (sha (put64 pub.toNat))) _ _ rfl rfl hR2 (by rw [keyA_size, keyA_size, length_sha, List.length_replicate]) (by rw [keyA_size, length_sha]; exact info_key) (keyA_one _) ?_; intro w3 hg3 hs3 hR3))
  refine bodyPost_ret (results_cell_row Tryz.results43 _ _ w.heap.size _ _ (0, 0) _ rfl hR3 under_key rfl (by rw [keyA_size, length_sha]; exact info_key)) rfl ⟨rfl, hbel2.grown hg3 hbel2.size (fun k hk => by cases hk; exact Nat.le_refl _)⟩
set_option maxRecDepth 100000 in
set_option maxHeartbeats 1000000 in
theorem Namer_any (pub : Int) (w : World) (hp : in64 pub) :
    Calls Tryz.prog 58 #[.int .u64 pub] w fun e w' => e = .returned (.agg (keyA (nameL pub))) ∧ Below w.heap.size w w' := by
  obtain ⟨p0, p1⟩ := hp
  have hR0 : Blk (w.alloc (.cells (keyA (List.replicate 32 0)) 24)) w.heap.size (keyA (List.replicate 32 0)) 24 := Blk.new _ _ _
  have hbel0 : Below w.heap.size w (w.alloc (.cells (keyA (List.replicate 32 0)) 24)) := by go_grown
  rw [keyA_zero] at hR0 hbel0
  rw [← keyA_zero] at hR0
  have HR0 := Lib.hid hR0; have HB0 := Lib.hid hbel0
  clear hR0 hbel0
  go_enter Tryz.func58, Tryz.ntmps58
  go_wp2_with (first
    | (go_at_call 83; refine (Bytesr_any _ _ (by omega) (by omega)).mono ?_; rintro e w1 ⟨v1, rfl, hown1, hb1⟩; have hR1 := HR0.out.below hb1; have hbel1 := HB0.out.trans (hb1.mono HB0.out.size))
    | (go_at_call 98; refine (Shar_any _ _ (put64 pub.toNat) (sees_of_owns hown1) (by rw [length_put64]; decide)).mono ?_; rintro e w2 ⟨rfl, hb2⟩; have hR2 := hR1.below hb2; have hbel2 := hbel1.trans (hb2.mono hbel1.size))
    | (refine wpList_store_row rfl 24 _ _ rfl w.heap.size (keyA (sha (put64 pub.toNat))) _ _ rfl rfl hR2 (by rw [keyA_size, keyA_size, length_sha, List.length_replicate]) (by rw [keyA_size, length_sha]; exact info_key) (keyA_one _) ?_; intro w3 hg3 hs3 hR3))
  refine bodyPost_ret (results_cell_row Tryz.results58 _ _ w.heap.size _ _ (0, 0) _ rfl hR3 under_key rfl (by rw [keyA_size, length_sha]; exact info_key)) rfl ⟨rfl, hbel2.grown hg3 hbel2.size (fun k hk => by cases hk; exact Nat.le_refl _)⟩

set_option maxRecDepth 100000 in
set_option maxHeartbeats 1000000 in
theorem sigC_any (pub t : Int) (b : List UInt8) (v : Value) (w : World) (hp : in64 pub) (ht : in64 t) (hv : SeesB w v b) (hl : b.length ≤ 70368744170000) :
    Calls Tryz.prog 194 #[.int .u64 pub, .int .u64 t, v] w fun e w' => e = .returned (.int .u64 (sigC pub t b)) ∧ Below w.heap.size w w' := by
  obtain ⟨p0, p1⟩ := hp; obtain ⟨t0, t1⟩ := ht
  obtain ⟨a0, c0, rfl, hac0, hc0⟩ := sees_form hv
  have HS := Lib.hid (show sigC pub t b = ofN (parts [sigS, put64 pub.toNat, put64 t.toNat, b]) from rfl)
  have HFL : Hid ((flatP [sigS, put64 pub.toNat, put64 t.toNat, b]).length ≤ 70368744177000) := by
    show _ ≤ _
    simp only [flatP, List.flatMap_cons, List.flatMap_nil, List.length_append, length_put64, List.length_nil]
    have : sigS.length = 4 := rfl
    omega
  have hsg := Lib.hid (seesB_litF w [BV 115, BV 105, BV 103, BV 110] 5 (4, 5) sigS 4 rfl rfl (by decide))
  have hb0 := Lib.hid (show Below w.heap.size w (w.alloc (.cells #[BV 115, BV 105, BV 103, BV 110] 5 (4, 5))) by go_grown)
  have hcv := fun W : World => conv4 115 105 103 110 W
  generalize sigC pub t b = C at *
  go_enter Tryz.func194, Tryz.ntmps194
  go_wp2_with (first
    | (go_at_call 69; refine (Bytes_any pub _ (by omega) (by omega)).mono ?_; rintro e w1 ⟨v1, rfl, hown1, hb1⟩; obtain ⟨a1, c1, rfl, hac1, hc1⟩ := owns_form hown1
       have hsg1 := hsg.out.below hb1 (by decide)
       have hbel1 := hb0.out.trans (hb1.mono hb0.out.size))
    | (go_at_call 69; refine (Bytes_any t _ (by omega) (by omega)).mono ?_; rintro e w2 ⟨v2, rfl, hown2, hb2⟩; obtain ⟨a2, c2, rfl, hac2, hc2⟩ := owns_form hown2
       have hsg2 := hsg1.below hb2 (by decide)
       have hp2 := (sees_of_owns hown1).below hb2 (by decide)
       have hbel2 := hbel1.trans (hb2.mono hbel1.size))
    | (go_at_call 157; refine (Parts_any _ _ [sigS, put64 pub.toNat, put64 t.toNat, b] (seesBB_4 _ hsg2 hp2 (sees_of_owns hown2) (hv.below hbel2 (by decide))) HFL.out).mono ?_; rintro e w5 ⟨rfl, hb5⟩
       have hbel5 := (hbel2.alloc hbel2.size (.cells _ _)).trans (hb5.mono (by simp only [World.size_alloc]; exact Nat.le_succ_of_le hbel2.size)))
    | (refine wpList_store_row rfl 24 _ _ rfl w5.heap.size (keyA (parts [sigS, put64 pub.toNat, put64 t.toNat, b])) _ _ rfl rfl (Blk.new _ _ _) (by rw [keyA_size, length_parts]; rfl) (by rw [keyA_size, length_parts]; exact info_key) (keyA_one _) ?_; intro w7 hg7 hs7 hR7
       have hsee := seesB_key hR7 (length_parts _)
       have hbel7 : Below w.heap.size w w7 := (hbel5.alloc hbel5.size _).grown hg7 (by simp only [World.size_alloc]; exact Nat.le_succ_of_le hbel5.size) (fun k hk => by cases hk; exact hbel5.size))
    | (go_at_call 193; refine (Of_any _ _ (parts [sigS, put64 pub.toNat, put64 t.toNat, b]) hsee (by rw [length_parts]; decide)).mono ?_; rintro e w8 ⟨rfl, n8, rfl⟩))
  go_ret
  exact ⟨ret_u64 HS.out.symm, below_drewN hbel7 _⟩
set_option maxRecDepth 100000 in
set_option maxHeartbeats 1000000 in
theorem sigCr_any (pub t : Int) (b : List UInt8) (v : Value) (w : World) (hp : in64 pub) (ht : in64 t) (hv : SeesB w v b) (hl : b.length ≤ 70368744170000) :
    Calls Tryz.prog 178 #[.int .u64 pub, .int .u64 t, v] w fun e w' => e = .returned (.int .u64 (sigC pub t b)) ∧ Below w.heap.size w w' := by
  obtain ⟨p0, p1⟩ := hp; obtain ⟨t0, t1⟩ := ht
  obtain ⟨a0, c0, rfl, hac0, hc0⟩ := sees_form hv
  have HS := Lib.hid (show sigC pub t b = ofN (parts [sigS, put64 pub.toNat, put64 t.toNat, b]) from rfl)
  have HFL : Hid ((flatP [sigS, put64 pub.toNat, put64 t.toNat, b]).length ≤ 70368744177000) := by
    show _ ≤ _
    simp only [flatP, List.flatMap_cons, List.flatMap_nil, List.length_append, length_put64, List.length_nil]
    have : sigS.length = 4 := rfl
    omega
  have hsg := Lib.hid (seesB_litF w [BV 115, BV 105, BV 103, BV 110] 5 (4, 5) sigS 4 rfl rfl (by decide))
  have hb0 := Lib.hid (show Below w.heap.size w (w.alloc (.cells #[BV 115, BV 105, BV 103, BV 110] 5 (4, 5))) by go_grown)
  have hcv := fun W : World => conv4 115 105 103 110 W
  generalize sigC pub t b = C at *
  go_enter Tryz.func178, Tryz.ntmps178
  go_wp2_with (first
    | (go_at_call 83; refine (Bytesr_any pub _ (by omega) (by omega)).mono ?_; rintro e w1 ⟨v1, rfl, hown1, hb1⟩; obtain ⟨a1, c1, rfl, hac1, hc1⟩ := owns_form hown1
       have hsg1 := hsg.out.below hb1 (by decide)
       have hbel1 := hb0.out.trans (hb1.mono hb0.out.size))
    | (go_at_call 83; refine (Bytesr_any t _ (by omega) (by omega)).mono ?_; rintro e w2 ⟨v2, rfl, hown2, hb2⟩; obtain ⟨a2, c2, rfl, hac2, hc2⟩ := owns_form hown2
       have hsg2 := hsg1.below hb2 (by decide)
       have hp2 := (sees_of_owns hown1).below hb2 (by decide)
       have hbel2 := hbel1.trans (hb2.mono hbel1.size))
    | (go_at_call 102; refine (Partsr_any _ _ [sigS, put64 pub.toNat, put64 t.toNat, b] (seesBB_4 _ hsg2 hp2 (sees_of_owns hown2) (hv.below hbel2 (by decide))) HFL.out).mono ?_; rintro e w5 ⟨rfl, hb5⟩
       have hbel5 := (hbel2.alloc hbel2.size (.cells _ _)).trans (hb5.mono (by simp only [World.size_alloc]; exact Nat.le_succ_of_le hbel2.size)))
    | (refine wpList_store_row rfl 24 _ _ rfl w5.heap.size (keyA (parts [sigS, put64 pub.toNat, put64 t.toNat, b])) _ _ rfl rfl (Blk.new _ _ _) (by rw [keyA_size, length_parts]; rfl) (by rw [keyA_size, length_parts]; exact info_key) (keyA_one _) ?_; intro w7 hg7 hs7 hR7
       have hsee := seesB_key hR7 (length_parts _)
       have hbel7 : Below w.heap.size w w7 := (hbel5.alloc hbel5.size _).grown hg7 (by simp only [World.size_alloc]; exact Nat.le_succ_of_le hbel5.size) (fun k hk => by cases hk; exact hbel5.size))
    | (go_at_call 177; refine (OfN_any _ _ (parts [sigS, put64 pub.toNat, put64 t.toNat, b]) hsee (by rw [length_parts]; decide)).mono ?_; rintro e w8 ⟨rfl, n8, rfl⟩))
  go_ret
  exact ⟨ret_u64 HS.out.symm, below_drewN hbel7 _⟩
end Go.Proofs.YtbgnfioggmkdeaaGreatDoor
namespace Go.Proofs.YtbgnfioggmkdeaaGreatDoor
set_option linter.unusedVariables false
set_option linter.unusedSimpArgs false
open Go Go.RowKit

theorem Public_any (e : Int) (w : World) (he0 : 0 ≤ e) (he : e < 18446744073709551616) :
    Calls Tryz.prog 48 #[.int .u64 e] w fun e_ w' => e_ = .returned (.int .u64 (timesP 37 e)) ∧ w = w' := by
  go_enter Tryz.func48, Tryz.ntmps48
  go_wp2_with (go_at_call 79; refine (Base_any _ _ (by omega) (by omega)).mono ?_; rintro e_ w' ⟨rfl, rfl⟩)
  go_ret
  exact ⟨rfl, rfl⟩

set_option maxRecDepth 100000 in
set_option maxHeartbeats 1000000 in
theorem Sign_any (x : Int) (b : List UInt8) (v : Value) (w : World) (hx : in64 x) (hv : SeesB w v b) (hl : b.length ≤ 70368744170000) :
    Calls Tryz.prog 170 #[.int .u64 x, v] w fun e w' => e = .returned (PV (signC x b) (signS x b)) ∧ Below w.heap.size w w' := by
  obtain ⟨x0, x1⟩ := hx
  obtain ⟨a0, c0, rfl, hac0, hc0⟩ := sees_form hv
  obtain ⟨d0, d1⟩ := sigD_pos x b
  have HD := Lib.hid (show sigD x b = ofN (mac (put64 x.toNat) b) from rfl)
  have HC0 : signC x b = sigC (timesP 37 x) (timesP 37 (sigD x b)) b := rfl
  have HS0 : signS x b = ansP (signC x b) x (sigD x b) := rfl
  obtain ⟨e0, e1⟩ := signC_pos x b
  obtain ⟨f0, f1⟩ := timesP_pos 37 x
  obtain ⟨g0, g1⟩ := timesP_pos 37 (sigD x b)
  generalize sigD x b = D at *
  generalize signS x b = S at *
  generalize signC x b = C at *
  have HC := Lib.hid HC0; have HS := Lib.hid HS0; clear HC0 HS0
  have hR0 := Lib.hid (Blk.new w #[.int .u64 0, .int .u64 0] 48)
  have hB0 := Lib.hid (show Below w.heap.size w (w.alloc (.cells #[.int .u64 0, .int .u64 0] 48)) by go_grown)
  go_enter Tryz.func170, Tryz.ntmps170
  go_wp2_with (first
    | (go_at_call 110; refine (Put64_any _ _ [] _ (Sees.nil _ _) (by omega) (by omega) (by simp)).mono ?_; rintro e w1 ⟨v1, rfl, hown1, hb1⟩; obtain ⟨a1, c1, rfl, hac1, hc1⟩ := owns_form hown1
       have hR1 := hR0.out.below hb1
       have hbel1 := hB0.out.trans (hb1.mono hB0.out.size))
    | (go_at_call 162; refine (MacOf_any _ _ _ (put64 x.toNat) b (sees_of_owns hown1) (hv.below hbel1 (by decide)) (by rw [length_put64]; decide) hl).mono ?_; rintro e w2 ⟨rfl, hb2⟩
       have hR2 := hR1.below hb2
       have hbel2 := hbel1.trans (hb2.mono hbel1.size))
    | (refine wpList_store_row rfl 24 _ _ rfl w2.heap.size (keyA (mac (put64 x.toNat) b)) _ _ rfl rfl (Blk.new _ _ _) (by rw [keyA_size, length_mac]; rfl) (by rw [keyA_size, length_mac]; exact info_key) (keyA_one _) ?_; intro w3 hg3 hs3 hK3
       have hsee := seesB_key hK3 (length_mac _ _)
       have hR3 := (hR2.alloc (.cells _ _)).grownBy hg3 (some_ne (by have := hR2.lt; omega))
       have hbel3 : Below w.heap.size w w3 := (hbel2.alloc hbel2.size _).grown hg3 (by simp only [World.size_alloc]; exact Nat.le_succ_of_le hbel2.size) (fun k hk => by cases hk; exact hbel2.size))
    | (go_at_call 193; refine (Of_any _ _ (mac (put64 x.toNat) b) hsee (by rw [length_mac]; decide)).mono ?_; rintro e w4 ⟨rfl, n4, rfl⟩; rw [← HD.out])
    | (go_at_call 48; refine (Public_any x _ (by omega) (by omega)).mono ?_; rintro e w5 ⟨rfl, rfl⟩)
    | (go_at_call 79; refine (Base_any D _ (by omega) (by omega)).mono ?_; rintro e w5 ⟨rfl, rfl⟩)
    | (go_at_call 194; refine (sigC_any _ _ b _ _ ⟨by omega, by omega⟩ ⟨by omega, by omega⟩ ((hv.below hbel3 (by decide)).drewN n4) hl).mono ?_; rintro e w6 ⟨rfl, hb6⟩; rw [← HC.out]
       have hR6 := Blk.below (hR3.drewN n4) hb6
       have hbel6 := (below_drewN hbel3 n4).trans (hb6.mono (below_drewN hbel3 n4).size))
    | (go_at_call 173; refine (Answer_any C x D _ (by omega) (by omega) (by omega) (by omega) (by omega) (by omega)).mono ?_; rintro e w7 ⟨rfl, n7, rfl⟩; rw [← HS.out])
    | (refine wpList_store_row rfl 48 _ _ rfl w.heap.size #[.int .u64 C, .int .u64 S] _ _ rfl rfl (hR6.drewN n7) (by rw [pv_size, pv_size]) (by rw [pv_size]; exact info_proof) (pv_one _ _) ?_; intro w8 hg8 hs8 hR8))
  have hbel8 := (below_drewN hbel6 n7).grown hg8 (below_drewN hbel6 n7).size (fun k hk => by cases hk; exact Nat.le_refl _)
  exact bodyPost_ret (results_cell_row Tryz.results170 _ _ w.heap.size _ _ (0, 0) _ rfl hR8 Tryz.underlying48 rfl (by rw [pv_size]; exact info_proof)) rfl ⟨rfl, hbel8⟩
set_option maxRecDepth 100000 in
set_option maxHeartbeats 1000000 in
theorem Signr_any (x : Int) (b : List UInt8) (v : Value) (w : World) (hx : in64 x) (hv : SeesB w v b) (hl : b.length ≤ 70368744170000) :
    Calls Tryz.prog 143 #[.int .u64 x, v] w fun e w' => e = .returned (PV (signC x b) (signS x b)) ∧ Below w.heap.size w w' := by
  obtain ⟨x0, x1⟩ := hx
  obtain ⟨a0, c0, rfl, hac0, hc0⟩ := sees_form hv
  obtain ⟨d0, d1⟩ := sigD_pos x b
  have HD := Lib.hid (show sigD x b = ofN (mac (put64 x.toNat) b) from rfl)
  have HC0 : signC x b = sigC (timesP 37 x) (timesP 37 (sigD x b)) b := rfl
  have HS0 : signS x b = ansP (signC x b) x (sigD x b) := rfl
  obtain ⟨e0, e1⟩ := signC_pos x b
  obtain ⟨f0, f1⟩ := timesP_pos 37 x
  obtain ⟨g0, g1⟩ := timesP_pos 37 (sigD x b)
  generalize sigD x b = D at *
  generalize signS x b = S at *
  generalize signC x b = C at *
  have HC := Lib.hid HC0; have HS := Lib.hid HS0; clear HC0 HS0
  have hR0 := Lib.hid (Blk.new w #[.int .u64 0, .int .u64 0] 48)
  have hB0 := Lib.hid (show Below w.heap.size w (w.alloc (.cells #[.int .u64 0, .int .u64 0] 48)) by go_grown)
  go_enter Tryz.func143, Tryz.ntmps143
  go_wp2_with (first
    | (go_at_call 91; refine (Put64r_any _ _ [] _ (Sees.nil _ _) (by omega) (by omega) (by simp)).mono ?_; rintro e w1 ⟨v1, rfl, hown1, hb1⟩; obtain ⟨a1, c1, rfl, hac1, hc1⟩ := owns_form hown1
       have hR1 := hR0.out.below hb1
       have hbel1 := hB0.out.trans (hb1.mono hB0.out.size))
    | (go_at_call 133; refine (Macr_any _ _ _ (put64 x.toNat) b (sees_of_owns hown1) (hv.below hbel1 (by decide)) (by rw [length_put64]; decide) hl).mono ?_; rintro e w2 ⟨rfl, hb2⟩
       have hR2 := hR1.below hb2
       have hbel2 := hbel1.trans (hb2.mono hbel1.size))
    | (refine wpList_store_row rfl 24 _ _ rfl w2.heap.size (keyA (mac (put64 x.toNat) b)) _ _ rfl rfl (Blk.new _ _ _) (by rw [keyA_size, length_mac]; rfl) (by rw [keyA_size, length_mac]; exact info_key) (keyA_one _) ?_; intro w3 hg3 hs3 hK3
       have hsee := seesB_key hK3 (length_mac _ _)
       have hR3 := (hR2.alloc (.cells _ _)).grownBy hg3 (some_ne (by have := hR2.lt; omega))
       have hbel3 : Below w.heap.size w w3 := (hbel2.alloc hbel2.size _).grown hg3 (by simp only [World.size_alloc]; exact Nat.le_succ_of_le hbel2.size) (fun k hk => by cases hk; exact hbel2.size))
    | (go_at_call 177; refine (OfN_any _ _ (mac (put64 x.toNat) b) hsee (by rw [length_mac]; decide)).mono ?_; rintro e w4 ⟨rfl, n4, rfl⟩; rw [← HD.out])
    | (go_at_call 19; refine (Baser_any x _ (by omega) (by omega)).mono ?_; rintro e w5 ⟨rfl, rfl⟩)
    | (go_at_call 19; refine (Baser_any D _ (by omega) (by omega)).mono ?_; rintro e w5 ⟨rfl, rfl⟩)
    | (go_at_call 178; refine (sigCr_any _ _ b _ _ ⟨by omega, by omega⟩ ⟨by omega, by omega⟩ ((hv.below hbel3 (by decide)).drewN n4) hl).mono ?_; rintro e w6 ⟨rfl, hb6⟩; rw [← HC.out]
       have hR6 := Blk.below (hR3.drewN n4) hb6
       have hbel6 := (below_drewN hbel3 n4).trans (hb6.mono (below_drewN hbel3 n4).size))
    | (go_at_call 153; refine (Answerr_any C x D _ (by omega) (by omega) (by omega) (by omega) (by omega) (by omega)).mono ?_; rintro e w7 ⟨rfl, n7, rfl⟩; rw [← HS.out])
    | (refine wpList_store_row rfl 48 _ _ rfl w.heap.size #[.int .u64 C, .int .u64 S] _ _ rfl rfl (hR6.drewN n7) (by rw [pv_size, pv_size]) (by rw [pv_size]; exact info_proof) (pv_one _ _) ?_; intro w8 hg8 hs8 hR8))
  have hbel8 := (below_drewN hbel6 n7).grown hg8 (below_drewN hbel6 n7).size (fun k hk => by cases hk; exact Nat.le_refl _)
  exact bodyPost_ret (results_cell_row Tryz.results143 _ _ w.heap.size _ _ (0, 0) _ rfl hR8 Tryz.underlying48 rfl (by rw [pv_size]; exact info_proof)) rfl ⟨rfl, hbel8⟩
end Go.Proofs.YtbgnfioggmkdeaaGreatDoor
namespace Go.Proofs.YtbgnfioggmkdeaaGreatDoor
set_option linter.unusedVariables false
set_option linter.unusedSimpArgs false
open Go Go.RowKit

end Go.Proofs.YtbgnfioggmkdeaaGreatDoor
namespace Go.Proofs.YtbgnfioggmkdeaaGreatDoor
set_option linter.unusedVariables false
set_option linter.unusedSimpArgs false
open Go Go.RowKit

theorem run_eqKey (a b : List UInt8) (ha : a.length = 32) (hb : b.length = 32) (w : World) : (binOp .eql 24 (.agg (keyA a)) (.agg (keyA b))).run Tryz.prog w = .ok (.bool (a == b)) w := by
  have h1 : (Tryz.prog.info? 5).map (·.size) = some 1 := by kernel_rfl
  obtain ⟨ti, hti, hsz⟩ := Option.map_eq_some_iff.1 h1
  exact run_eql_bytes w 24 5 32 under_key u_byte (fun w => by simp [sizeOf, typeInfo, hti, hsz]) a b ha hb
theorem guard_key : Tryz.prog.eqGuardType Tryz.prog.depth 24 = false := by kernel_rfl
theorem quiet_eql {P : Program} {C : World → Prop} {o : Oper} {a : Act} {K : Act → Prop} (ty : TypeId) (x y : Operand) (ho : o.op = .binOp .eql ty x y ty) (xs ys : Array Value) (v : Value) (hx : a.eval x = .agg xs) (hy : a.eval y = .agg ys)
    (hg : P.eqGuardType P.depth ty = false) (hr : ∀ w, (binOp .eql ty (.agg xs) (.agg ys)).run P w = .ok v w) (hk : K (a.put o.dst v)) : o.quiet P a C K :=
  ⟨v, fun w _ => by
    unfold Oper.quietAt
    simp only [execOp, ho, hx, hy, Sem.run_bind, run_eqGuard_agg w .eql ty x y xs ys hg, Result.andThen_ok, hr w]
    exact ⟨rfl, rfl⟩, hk⟩
theorem wpList_eql {P : Program} {ops : Array Oper} {rest : List Oper} {o : Oper} {a : Act} {w : World} {Q : Exit → Act → World → Prop} (hgd : Region.wanted o (yielded ops a.tmps) = true) (ty : TypeId) (x y : Operand)
    (ho : o.op = .binOp .eql ty x y ty) (xs ys : Array Value) (v : Value) (hx : a.eval x = .agg xs) (hy : a.eval y = .agg ys) (hg : P.eqGuardType P.depth ty = false) (hr : ∀ w, (binOp .eql ty (.agg xs) (.agg ys)).run P w = .ok v w)
    (h : wpList P ops Q rest (a.put o.dst v) w) : wpList P ops Q (o :: rest) a w := by
  unfold wpList
  rw [if_pos hgd]
  refine .inl ?_
  unfold Oper.wp
  simp only [execOp, ho, hx, hy, Sem.run_bind, run_eqGuard_agg w .eql ty x y xs ys hg, Result.andThen_ok, hr w]
  exact h
end Go.Proofs.YtbgnfioggmkdeaaGreatDoor
