/-
  A key's block, each byte xored: the first program.
-/
import Derived.Test.YteialfdhbfbkgaaSha5
import Derived.Laws.CopyOwn
namespace Go.Proofs.Yteialfdhbfbkgaa
set_option linter.unusedVariables false
set_option linter.unusedSimpArgs false
open Go Go.RowKit

def maskL (m : UInt8) (k : List UInt8) : List UInt8 := k.map (fun c => c ^^^ m)
theorem length_maskL (m : UInt8) (k : List UInt8) : (maskL m k).length = k.length := by simp [maskL]
theorem ofInt_u8 (a : UInt8) : BitVec.ofInt 8 (a.toNat : Int) = a.toBitVec := by
  apply BitVec.eq_of_toNat_eq; simp
theorem xor_u8 (a b : UInt8) : bits .xor .u8 (a.toNat : Int) (b.toNat : Int) = ((a ^^^ b).toNat : Int) := by
  show IntKind.u8.wrap ((BitVec.ofInt 8 (a.toNat : Int) ^^^ BitVec.ofInt 8 (b.toNat : Int)).toNat : Int) = _
  rw [ofInt_u8, ofInt_u8, IntKind.wrap_u8]
  have := (a ^^^ b).toNat_lt
  rw [← UInt8.toBitVec_xor, UInt8.toNat_toBitVec]; omega
theorem info_blk : (Try.prog.info? 91).map (·.size) = some 64 := by kernel_rfl
theorem run_indexB (k : List UInt8) (hk : k.length = 64) (i : Nat) (h : i < 64) (w : World) : (Instr.index 91 (.agg (keyA k)) (.int .i64 i)).run Try.prog w = .ok (BV (k[i]'(by omega))) w := by
  have hc : (keyA k)[i]? = some (BV (k[i]'(by omega))) := by simp [keyA, List.getElem?_eq_getElem (show i < k.length by omega)]
  have hs : (keyA k).size = 64 := by rw [keyA_size, hk]
  generalize keyA k = cs at hc hs
  have h1 : (Try.prog.info? 5).map (·.size) = some 1 := by kernel_rfl
  obtain ⟨ti, hti, hsz⟩ := Option.map_eq_some_iff.1 h1
  simp [Instr.index, run_underlying Try.underlying91, sizeOf, typeInfo, hti, hsz, h, go_sem]
  rw [hc]; rfl

def MaskRel (w : World) (m : UInt8) (k : List UInt8) (i v : Value) (wr : World) : Prop :=
  ∃ n : Nat, n ≤ 64 ∧ i = .int .i64 n ∧ OwnB wr w.heap.size v (maskL m (k.take n)) ∧ Below w.heap.size w wr
theorem maskL_snoc (m : UInt8) (k : List UInt8) (n : Nat) (h : n < k.length) : maskL m (k.take (n + 1)) = maskL m (k.take n) ++ [k[n] ^^^ m] := by
  rw [List.take_succ_eq_append_getElem h]; simp only [maskL, List.map_append, List.map_cons, List.map_nil]

set_option maxRecDepth 100000 in
set_option maxHeartbeats 1000000 in
theorem masked_any (w : World) (k : List UInt8) (m : UInt8) (hk : k.length = 64) :
    Calls Try.prog 90 #[.agg (keyA k), .int .u8 (m.toNat : Int)] w (RetB (maskL m k) w) := by
  have HK := Lib.hid hk; clear hk
  go_enter Try.func90, Try.ntmps90
  go_wp2_with (refine wpList_load_row rfl 91 _ rfl w.heap.size rfl _ _ (0, 0) _ (Blk.new w _ _) Try.underlying91 rfl (by rw [keyA_size, HK.out]; exact info_blk) ?_)
  go_loopw [9, 5] (fun i v wr => MaskRel w m k i v wr) (fun i _ _ => 64 - (intOf i).toNat)
  case atStart => exact ⟨0, by omega, rfl, ownB_nil _ _, by go_grown⟩
  case round =>
    obtain ⟨n, hn, rfl, hown, hbel⟩ := hrel
    by_cases hlt : n < 64
    · obtain ⟨a1, c1, rfl, hac1, hc1⟩ := owns_form hown
      have hix := fun W : World => run_indexB k HK.out n hlt W
      have hsn := Lib.hid (maskL_snoc m k n (by rw [HK.out]; exact hlt))
      have hlen : (maskL m (k.take n)).length = n := by rw [length_maskL, List.length_take, HK.out]; omega
      have HLEN := Lib.hid hlen; clear hlen
      generalize k[n]'(by rw [HK.out]; exact hlt) = c at hix hsn
      have hxor := xor_u8 c m
      go_wp2_with (at_builtin; refine appB (W := w) rfl _ _ rfl _ _ rfl (hown.alloc _) _ [c ^^^ m] rfl (seesB_one _ (c ^^^ m) _) (by rw [HLEN.out]; simp only [List.length_cons, List.length_nil]; omega) (hbel.alloc hbel.size _) ?_; intro v2 w2 hown2 hgr2 hb2)
      go_roundw
      case rel => exact ⟨n + 1, by omega, by go_num, by rw [hsn.out]; exact hown2, hb2⟩
      case measure => simp [intOf]; omega
    · obtain rfl : n = 64 := by omega
      rw [List.take_of_length_le (by rw [HK.out]; omega)] at hown
      obtain ⟨a1, c1, rfl, hac1, hc1⟩ := owns_form hown
      go_wp2_with fail
      go_ret
      exact RetB.mk hown hbel
end Go.Proofs.Yteialfdhbfbkgaa
