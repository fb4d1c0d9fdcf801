/-
  Keys of hops, and what stands beside: both programs.
-/
import Derived.Test.YteialfdhbfbkgaaSeal5
import Derived.Test.YteialfdhbfbkgaaGroup
namespace Go.Proofs.Yteialfdhbfbkgaa
set_option linter.unusedVariables false
set_option linter.unusedSimpArgs false
open Go Go.RowKit

def hopS : ByteArray := ⟨#[104, 111, 112]⟩
def hopK (s : Int) : List UInt8 := keyD (put64 s.toNat) hopS.data.toList
theorem length_hopK (s : Int) : (hopK s).length = 32 := length_keyD _ _

set_option maxRecDepth 100000 in
set_option maxHeartbeats 1000000 in
theorem HopKey_any (s : Int) (w : World) (hs : in64 s) :
    Calls Try.prog 76 #[.int .u64 s] w fun e w' => e = .returned (.agg (keyA (hopK s))) ∧ Below w.heap.size w w' := by
  obtain ⟨p0, p1⟩ := hs
  have hR0 : Blk (w.alloc (.cells (keyA (List.replicate 32 0)) 23)) w.heap.size (keyA (List.replicate 32 0)) 23 := Blk.new _ _ _
  have hbel0 : Below w.heap.size w (w.alloc (.cells (keyA (List.replicate 32 0)) 23)) := by go_grown
  rw [keyA_zero] at hR0 hbel0
  rw [← keyA_zero] at hR0
  have HR0 := Lib.hid hR0; have HB0 := Lib.hid hbel0
  clear hR0 hbel0
  have HE := Lib.hid (show hopK s = keyD (put64 s.toNat) hopS.data.toList from rfl)
  have HL := Lib.hid (length_hopK s)
  generalize hopK s = E at *
  go_enter Try.func76, Try.ntmps76
  go_wp2_with (first
    | (go_at_call 56; refine (Bytes_any _ _ (by omega) (by omega)).mono ?_; rintro e w1 ⟨v1, rfl, hown1, hb1⟩; have hR1 := HR0.out.below hb1; have hbel1 := HB0.out.trans (hb1.mono HB0.out.size))
    | (go_at_call 104; refine (Key_any _ (put64 s.toNat) hopS _ (sees_of_owns hown1) (by rw [length_put64]; decide) (by decide)).mono ?_; rintro e w2 ⟨rfl, hb2⟩; rw [← HE.out]; have hR2 := hR1.below hb2; have hbel2 := hbel1.trans (hb2.mono hbel1.size))
    | (refine wpList_store_row rfl 23 _ _ rfl w.heap.size (keyA E) _ _ rfl rfl hR2 (by rw [keyA_size, keyA_size, HL.out, List.length_replicate]) (by rw [keyA_size, HL.out]; exact info_key) (keyA_one _) ?_; intro w3 hg3 hs3 hR3))
  refine bodyPost_ret (results_cell_row Try.results76 _ _ w.heap.size _ _ (0, 0) _ rfl hR3 under_key rfl (by rw [keyA_size, HL.out]; exact info_key)) rfl ⟨rfl, hbel2.grown hg3 hbel2.size (fun k hk => by cases hk; exact Nat.le_refl _)⟩
set_option maxRecDepth 100000 in
set_option maxHeartbeats 1000000 in
theorem HopKeyr_any (s : Int) (w : World) (hs : in64 s) :
    Calls Try.prog 79 #[.int .u64 s] w fun e w' => e = .returned (.agg (keyA (hopK s))) ∧ Below w.heap.size w w' := by
  obtain ⟨p0, p1⟩ := hs
  have hR0 : Blk (w.alloc (.cells (keyA (List.replicate 32 0)) 23)) w.heap.size (keyA (List.replicate 32 0)) 23 := Blk.new _ _ _
  have hbel0 : Below w.heap.size w (w.alloc (.cells (keyA (List.replicate 32 0)) 23)) := by go_grown
  rw [keyA_zero] at hR0 hbel0
  rw [← keyA_zero] at hR0
  have HR0 := Lib.hid hR0; have HB0 := Lib.hid hbel0
  clear hR0 hbel0
  have HE := Lib.hid (show hopK s = keyD (put64 s.toNat) hopS.data.toList from rfl)
  have HL := Lib.hid (length_hopK s)
  generalize hopK s = E at *
  go_enter Try.func79, Try.ntmps79
  go_wp2_with (first
    | (go_at_call 59; refine (Bytesr_any _ _ (by omega) (by omega)).mono ?_; rintro e w1 ⟨v1, rfl, hown1, hb1⟩; have hR1 := HR0.out.below hb1; have hbel1 := HB0.out.trans (hb1.mono HB0.out.size))
    | (go_at_call 107; refine (Keyr_any _ (put64 s.toNat) hopS _ (sees_of_owns hown1) (by rw [length_put64]; decide) (by decide)).mono ?_; rintro e w2 ⟨rfl, hb2⟩; rw [← HE.out]; have hR2 := hR1.below hb2; have hbel2 := hbel1.trans (hb2.mono hbel1.size))
    | (refine wpList_store_row rfl 23 _ _ rfl w.heap.size (keyA E) _ _ rfl rfl hR2 (by rw [keyA_size, keyA_size, HL.out, List.length_replicate]) (by rw [keyA_size, HL.out]; exact info_key) (keyA_one _) ?_; intro w3 hg3 hs3 hR3))
  refine bodyPost_ret (results_cell_row Try.results79 _ _ w.heap.size _ _ (0, 0) _ rfl hR3 under_key rfl (by rw [keyA_size, HL.out]; exact info_key)) rfl ⟨rfl, hbel2.grown hg3 hbel2.size (fun k hk => by cases hk; exact Nat.le_refl _)⟩

/-- A place as a number of 64 bits. -/
def u64of (n : Int) : Int := IntKind.u64.wrap n
theorem u64of_nat (n : Nat) (h : n < 18446744073709551616) : u64of n = n := by unfold u64of; rw [IntKind.wrap_u64]; omega
theorem in64_u64of (n : Int) : in64 (u64of n) := by unfold u64of; rw [IntKind.wrap_u64]; exact ⟨by omega, by omega⟩
set_option maxHeartbeats 1000000 in
theorem Beside_any (n : Nat) (w : World) (hn : n ≤ 9223372036854775807) :
    Calls Try.prog 78 #[.int .i64 n] w (RetB (put64 n) w) := by
  go_enter Try.func78, Try.ntmps78
  go_wp2_with (go_at_call 66; refine (Put64_any _ _ [] _ (Sees.nil _ _) (by omega) (by omega) (by simp)).mono ?_; rintro e w1 ⟨v1, rfl, hown1, hb1⟩; rw [List.nil_append, Int.toNat_natCast] at hown1)
  go_ret
  exact RetB.mk hown1 hb1
set_option maxHeartbeats 1000000 in
theorem place_any (n : Nat) (w : World) (hn : n ≤ 9223372036854775807) :
    Calls Try.prog 81 #[.int .i64 n] w (RetB (put64 n) w) := by
  go_enter Try.func81, Try.ntmps81
  go_wp2_with (go_at_call 71; refine (Put64r_any _ _ [] _ (Sees.nil _ _) (by omega) (by omega) (by simp)).mono ?_; rintro e w1 ⟨v1, rfl, hown1, hb1⟩; rw [List.nil_append, Int.toNat_natCast] at hown1)
  go_ret
  exact RetB.mk hown1 hb1
end Go.Proofs.Yteialfdhbfbkgaa
