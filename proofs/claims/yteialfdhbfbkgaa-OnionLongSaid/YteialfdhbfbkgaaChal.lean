/-
  Challenges: both programs.
-/
import Derived.Test.YteialfdhbfbkgaaBB
import Derived.Test.YteialfdhbfbkgaaGroup
import Derived.Test.YteialfdhbfbkgaaSha7
import Derived.Test.YteialfdhbfbkgaaRef1b
namespace Go.Proofs.Yteialfdhbfbkgaa
set_option linter.unusedVariables false
set_option linter.unusedSimpArgs false
open Go Go.RowKit

def chalL (s : ByteArray) (l : List Int) : List (List UInt8) := s.data.toList :: l.map (fun x => put64 x.toNat)
def chal (s : ByteArray) (l : List Int) : Int := ofN (parts (chalL s l))
theorem chal_pos (s : ByteArray) (l : List Int) : 0 ≤ chal s l ∧ chal s l < 2305843009213693950 := ofN_pos _
theorem length_chalL (s : ByteArray) (l : List Int) : (flatP (chalL s l)).length = s.size + 8 + 16 * l.length := by
  have h : ∀ l : List Int, (flatP (l.map (fun x => put64 x.toNat))).length = 16 * l.length := by
    intro l; induction l with
    | nil => rfl
    | cons x l ih =>
      have : flatP ((x :: l).map (fun x => put64 x.toNat)) = put64 (put64 x.toNat).length ++ put64 x.toNat ++ flatP (l.map (fun x => put64 x.toNat)) := by simp [flatP]
      rw [this]; simp only [List.length_append, length_put64, ih, List.length_cons]; omega
  have h2 : flatP (chalL s l) = put64 s.data.toList.length ++ s.data.toList ++ flatP (l.map (fun x => put64 x.toNat)) := by simp [flatP, chalL]
  rw [h2]; simp only [List.length_append, length_put64, h]
  have : s.data.toList.length = s.size := Array.length_toList
  omega
theorem length_parts (ll : List (List UInt8)) : (parts ll).length = 32 := length_sha _
theorem u_string : Try.prog.underlying 9 = some .string := Try.underlying9
theorem u_bytes : Try.prog.underlying 25 = some (.slice 5) := Try.underlying25
theorem u_byte : Try.prog.underlying 5 = some (.int .u8) := Try.underlying5

def ChalRel (w : World) (s : ByteArray) (l : List Int) (i v : Value) (wr : World) : Prop :=
  ∃ k : Nat, k ≤ l.length ∧ i = .int .i64 k ∧ OwnBB wr w.heap.size v (chalL s (l.take k)) ∧ Below w.heap.size w wr
theorem chalL_snoc (s : ByteArray) (l : List Int) (k : Nat) (h : k < l.length) : chalL s (l.take (k + 1)) = chalL s (l.take k) ++ [put64 (l[k]).toNat] := by
  rw [List.take_succ_eq_append_getElem h]; simp only [chalL, List.map_append, List.map_cons, List.map_nil, List.cons_append]

set_option maxRecDepth 100000 in
set_option maxHeartbeats 1000000 in
theorem Challenge_any (w : World) (s : ByteArray) (v : Value) (l : List Int) (hv : SeesU w v l) (hin : ∀ x ∈ l, in64 x) (hs : s.size ≤ 1000000) (hl : l.length ≤ 1000000) :
    Calls Try.prog 28 #[.string s, v] w fun e w' => e = .returned (.int .u64 (chal s l)) ∧ Below w.heap.size w w' := by
  have HV := Lib.hid hv
  obtain ⟨a0, c0, rfl, hac0, hc0⟩ := sees_form hv
  clear hv
  have hlen := Lib.hid (length_chalL s l)
  have HCH := Lib.hid (show chal s l = ofN (parts (chalL s l)) from rfl)
  generalize chal s l = ch at *
  have kc := fun (W : World) => run_bytes_of_string W 9 25 5 s u_string u_bytes u_byte
  go_enter Try.func28, Try.ntmps28
  go_wp2_with fail
  have hnm : SeesT (w.alloc (.cells (bytesRow s (grownCap w s.size 0 5)) 5 ((bytesRow s (grownCap w s.size 0 5)).size, (bytesRow s (grownCap w s.size 0 5)).size + 1))) _ _ :=
    seesT_string w s _ _ (grownCap_ge _ _ _ _) (grownCap_le_maxLen _ _ _ _ (by unfold maxLen; omega))
  have hone := OwnBB.one (B := w.heap.size) hnm (by simp only [World.size_alloc]; omega)
  simp only [World.size_alloc] at hone
  clear kc hnm
  generalize grownCap w s.size 0 5 = cap at *
  go_loopw [14, 5] (fun i v wr => ChalRel w s l i v wr) (fun i _ _ => l.length - (intOf i).toNat)
  case atStart => exact ⟨0, by omega, rfl, hone.below (by go_grown), by go_grown⟩
  case round =>
    clear hone
    obtain ⟨k, hk, rfl, hb, hbel⟩ := hrel
    obtain ⟨a1, c1, rfl, hac1, hc1⟩ := hb.form
    by_cases hlt : k < l.length
    · obtain ⟨hl1, a2, c2, he2, hn2, hm2, hnc2, hcellx⟩ := HV.out.below hbel (by decide)
      cases he2
      obtain ⟨b, o1, rfl, hcell⟩ := hcellx (by omega)
      have hck := hcell k (UV l[k]) (by simp only [List.getElem?_map, List.getElem?_eq_getElem hlt]; rfl)
      clear hcellx hl1 hm2 hn2 hnc2 hcell
      obtain ⟨z0, z1⟩ := hin l[k] (List.getElem_mem hlt)
      have hsn := Lib.hid (chalL_snoc s l k hlt)
      have hlk : (chalL s (l.take k)).length = k + 1 := by simp [chalL]; omega
      have HLK := Lib.hid hlk; clear hlk
      generalize l[k] = z at *
      go_wp2_with (first
        | (go_at_call 56; refine (Bytes_any _ _ (by omega) (by omega)).mono ?_; rintro e w5 ⟨v6, rfl, hown6, hb6⟩; obtain ⟨a6, c6, rfl, hac6, hc6⟩ := owns_form hown6; have hbel5 := hbel.trans (hb6.mono hbel.size))
        | (at_builtin; refine appBB (W := w) rfl _ _ rfl _ _ rfl ((hb.below hb6).below (by go_grown)) _ (.slice a6 _ c6) _ rfl (sees_new _ 1 #[.slice a6 _ c6] _ 1 rfl (by decide)) ((SeesT.own hown6).alloc _) rfl (by rw [HLK.out]; omega) (hbel5.alloc hbel5.size _) ?_; intro v7 w7 hown7 hgr7 hb7))
      go_roundw
      case rel => exact ⟨k + 1, by omega, by go_num, by rw [hsn.out]; exact hown7, hb7⟩
      case measure => simp [intOf]; omega
    · obtain rfl : k = l.length := by omega
      rw [List.take_length] at hb
      have hbs := hb.sees
      have hfl : (flatP (chalL s l)).length ≤ 70368744177000 := by rw [hlen.out]; omega
      go_wp2_with (first
        | (go_at_call 57; refine (Parts_any _ _ (chalL s l) hbs hfl).mono ?_; rintro e w5 ⟨rfl, hb5⟩; have hbel5 := hbel.trans (hb5.mono hbel.size))
        | (refine wpList_store_row rfl 23 _ _ rfl w5.heap.size (keyA (parts (chalL s l))) _ _ rfl rfl (Blk.new _ _ _) (by rw [keyA_size, length_parts]; rfl) (by rw [keyA_size, length_parts]; exact info_key) (keyA_one _) ?_; intro w7 hg7 hs7 hR7))
      have hsee : SeesB w7 (.slice (some ⟨w5.heap.size, 0, none⟩) (parts (chalL s l)).length (parts (chalL s l)).length) (parts (chalL s l)) := by
        have h := sees_block hR7 1 (parts (chalL s l)).length (by rw [keyA_size, Nat.mul_one]) (by rw [length_parts]; decide)
        rwa [keyA, List.toList_toArray] at h
      have h32 := length_parts (chalL s l)
      rw [h32] at hsee
      have hbel7 : Below w.heap.size w w7 := (hbel5.alloc hbel5.size _).grown hg7 (by simp only [World.size_alloc]; exact Nat.le_succ_of_le hbel5.size) (fun k hk => by cases hk; exact hbel5.size)
      clear hg7 hs7 hR7 hbs hb
      have HP := Lib.hid h32; clear h32
      refine (Of_any _ _ (parts (chalL s l)) hsee (by rw [HP.out]; decide)).mono ?_
      rintro e w8 ⟨rfl, n8, rfl⟩
      go_wp2_with fail
      go_ret
      exact ⟨ret_u64 HCH.out.symm, below_drewN hbel7 _⟩
set_option maxRecDepth 100000 in
set_option maxHeartbeats 1000000 in
theorem Challenger_any (w : World) (s : ByteArray) (v : Value) (l : List Int) (hv : SeesU w v l) (hin : ∀ x ∈ l, in64 x) (hs : s.size ≤ 1000000) (hl : l.length ≤ 1000000) :
    Calls Try.prog 29 #[.string s, v] w fun e w' => e = .returned (.int .u64 (chal s l)) ∧ Below w.heap.size w w' := by
  have HV := Lib.hid hv
  obtain ⟨a0, c0, rfl, hac0, hc0⟩ := sees_form hv
  clear hv
  have hlen := Lib.hid (length_chalL s l)
  have HCH := Lib.hid (show chal s l = ofN (parts (chalL s l)) from rfl)
  generalize chal s l = ch at *
  have kc := fun (W : World) => run_bytes_of_string W 9 25 5 s u_string u_bytes u_byte
  go_enter Try.func29, Try.ntmps29
  go_wp2_with fail
  have hnm : SeesT (w.alloc (.cells (bytesRow s (grownCap w s.size 0 5)) 5 ((bytesRow s (grownCap w s.size 0 5)).size, (bytesRow s (grownCap w s.size 0 5)).size + 1))) _ _ :=
    seesT_string w s _ _ (grownCap_ge _ _ _ _) (grownCap_le_maxLen _ _ _ _ (by unfold maxLen; omega))
  have hone := OwnBB.one (B := w.heap.size) hnm (by simp only [World.size_alloc]; omega)
  simp only [World.size_alloc] at hone
  clear kc hnm
  generalize grownCap w s.size 0 5 = cap at *
  go_loopw [6, 5] (fun i v wr => ChalRel w s l i v wr) (fun i _ _ => l.length - (intOf i).toNat)
  case atStart => exact ⟨0, by omega, rfl, hone.below (by go_grown), by go_grown⟩
  case round =>
    clear hone
    obtain ⟨k, hk, rfl, hb, hbel⟩ := hrel
    obtain ⟨a1, c1, rfl, hac1, hc1⟩ := hb.form
    by_cases hlt : k < l.length
    · obtain ⟨hl1, a2, c2, he2, hn2, hm2, hnc2, hcellx⟩ := HV.out.below hbel (by decide)
      cases he2
      obtain ⟨b, o1, rfl, hcell⟩ := hcellx (by omega)
      have hck := hcell k (UV l[k]) (by simp only [List.getElem?_map, List.getElem?_eq_getElem hlt]; rfl)
      clear hcellx hl1 hm2 hn2 hnc2 hcell
      obtain ⟨z0, z1⟩ := hin l[k] (List.getElem_mem hlt)
      have hsn := Lib.hid (chalL_snoc s l k hlt)
      have hlk : (chalL s (l.take k)).length = k + 1 := by simp [chalL]; omega
      have HLK := Lib.hid hlk; clear hlk
      generalize l[k] = z at *
      go_wp2_with (first
        | (go_at_call 59; refine (Bytesr_any _ _ (by omega) (by omega)).mono ?_; rintro e w5 ⟨v6, rfl, hown6, hb6⟩; obtain ⟨a6, c6, rfl, hac6, hc6⟩ := owns_form hown6; have hbel5 := hbel.trans (hb6.mono hbel.size))
        | (at_builtin; refine appBB (W := w) rfl _ _ rfl _ _ rfl ((hb.below hb6).below (by go_grown)) _ (.slice a6 _ c6) _ rfl (sees_new _ 1 #[.slice a6 _ c6] _ 1 rfl (by decide)) ((SeesT.own hown6).alloc _) rfl (by rw [HLK.out]; omega) (hbel5.alloc hbel5.size _) ?_; intro v7 w7 hown7 hgr7 hb7))
      go_roundw
      case rel => exact ⟨k + 1, by omega, by go_num, by rw [hsn.out]; exact hown7, hb7⟩
      case measure => simp [intOf]; omega
    · obtain rfl : k = l.length := by omega
      rw [List.take_length] at hb
      have hbs := hb.sees
      have hfl : (flatP (chalL s l)).length ≤ 70368744177000 := by rw [hlen.out]; omega
      go_wp2_with (first
        | (go_at_call 60; refine (Partsr_any _ _ (chalL s l) hbs hfl).mono ?_; rintro e w5 ⟨rfl, hb5⟩; have hbel5 := hbel.trans (hb5.mono hbel.size))
        | (refine wpList_store_row rfl 23 _ _ rfl w5.heap.size (keyA (parts (chalL s l))) _ _ rfl rfl (Blk.new _ _ _) (by rw [keyA_size, length_parts]; rfl) (by rw [keyA_size, length_parts]; exact info_key) (keyA_one _) ?_; intro w7 hg7 hs7 hR7))
      have hsee : SeesB w7 (.slice (some ⟨w5.heap.size, 0, none⟩) (parts (chalL s l)).length (parts (chalL s l)).length) (parts (chalL s l)) := by
        have h := sees_block hR7 1 (parts (chalL s l)).length (by rw [keyA_size, Nat.mul_one]) (by rw [length_parts]; decide)
        rwa [keyA, List.toList_toArray] at h
      have h32 := length_parts (chalL s l)
      rw [h32] at hsee
      have hbel7 : Below w.heap.size w w7 := (hbel5.alloc hbel5.size _).grown hg7 (by simp only [World.size_alloc]; exact Nat.le_succ_of_le hbel5.size) (fun k hk => by cases hk; exact hbel5.size)
      clear hg7 hs7 hR7 hbs hb
      have HP := Lib.hid h32; clear h32
      refine (OfN_any _ _ (parts (chalL s l)) hsee (by rw [HP.out]; decide)).mono ?_
      rintro e w8 ⟨rfl, n8, rfl⟩
      go_wp2_with fail
      go_ret
      exact ⟨ret_u64 HCH.out.symm, below_drewN hbel7 _⟩
end Go.Proofs.Yteialfdhbfbkgaa
