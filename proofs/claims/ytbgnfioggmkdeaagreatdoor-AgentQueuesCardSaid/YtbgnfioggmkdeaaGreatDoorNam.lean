/-
  Names with numbers, and a server's secrets: the program.
-/
import Derived.Test.YtbgnfioggmkdeaaGreatDoorBeac
import Derived.Test.YtbgnfioggmkdeaaGreatDoorShelf
namespace Go.Proofs.YtbgnfioggmkdeaaGreatDoor
set_option linter.unusedVariables false
set_option linter.unusedSimpArgs false
open Go Go.RowKit

theorem dec_eq (u : Nat) : Lib.decDigits u = decN u := by
  induction u using Nat.strongRecOn with
  | _ u ih =>
    by_cases h : u < 10
    · rw [Lib.decDigits, dif_pos h, decN_small u h]; rfl
    · rw [Lib.decDigits, dif_neg h, decN_big u h, ih (u / 10) (by omega)]; rfl
theorem itoa_eq (n : Int) : Lib.itoa n = decI n := by
  unfold Lib.itoa decI
  split
  · rw [dec_eq]
  · rename_i h
    rw [dec_eq, show n.toNat = n.natAbs from by omega]
/-- Itoa answers, from here on. -/
def ItoaOk (w : World) (n : Int) : Prop := ∀ u, Ext w u → Calls Tryz.prog 164 #[.int .i64 n] u fun e u' => e = .returned (strL (decI n)) ∧ Ext u u'
theorem ItoaOk.mono {w w1 : World} {n : Int} (h : ItoaOk w n) (e : Ext w w1) : ItoaOk w1 n := fun u hu => h u (Ext.tr e hu)
theorem itoa_small (w : World) (n : Int) (h0 : 0 ≤ n) (h1 : n < 100) : ItoaOk w n := fun u _ => by
  obtain ⟨i, rfl⟩ := Int.eq_ofNat_of_zero_le h0
  refine (Tryz.strconv_Itoa_small i (by omega) u).mono ?_
  rintro e u' ⟨rfl, rfl⟩
  refine ⟨?_, Ext.refl _⟩
  rw [dec_eq, show decI (i : Int) = decN i from by unfold decI; rw [if_neg (by omega)]; rfl]
def NamRel (w : World) (s : List UInt8) (l : List Int) (sv i : Value) (wr : World) : Prop := ∃ k : Nat, k ≤ l.length ∧ i = .int .i64 k ∧ sv = strL (namesL s (l.take k)) ∧ Ext w wr
set_option maxRecDepth 100000 in
set_option maxHeartbeats 1000000 in
theorem Named_any (s : List UInt8) (l : List Int) (v : Value) (w : World) (hv : SeesI w v l) (hin : ∀ n ∈ l, inI n) (hit : ∀ n ∈ l, ItoaOk w n) (hs : s.length ≤ 1000) (hl : l.length ≤ 100) :
    Calls Tryz.prog 117 #[strL s, v] w fun e w' => e = .returned (strL (namesL s l)) ∧ Below w.heap.size w w' := by
  have HV := Lib.hid hv
  have HIT := Lib.hid hit
  obtain ⟨a0, c0, rfl, hac0, hc0⟩ := sees_form hv
  clear hv hit
  go_enter Tryz.func117, Tryz.ntmps117
  go_wp2_with fail
  go_loopw [0, 6, 9] (fun sv _ i wr => NamRel w s l sv i wr) (fun _ _ i _ => l.length - (intOf i).toNat)
  case atStart => exact ⟨0, by omega, rfl, by simp [namesL], Ext.refl _⟩
  case round =>
    obtain ⟨k, hk, rfl, rfl, hX⟩ := hrel
    by_cases hlt : k < l.length
    · obtain ⟨hl1, a2, c2, he2, hn2, hm2, hnc2, hcellx⟩ := HV.out.below hX (by decide)
      cases he2
      obtain ⟨b, o1, rfl, hcell⟩ := hcellx (by omega)
      have hck := hcell k (IV l[k]) (by simp only [List.getElem?_map, List.getElem?_eq_getElem hlt]; rfl)
      clear hcellx hl1 hm2 hn2 hnc2 hcell
      have hnk := hin l[k] (List.getElem_mem hlt)
      have hsn := Lib.hid (namesL_snoc s l k hlt)
      have HI := Lib.hid (HIT.out l[k] (List.getElem_mem hlt) wr hX)
      have hle := length_namesL s (l.take k) (fun n hn => hin n (List.mem_of_mem_take hn))
      rw [List.length_take, Nat.min_eq_left hk] at hle
      have hdl := length_decI l[k] hnk
      generalize l[k] = z at *
      generalize namesL s (l.take k) = S at *
      have ha1 := fun W => run_addL [32] (decI z) (by decide) (by omega) W
      have ha2 := fun W => run_addL S ([32] ++ decI z) (by omega) (by simp; omega) W
      generalize hD : decI z = D at *
      have HX := Lib.hid hX
      clear hX hD
      go_wp2_with (go_at_call 164; refine HI.out.mono ?_; rintro e w' ⟨rfl, hb⟩; have hX2 : Ext w w' := Ext.tr HX.out hb)
      go_roundw
      case rel => exact ⟨k + 1, by omega, by go_num, by rw [hsn.out, List.append_assoc]; rfl, hX2⟩
      case measure => simp [intOf]; omega
    · obtain rfl : k = l.length := by omega
      rw [List.take_length]
      go_wp2_with fail
      go_ret
      exact ⟨rfl, hX⟩
end Go.Proofs.YtbgnfioggmkdeaaGreatDoor
