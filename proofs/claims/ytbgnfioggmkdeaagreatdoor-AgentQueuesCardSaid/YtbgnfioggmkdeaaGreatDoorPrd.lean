/-
  Products of the reference.
-/
import Derived.Test.YtbgnfioggmkdeaaGreatDoorPc
namespace Go.Proofs.YtbgnfioggmkdeaaGreatDoor
set_option linter.unusedVariables false
set_option linter.unusedSimpArgs false
open Go Go.RowKit

theorem in64_prodP : ∀ (l : List Int) (o : Int), 0 ≤ o → o < 2305843009213693951 → 0 ≤ prodP l o ∧ prodP l o < 2305843009213693951
  | [], o, h0, h1 => ⟨h0, h1⟩
  | x :: l, o, h0, h1 => by
    rw [prodP]
    split
    · exact in64_prodP l _ (Int.emod_nonneg _ (by decide)) (Int.emod_lt_of_pos _ (by decide))
    · exact ⟨by decide, by decide⟩
set_option maxRecDepth 100000 in
set_option maxHeartbeats 400000 in
theorem Productr_any (w : World) (v : Value) (l : List Int) (hv : SeesU w v l) (hl : ∀ x ∈ l, in64 x) :
    Calls Tryz.prog 142 #[v] w fun e w' => e = .returned (.int .u64 (prodP l 1)) ∧ w = w' := by
  have HV := Lib.hid hv
  obtain ⟨a, c, rfl, hc, hm⟩ := sees_form hv
  clear hv
  generalize hp : prodP l 1 = p
  have HPP := Lib.hid hp; clear hp
  go_enter Tryz.func142, Tryz.ntmps142
  go_wp2_with fail
  go_loop [4, 3] (fun i x => ProdRel l i x) (fun i _ => l.length - (intOf i).toNat)
  case atStart => exact ⟨0, 1, by omega, rfl, rfl, by omega, by omega, Lib.hid rfl⟩
  case round =>
    obtain ⟨k, o, hk, rfl, rfl, ho0, ho, hP⟩ := hrel
    by_cases hlt : k < l.length
    · obtain ⟨hl1, a1, c1, he1, hn1, hm1, hnc1, hcellx⟩ := HV.out
      cases he1
      obtain ⟨b, o1, rfl, hcell⟩ := hcellx (by omega)
      have hck := hcell k (UV l[k]) (by simp only [List.getElem?_map, List.getElem?_eq_getElem hlt]; rfl)
      clear hcellx hl1 hm1 hn1 hnc1 hcell
      have hin := hl l[k] (List.getElem_mem hlt)
      obtain ⟨z0, z1⟩ := hin
      have hdr : l.drop k = l[k] :: l.drop (k + 1) := List.drop_eq_getElem_cons hlt
      have hP2 := hP.out
      rw [hdr, prodP] at hP2
      clear hdr hP
      generalize l[k] = z at *
      by_cases hz : okP z
      · have hd := decide_eq_true hz
        rw [if_pos hz] at hP2
        have HP := Lib.hid hP2; clear hP2
        clear hz
        go_wp2_with (first
          | (go_at_call 18; refine (Rightr_any _ _ (by omega) (by omega)).mono ?_; rintro e_ w' ⟨rfl, rfl⟩)
          | (go_at_call 127; refine (MulP_any _ _ _ (by omega) (by omega) (by omega) (by omega)).mono ?_; rintro e_ w' ⟨rfl, rfl⟩))
        go_round
        case rel => exact ⟨k + 1, _, by omega, by go_num, rfl, by omega, by omega, HP⟩
        case measure => simp [intOf]; omega
      · have hd := decide_eq_false hz
        rw [if_neg hz] at hP2
        have HP := Lib.hid hP2; clear hP2
        clear hz
        go_wp2_with (go_at_call 18; refine (Rightr_any _ _ (by omega) (by omega)).mono ?_; rintro e_ w' ⟨rfl, rfl⟩)
        go_ret
        exact ⟨ret_u64 (HP.out.symm.trans HPP.out), rfl⟩
    · obtain rfl : k = l.length := by omega
      have hP2 := hP.out
      rw [List.drop_length, prodP] at hP2
      have HP := Lib.hid hP2; clear hP2 hP
      go_wp2
      go_ret
      exact ⟨ret_u64 (HP.out.symm.trans HPP.out), rfl⟩
end Go.Proofs.YtbgnfioggmkdeaaGreatDoor
