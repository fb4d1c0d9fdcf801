/-
  How much may be said to one: AgentQueues.
-/
import Derived.Test.YtbgnfioggmkdeaaGreatDoorAgy
namespace Go.Proofs.YtbgnfioggmkdeaaGreatDoor
set_option linter.unusedVariables false
set_option linter.unusedSimpArgs false
open Go Go.RowKit

def payB (c : UInt8) : List UInt8 := c :: List.replicate 31 0
theorem length_payB (c : UInt8) : (payB c).length = 32 := rfl
theorem run_allocPay (w : World) : (Instr.alloc 23 true (.tuple #[])).run Tryz.prog w = .ok (.pointer (some ⟨w.heap.size, 0, none⟩)) (w.alloc (.cells (keyA (List.replicate 32 0)) 23)) := by
  rw [keyA_zero]; simp [go_sem]
set_option maxRecDepth 100000 in
theorem payload_any (c : UInt8) (w : World) : Calls Tryz.prog 13 #[BV c] w fun e w' => e = .returned (.agg (keyA (payB c))) ∧ Ext w w' := by
  have HP := Lib.hid (show (keyA (List.replicate 32 0)).setIfInBounds 0 (BV c) = keyA (payB c) from rfl)
  have HL := Lib.hid (length_payB c)
  generalize payB c = p at *
  go_enter Tryz.func13, Tryz.ntmps13
  go_wp2_with (first
    | (have tk := hB1; clear tk; refine wpList_allocB rfl _ rfl _ run_allocPay ?_; intro x2 B2 hB2 hb2 e2
       have hc : x2.cell? ⟨B2, 0, none⟩ = some (BV 0) := (by rw [hB2.cell]; rfl)
       have hf := hB2.free 0
       have hB3 := hB2.set 0 (BV c)
       rw [HP.out] at hB3
       have hB1' := (hB1.below e2).setCell ⟨B2, 0, none⟩ (BV c) (by have := hB1.lt; show B1 ≠ B2; omega))
    | (refine wpList_allocB rfl _ rfl _ run_allocPay ?_; intro x1 B1 hB1 hb1 e1)
    | (refine wpList_load_row rfl 23 _ rfl B2 rfl _ (keyA p) (0, 0) _ hB3 u_pay rfl (by rw [keyA_size, HL.out]; exact info_pay1) ?_)
    | (refine wpList_store_row rfl 23 _ _ rfl B1 (keyA p) _ _ rfl rfl hB1' (by rw [keyA_size, keyA_size, HL.out]; rfl) (by rw [keyA_size, HL.out]; exact info_pay1) (keyA_one _) ?_; intro z hgz hsz hRz))
  refine bodyPost_ret (results_cell_row Tryz.results13 _ _ B1 _ _ (0, 0) _ rfl hRz u_pay rfl (by rw [keyA_size, HL.out]; exact info_pay1)) rfl ⟨rfl, ?_⟩
  exact ext_row ((Mod.tr ((Ext.tr e1 e2).mod []) (Mod.set x2 B2 0 (BV c))).mono (G := []) (fun k hk hlt => by simp at hk; have := e1.size; omega) |>.ext) hgz hb1
theorem run_eql_pay_nil (a : Option Addr) (n c : Nat) (w : World) : (binOp .eql 54 (.slice a n c) (.slice none 0 0)).run Tryz.prog w = .ok (.bool a.isNone) w := by
  have h := run_equal_slice_nil (P := Tryz.prog) w 54 23 a n c Tryz.underlying54
  simp [binOp, h]
set_option maxRecDepth 100000 in
theorem Got0_any (A : Nat) (s : Int) (m : Nat) (now : Value) (w : World) (hA : AgB w A s m now (.slice none 0 0)) :
    Calls Tryz.prog 21 #[.pointer (some ⟨A, 0, none⟩)] w fun e w' => e = .returned (.slice none 0 0) ∧ w' = w := by
  have hc : w.cell? ⟨A, 3, none⟩ = some (.slice none 0 0) := by rw [hA.cell]; rfl
  have HC := Lib.hid (show Calls Tryz.prog 47 #[.slice none 0 0] w fun e w' => e = .returned (.slice none 0 0) ∧ w' = w from by
    have hq := fun W : World => run_eql_pay_nil none 0 0 W
    go_enter Tryz.func47, Tryz.ntmps47
    go_wp2_with fail
    go_ret
    exact ⟨rfl, rfl⟩)
  go_enter Tryz.func21, Tryz.ntmps21
  go_wp2_with (go_at_call 47; refine HC.out.mono ?_; rintro e y ⟨rfl, hy⟩; subst y)
  go_ret
  exact ⟨rfl, rfl⟩
def saidQ (peer : Int) (k : Nat) : PeerL := ⟨peer, List.replicate (min k 1000) (payB 2), 0, 0, 0, -1, 0⟩
def QRel (w : World) (A : Nat) (s : Int) (m P : Nat) (peer : Int) (N : Nat) (i : Value) (wr : World) : Prop :=
  ∃ k : Nat, k ≤ N ∧ i = .int .i64 k ∧ AgB wr A s m (.pointer (some ⟨P, 0, none⟩)) (.slice none 0 0) ∧ Ext w wr ∧
    ∃ vs, PeB wr P (saidQ peer k) vs ∧ OwR payR 0 0 wr vs (saidQ peer k).said ∧ ∀ g, vs.ownBlock = some g → w.heap.size ≤ g
theorem Mod.fresh {w x u : World} {F : List Nat} (e : Ext w x) (h : Mod F x u) (hf : ∀ k ∈ F, w.heap.size ≤ k) : Ext w u :=
  (Mod.tr (e.mod []) h).mono (G := []) (fun k hk hlt => by
    rcases List.mem_append.1 hk with h | h
    · exact h
    · have := hf k h; omega) |>.ext
set_option maxRecDepth 100000 in
set_option maxHeartbeats 4000000 in
theorem AgentQueues_any (secret peer more : Int) (w : World) (hs : in64 secret) (hp : in64 peer) (hm : inI more) :
    Calls Tryz.prog 4 #[.int .u64 secret, .int .u64 peer, .int .i64 more] w fun e w' => e = .returned (.bool true) ∧ Below w.heap.size w w' := by
  have HAL := Lib.hid (alive24_any w)
  have HRG := Lib.hid (fun W => Rightr_any peer W hp.1 hp.2)
  have hsr0 : 0 ≤ secret % 2305843009213693950 := Int.emod_nonneg _ (by decide)
  have hsr1 : secret % 2305843009213693950 < 2305843009213693950 := Int.emod_lt_of_pos _ (by decide)
  have HBS := Lib.hid (fun W => Baser_any (secret % 2305843009213693950) W hsr0 (by omega))
  have HNW := Lib.hid (fun W => New_any secret W hs)
  have hsm : secret.tmod 2305843009213693950 = secret % 2305843009213693950 := Int.tmod_eq_emod_of_nonneg hs.1
  obtain ⟨s, hse⟩ : ∃ s, secret % 2305843009213693950 = s := ⟨_, rfl⟩
  rw [hse] at hsr0 hsr1 HBS HNW hsm
  have HSE := Lib.hid hse; clear hse
  by_cases h1 : 0 ≤ more ∧ more ≤ 3
  · obtain ⟨h1, h2⟩ := h1
    by_cases h3 : okP peer
    · have hD := Lib.hid (show decide (okP peer) = true by simpa using h3)
      by_cases h4 : peer = timesP 37 s
      · have hne : (peer == timesP 37 s) = true := by rw [beq_iff_eq]; exact h4
        have H4 := Lib.hid h4; clear h4
        generalize timesP 37 s = T at *
        go_enter Tryz.func4, Tryz.ntmps4
        go_wp2_with (first
          | (go_at_call 8; refine HAL.out.mono ?_; rintro e x0 ⟨rfl, e0⟩)
          | (go_at_call 18; refine (HRG.out _).mono ?_; rintro e y ⟨rfl, hy⟩; subst y; rw [hD.out])
          | (go_at_call 19; refine (HBS.out _).mono ?_; rintro e y ⟨rfl, hy⟩; subst y))
        go_ret
        exact ⟨rfl, e0⟩
      · have hne : (peer == timesP 37 s) = false := by rw [beq_eq_false_iff_ne]; exact h4
        have HTK := Lib.hid fun (A m : Nat) (W : World) (h : AgB W A s m (.pointer none) (.slice none 0 0)) (hm : W.heap[m]? = some (.map #[] 0)) => Talk0_any A s m (.pointer none) (.slice none 0 0) peer W h hm ⟨hsr0, by omega⟩ h3 hp h4
        generalize timesP 37 s = T at *
        clear h4
        go_enter Tryz.func4, Tryz.ntmps4
        go_wp2_with (first
          | (go_at_call 8; refine HAL.out.mono ?_; rintro e x0 ⟨rfl, e0⟩)
          | (go_at_call 18; refine (HRG.out _).mono ?_; rintro e y ⟨rfl, hy⟩; subst y; rw [hD.out])
          | (go_at_call 19; refine (HBS.out _).mono ?_; rintro e y ⟨rfl, hy⟩; subst y))
        obtain ⟨NN, hNN⟩ : ∃ NN : Nat, (NN : Int) = 1000 + more := ⟨(1000 + more).toNat, by omega⟩
        have HP1 := Lib.hid (length_payB 1); have HP2 := Lib.hid (length_payB 2); have HP3 := Lib.hid (length_payB 3)
        have HPY1 := Lib.hid (fun W => payload_any 1 W)
        have HPY2 := Lib.hid (fun W => payload_any 2 W)
        have HPY3 := Lib.hid (fun W => payload_any 3 W)
        go_wp2_with (first
          | (go_at_call 10; refine (HNW.out _).mono ?_; rintro e x1 ⟨rfl, hA1, hm1, hs1, hb1⟩; have e1 : Ext w x1 := Ext.tr e0 hb1; have e01 : Ext x0 x1 := hb1; clear hs1 hb1; have hAw : w.heap.size ≤ x0.heap.size + 1 := Nat.le_succ_of_le e0.size; have hmw : w.heap.size ≤ x0.heap.size := e0.size; generalize x0.heap.size + 1 = A at *; generalize hmx : x0.heap.size = m at *; have HMX := Lib.hid hmx; clear hmx)
          | (go_at_call 13; (with_reducible show Calls _ _ #[.int .u8 1] _ _); refine (HPY1.out _).mono ?_; rintro e x2 ⟨rfl, e2⟩)
          | (go_at_call 12; refine (Say0_any _ _ _ _ (payB 1) _ (hA1.below e2) HP1.out).mono ?_; rintro e x3 ⟨rfl, e3⟩; have e13 : Ext x1 x3 := Ext.tr e2 e3; have hA3 := hA1.below e13; have hm3 := ext_heap e13 hm1; have ew3 : Ext w x3 := Ext.tr e1 e13)
          | (go_at_call 11; refine (HTK.out _ _ _ hA3 hm3).mono ?_; rintro e x4 ⟨rfl, P, hP0, hA4, hm4, hP4, hM4⟩))
        have hst := Lib.hid (show QRel w A s m P peer NN (.int .i64 0) x4 from ⟨0, Nat.zero_le _, rfl, hA4, Mod.fresh ew3 hM4 (fun k hk => by simp at hk; rcases hk with rfl | rfl <;> assumption), _, hP4, OwR.nil _ _ _, fun g hg => by cases hg⟩)
        have hPw : w.heap.size ≤ P := Nat.le_trans ew3.size hP0
        clear hA4 hM4 hP4 hm4 hP0 hA3 hm3 ew3 e13 e3 e2 hA1 hm1 e1 e01
        go_loopw [11, 12] (fun i _ wr => QRel w A s m P peer NN i wr) (fun i _ _ => NN - (intOf i).toNat)
        case atStart => exact hst.out
        case round =>
          clear hst
          obtain ⟨k, hk, rfl, hA, eX, vs, hPb, hOw, hvw⟩ := hrel
          have hkm : k ≤ 1003 := by omega
          have HA := Lib.hid hA; have HPB := Lib.hid hPb; have HOW := Lib.hid hOw; have HVW := Lib.hid hvw; have HX := Lib.hid eX
          clear hA hPb hOw hvw eX
          by_cases hlt : k < NN
          · have hlti : (k : Int) < 1000 + more := by omega
            by_cases hfull : k < 1000
            · have hsl : (saidQ peer k).said.length < 1000 := by simp [saidQ]; omega
              have hnx : (⟨(saidQ peer k).pub, (saidQ peer k).said ++ [payB 2], (saidQ peer k).took, (saidQ peer k).sent, (saidQ peer k).ahead, (saidQ peer k).round, (saidQ peer k).taken⟩ : PeerL) = saidQ peer (k + 1) := by
                unfold saidQ
                simp only
                rw [show min (k + 1) 1000 = min k 1000 + 1 from by omega, List.replicate_succ']
              have HNX := Lib.hid hnx; have HSL := Lib.hid hsl
              clear hnx hsl
              go_wp2_with (first
                | (go_at_call 13; refine (HPY2.out _).mono ?_; rintro e y2 ⟨rfl, e2⟩)
                | (go_at_call 12; refine (Say_any A s m P _ vs (saidQ peer k) (payB 2) _ (HA.out.below e2) (HPB.out.below e2) (HOW.out.ext e2) HP2.out HSL.out).mono ?_; rintro e y3 ⟨rfl, hA3, vs3, hP3, hO3, hv3, hM3⟩)
                | (go_at_call 15; refine (num24_any _ _).mono ?_; rintro e y ⟨rfl, hy⟩; subst y))
              go_roundw
              case rel => exact ⟨k + 1, by omega, by go_num, hA3, Mod.fresh (Ext.tr HX.out e2) hM3 (fun g hg => by
                  rcases List.mem_cons.1 hg with rfl | hg
                  · exact hPw
                  · exact HVW.out g (by simpa using hg)), vs3, by rw [← HNX.out]; exact hP3, by rw [← HNX.out]; exact hO3, fun g hg => by
                  rcases hv3 g hg with h | h
                  · exact HVW.out g h
                  · exact Nat.le_trans (Ext.tr HX.out e2).size h⟩
              case measure => simp [intOf]; omega
            · have hsl : 1000 ≤ (saidQ peer k).said.length := by simp [saidQ]; omega
              have hnx : saidQ peer k = saidQ peer (k + 1) := by
                unfold saidQ
                rw [show min (k + 1) 1000 = min k 1000 from by omega]
              have HNX := Lib.hid hnx; have HSL := Lib.hid hsl
              clear hnx hsl
              go_wp2_with (first
                | (go_at_call 13; refine (HPY2.out _).mono ?_; rintro e y2 ⟨rfl, e2⟩)
                | (go_at_call 12; refine (Say1_any A s m P _ vs (saidQ peer k) (payB 2) _ (HA.out.below e2) (HPB.out.below e2) (HOW.out.ext e2) HP2.out HSL.out).mono ?_; rintro e y3 ⟨rfl, e3⟩; have e23 := Ext.tr e2 e3)
                | (go_at_call 15; refine (num24_any _ _).mono ?_; rintro e y ⟨rfl, hy⟩; subst y))
              go_roundw
              case rel => exact ⟨k + 1, by omega, by go_num, HA.out.below e23, Ext.tr HX.out e23, vs, by rw [← HNX.out]; exact HPB.out.below e23, by rw [← HNX.out]; exact HOW.out.ext e23, HVW.out⟩
              case measure => simp [intOf]; omega
          · have hlti : ¬ (k : Int) < 1000 + more := by omega
            go_wp2_with (first
              | (go_at_call 20; refine (Stop_any A s m _ _ _ HA.out).mono ?_; rintro e y1 ⟨rfl, hA1, hM1⟩; have e1 : Ext w y1 := Mod.fresh HX.out hM1 (fun g hg => by rw [List.mem_singleton] at hg; subst hg; exact hAw))
              | (go_at_call 13; refine (HPY3.out _).mono ?_; rintro e y2 ⟨rfl, e2⟩)
              | (go_at_call 12; refine (Say0_any A s m _ (payB 3) _ (hA1.below e2) HP3.out).mono ?_; rintro e y3 ⟨rfl, e3⟩; have e23 := Ext.tr e2 e3)
              | (go_at_call 15; refine (num24_any _ _).mono ?_; rintro e y ⟨rfl, hy⟩; subst y)
              | (go_at_call 21; refine (Got0_any A s m _ _ (hA1.below e23)).mono ?_; rintro e y ⟨rfl, hy⟩; subst y))
            go_ret
            exact ⟨rfl, Ext.tr e1 e23⟩
    · have hD := Lib.hid (show decide (okP peer) = false by simpa using h3)
      clear h3
      go_enter Tryz.func4, Tryz.ntmps4
      go_wp2_with (first
        | (go_at_call 8; refine HAL.out.mono ?_; rintro e x0 ⟨rfl, e0⟩)
        | (go_at_call 18; refine (HRG.out _).mono ?_; rintro e y ⟨rfl, hy⟩; subst y; rw [hD.out])
        | (go_at_call 19; refine (HBS.out _).mono ?_; rintro e y ⟨rfl, hy⟩; subst y))
      go_ret
      exact ⟨rfl, e0⟩
  · by_cases hm0 : 0 ≤ more
    · have hm3 : 3 < more := by omega
      have hD := Lib.hid (show decide (okP peer) = decide (okP peer) from rfl)
      clear h1
      go_enter Tryz.func4, Tryz.ntmps4
      go_wp2_with (first
        | (go_at_call 8; refine HAL.out.mono ?_; rintro e x0 ⟨rfl, e0⟩)
        | (go_at_call 18; refine (HRG.out _).mono ?_; rintro e y ⟨rfl, hy⟩; subst y; rw [hD.out])
        | (go_at_call 19; refine (HBS.out _).mono ?_; rintro e y ⟨rfl, hy⟩; subst y))
      all_goals first
        | (go_ret; exact ⟨rfl, e0⟩)
        | (exfalso; omega)
    · have hD := Lib.hid (show decide (okP peer) = decide (okP peer) from rfl)
      clear h1
      go_enter Tryz.func4, Tryz.ntmps4
      go_wp2_with (first
        | (go_at_call 8; refine HAL.out.mono ?_; rintro e x0 ⟨rfl, e0⟩)
        | (go_at_call 18; refine (HRG.out _).mono ?_; rintro e y ⟨rfl, hy⟩; subst y; rw [hD.out])
        | (go_at_call 19; refine (HBS.out _).mono ?_; rintro e y ⟨rfl, hy⟩; subst y))
      all_goals first
        | (go_ret; exact ⟨rfl, e0⟩)
        | (exfalso; omega)
end Go.Proofs.YtbgnfioggmkdeaaGreatDoor
