/-
  The law's example of keys.
-/
import Derived.Test.YtngkjngfiakmaaaDoorMak
import Derived.Test.YtngkjngfiakmaaaDoorKe
namespace Go.Proofs.YtngkjngfiakmaaaDoor
set_option linter.unusedVariables false
set_option linter.unusedSimpArgs false
open Go Go.RowKit

theorem wpList_build0 {P : Program} {ops : Array Oper} {rest : List Oper} {o : Oper} {a : Act} {w : World} {Q : Exit → Act → World → Prop} (hgd : o.guard = none) (ty : TypeId) (ho : o.op = .build ty #[])
    (r : Value) (hrun : (Instr.build ty #[]).run P w = .ok r w) (h : wpList P ops Q rest (a.put o.dst r) w) : wpList P ops Q (o :: rest) a w := by
  refine wpList_plain hgd fun K hK => ?_
  unfold Oper.wp
  simp only [execOp, ho, List.map_toArray, List.map_nil, Sem.run_bind, hrun, Result.andThen_ok, Sem.run_pure]
  exact hK _ _ h
abbrev zKey : List UInt8 := List.replicate 32 0
theorem run_buildKey0 (w : World) : (Instr.build 23 #[]).run Tryd.prog w = .ok (.agg (keyA zKey)) w := by simp [go_sem] <;> rfl
theorem makeS_ok (seed : List UInt8) (r c p : Int) : (makeS seed r c p).ok := ⟨in64_keys _ _ _ _ _, in64_keys _ _ _ _ _, in64_keys _ _ _ _ _⟩
theorem makeD_in (seed : List UInt8) (r c p : Int) : ∀ x ∈ makeD seed r c p, in64 x := fun x hx => by
  unfold makeD at hx
  simp only [List.mem_cons, List.not_mem_nil, or_false] at hx
  rcases hx with rfl | rfl | rfl <;> exact in64_keys _ _ _ _ _
theorem seesUU_lit {w : World} {u : Value} {l : List Int} (t : TypeId) (h : SeesU w u l) : SeesUU (w.alloc (.cells #[u] t)) (.slice (some ⟨w.heap.size, 0, none⟩) 1 1) [l] :=
  ⟨[u], sees_new w 1 #[u] t 1 rfl (by decide), fun i l' u' hl hu => by
    match i with
    | 0 => cases hl; cases hu; exact h.below (show Below _ _ _ from by go_grown) (by decide)
    | n + 1 => simp at hl⟩
theorem checkK_nil : checkK [] = false := rfl
set_option maxRecDepth 100000 in
set_option maxHeartbeats 2000000 in
theorem alive16_any (w : World) : Calls Tryd.prog 9 #[] w fun e w' => e = .returned (.bool true) ∧ Below w.heap.size w w' := by
  have HM := Lib.hid (Make_any zKey 0 0 0 w (by simp) ⟨by decide, by decide⟩ ⟨by decide, by decide⟩ ⟨by decide, by decide⟩ (fun n hn => by simp at hn; subst hn; exact itoa_small w 0 (by decide) (by decide)))
  have HSO := Lib.hid (makeS_ok zKey 0 0 0)
  have HDI := Lib.hid (makeD_in zKey 0 0 0)
  have HDL := Lib.hid (show (makeD zKey 0 0 0).length = 3 from rfl)
  unfold RetM at HM
  generalize makeS zKey 0 0 0 = MS at *
  generalize makeD zKey 0 0 0 = KS at *
  obtain ⟨k0, k1, k2⟩ := MS
  have HCH := Lib.hid (show checkK (chainL [⟨k0, k1, k2⟩] [KS]) = true by
    rw [check_chain (fun s hs => by rw [List.mem_singleton] at hs; subst hs; exact HSO.out) (fun l hl => by rw [List.mem_singleton] at hl; subst hl; exact HDI.out)]; rfl)
  have HPO := Lib.hid (show ∀ p ∈ chainL [⟨k0, k1, k2⟩] [KS], p.ok from chainN_ok _ _ _)
  have HCL := Lib.hid (length_chainL [⟨k0, k1, k2⟩] [KS])
  go_enter Tryd.func9, Tryd.ntmps9
  go_wp2_with (first
    | (refine wpList_build0 rfl 23 rfl _ (run_buildKey0 _) ?_)
    | (go_at_call 10; refine HM.out.mono ?_; rintro e w1 ⟨v1, rfl, hv1, hb1⟩
       obtain ⟨a1, c1, rfl, hc1, hc1'⟩ := sees_form hv1.1
       have e1 : Ext w w1 := hb1
       have HV1 := Lib.hid hv1.1
       rw [HDL.out]
       clear hb1 hv1)
    | (refine wpList_allocB rfl _ rfl _ run_allocSec ?_; intro x2 B2 hh2 hB2 e2)
    | (refine wpList_store_row rfl 27 _ _ rfl B2 (SecC k0 k1 k2) _ _ rfl rfl hh2 rfl info_sec (one_secC _ _ _) ?_; intro x3 hg3 hs3 hR3
       have e3 : Ext w1 x3 := ext_rowK e2 hg3 hB2
       clear hg3 hs3 e2)
    | (go_at_call 14; (with_reducible show Calls _ _ #[.slice none 0 0] _ _); refine (CheckK_any [] _ _ (Sees.nil _ _) (fun p hp => by cases hp) (by decide)).mono ?_; rintro e x4 ⟨rfl, hb4⟩; rw [checkK_nil]; have e4 : Ext w1 x4 := Ext.tr e3 hb4; have hR4 := hR3.below hb4; clear hb4)
    | (refine wpList_load_rowG rfl 27 (.tmp 1) rfl B2 rfl _ (SecC k0 k1 k2) (0, 0) _ hR4 Tryd.underlying27 rfl info_sec ?_)
    | (go_at_call 13
       have hS5 : SeesS (x4.alloc (.cells (SecC k0 k1 k2) 27)) (.slice (some ⟨x4.heap.size, 0, none⟩) 1 1) [⟨k0, k1, k2⟩] := sees_new x4 3 (SecC k0 k1 k2) _ 1 rfl (by decide)
       have hU5 := seesUU_lit 28 (show SeesU (x4.alloc (.cells (SecC k0 k1 k2) 27)) (.slice a1 KS.length c1) KS from HV1.out.below (show Below w1.heap.size w1 _ from Below.alloc e4 (Below.size e4) _) (by decide))
       rw [HDL.out] at hU5
       simp only [World.size_alloc] at hU5
       refine (Chain_any [⟨k0, k1, k2⟩] [KS] _ _ _ (hS5.below (show Below _ _ _ from by go_grown) (by decide)) hU5 (fun s hs => by rw [List.mem_singleton] at hs; subst hs; exact HSO.out) (fun l hl => by rw [List.mem_singleton] at hl; subst hl; exact HDI.out) (by show 1 ≤ 1000; decide)).mono ?_
       rintro e x6 ⟨v6, rfl, ho6, hb6⟩
       have e6 : Ext w1 x6 := Ext.tr (Below.alloc (Below.alloc e4 (Below.size e4) _) (Below.size (Below.alloc e4 (Below.size e4) _)) _) hb6
       clear hb6)
    | (go_at_call 14; refine (CheckK_any _ _ _ (sees_of_owns ho6) HPO.out (by rw [HCL.out]; show 1 ≤ 1000000; decide)).mono ?_; rintro e x7 ⟨rfl, hb7⟩; rw [HCH.out]; have e7 : Ext w x7 := Ext.tr e1 (Ext.tr e6 hb7)))
  go_ret
  exact ⟨rfl, e7⟩
end Go.Proofs.YtngkjngfiakmaaaDoor
