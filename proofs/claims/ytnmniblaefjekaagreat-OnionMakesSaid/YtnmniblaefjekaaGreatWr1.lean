/-
  Entries compared; the onion's law is alive.
-/
import Derived.Test.YtnmniblaefjekaaGreatUtl
namespace Go.Proofs.YtnmniblaefjekaaGreat
set_option linter.unusedVariables false
set_option linter.unusedSimpArgs false
open Go Go.RowKit

set_option maxRecDepth 100000 in
theorem SameEntry_any (x : Int) (l : List UInt8) (v1 v2 : Value) (w : World) (h1 : SeesB w v1 l) (h2 : SeesB w v2 l) :
    Calls Tryz.prog 34 #[.agg #[.int .u64 x, v1], .agg #[.int .u64 x, v2]] w fun e w' => e = .returned (.bool true) ∧ Below w.heap.size w w' := by
  obtain ⟨a1, c1, rfl, -, -⟩ := sees_form h1
  obtain ⟨a2, c2, rfl, -, -⟩ := sees_form h2
  have hb0 : Below w.heap.size w ((w.alloc (.cells #[.int .u64 x, .slice a1 l.length c1] 32)).alloc (.cells #[.int .u64 x, .slice a2 l.length c2] 32)) := by go_grown
  have hc1 := conv_str _ _ _ (h1.below hb0 (by decide))
  have hc2 := conv_str _ _ _ (h2.below hb0 (by decide))
  have HB := Lib.hid hb0
  clear hb0 h1 h2
  go_enter Tryz.func34, Tryz.ntmps34
  go_wp2_with fail
  go_ret
  exact ⟨by simp, HB.out⟩
theorem conv3 (a b c : Int) (W : World) : (convert 25 25 (.slice (some ⟨W.heap.size, 0, none⟩) 3 3)).run Tryz.prog (W.alloc (.cells #[.int .u8 a, .int .u8 b, .int .u8 c] 5)) = .ok (.slice (some ⟨W.heap.size, 0, none⟩) 3 3) (W.alloc (.cells #[.int .u8 a, .int .u8 b, .int .u8 c] 5 (3, 4))) :=
  Lib.run_convert_bytes_const W 25 5 #[.int .u8 a, .int .u8 b, .int .u8 c] 3 3 u_bytes u_byte
def EntC (B : Nat) (x : Int) (a : Option Addr) (c : Nat) (u : World) : Prop := Blk u B #[.int .u64 x, .slice a 3 c] 32 ∧ SeesB u (.slice a 3 c) [97, 98, 99]
theorem stabEntC (B : Nat) (x : Int) (a : Option Addr) (c : Nat) : Stab (EntC B x a c) := Stab.and (Stab.blk _ _ _) (Stab.sees _ _ _ _ (by decide))
theorem box_nil (x : Int) (inside : List UInt8) : boxL [] x inside (-1) = inside := rfl

set_option maxRecDepth 100000 in
set_option maxHeartbeats 1000000 in
theorem alive18_any (w : World) : Calls Tryz.prog 9 #[] w fun e w' => e = .returned (.bool true) ∧ Below w.heap.size w w' := by
  obtain ⟨p0, p1⟩ := timesP_pos 37 5
  have hsa := seesB_litF w [BV 97, BV 98, BV 99] 5 (3, 4) [97, 98, 99] 3 rfl rfl (by decide)
  have hb0 := Lib.hid (show Below w.heap.size w (w.alloc (.cells #[BV 97, BV 98, BV 99] 5 (3, 4))) by go_grown)
  have hA := Wrap_any [] 5 [97, 98, 99] (.slice none 0 0) _ _ (Sees.nil _ _) (fun p hp => by cases hp) ⟨by decide, by decide⟩ hsa (by decide) (by decide)
  rw [box_nil] at hA
  have hB := fun w' => Baser_any 5 w' (by decide) (by decide)
  generalize hP : timesP 37 5 = pub at *
  have HA := Lib.hid hA; have HB := Lib.hid hB
  clear hP hA hB hsa
  have hcv := fun W : World => conv3 97 98 99 W
  go_enter Tryz.func9, Tryz.ntmps9
  go_wp2_with (first
    | (go_at_call 30; refine HA.out.mono ?_; rintro e w2 ⟨v2, rfl, hown2, hb2⟩; obtain ⟨a2, c2, rfl, -, -⟩ := owns_form hown2; have hbel2 := hb0.out.trans (hb2.mono hb0.out.size))
    | (refine wpList_store_row rfl 32 _ _ rfl w2.heap.size #[.int .u64 pub, .slice a2 3 c2] _ _ rfl rfl (Blk.new _ _ _) rfl info_entry (by intro v hv; simp at hv; rcases hv with rfl | rfl <;> rfl) ?_; intro w3 hg3 hs3 hR3
       have hbel3 : Below w.heap.size w w3 := (hbel2.alloc hbel2.size _).grown hg3 (by simp only [World.size_alloc]; exact Nat.le_succ_of_le hbel2.size) (fun k hk => by cases hk; exact hbel2.size)
       have hs3' : SeesB w3 (.slice a2 3 c2) [97, 98, 99] := sees_of_owns (own_grown (hown2.alloc _) hg3 (RowT.blk (Blk.new w2 #[.int .u64 0, .slice none 0 0] 32)) (by decide))
       have hk : HoldT (EntC w2.heap.size pub a2 c2) w w3.drew := HoldT.drew (stabEntC _ _ _ _) ⟨⟨hR3, hs3'⟩, hbel3⟩
       clear hg3 hs3 hR3 hs3'))
  generalize w2.heap.size = B at *
  have hstab := stabEntC B pub a2 c2
  have hS0 : ∀ e : InC (EntC B pub a2 c2), e.u.cell? ⟨B, 0, none⟩ = some (.int .u64 pub) := fun e => by rw [e.has.1.cell]; rfl
  have hS1 : ∀ e : InC (EntC B pub a2 c2), e.u.cell? ⟨B, 1, none⟩ = some (.slice a2 3 c2) := fun e => by rw [e.has.1.cell]; rfl
  have hS2 : ∀ e : InC (EntC B pub a2 c2), (convert 25 9 (.slice a2 3 c2)).run Tryz.prog e.u = .ok (.string ⟨#[97, 98, 99]⟩) e.u := fun e => conv_str _ _ _ e.has.2
  try change Code.wp _ _ _ (Act.mk _ _) _
  haveI hne_ : Nonempty (InC (EntC B pub a2 c2)) := ⟨⟨_, (hk).1⟩⟩
  refine wp_region_tr (C := fun w_ => ∃ e_ : InC (EntC B pub a2 c2), w_ = e_.u) (.step [0, 1, 2, 3, 4, 5, 6] (.alt 7 (.step [8] (.alt 9 (.fin [10]) .nil)) .nil)) (by kernel_rfl) (by kernel_rfl) (fun _ _ _ _ hd_ h_ => ⟨hd_.symm.trans h_.1, h_.2⟩) ⟨⟨World.drew _, (hk).1⟩, rfl⟩ ?_
  have hk_ := hk
  repeat' (first
    | ((with_reducible refine wpTr_fin ?_)
       simp only [pickOps, List.flatMap_cons, List.flatMap_nil, List.drop_succ_cons, List.drop_zero, List.take_succ_cons, List.take_zero, List.cons_append, List.nil_append, List.append_nil]
       repeat (go_big_quiet_step (exact rfl))
       refine wpQuiet_nil ?_)
    | ((with_reducible refine wpTr_step ?_); simp only [pickOps, List.flatMap_cons, List.flatMap_nil, List.drop_succ_cons, List.drop_zero, List.take_succ_cons, List.take_zero, List.cons_append, List.nil_append, List.append_nil]; repeat (go_big_quiet_step (exact rfl))
       refine wpQuiet_nil ?_)
    | (with_reducible refine wpTr_one ?_)
    | (with_reducible refine wpTr_alt ?_ ?_)
    | (simp only [pickOps, List.flatMap_cons, List.flatMap_nil, List.drop_succ_cons, List.drop_zero, List.take_succ_cons, List.take_zero, List.cons_append, List.nil_append, List.append_nil]
       go_wp2_with (first
    | (go_at_call 18; refine (HB.out _).mono ?_; rintro e w5 ⟨rfl, rfl⟩))
       refine phPost_hold (by first | with_reducible assumption | exact HoldT.alloc hstab (by with_reducible assumption) _ | exact HoldT.alloc hstab (HoldT.alloc hstab (by with_reducible assumption) _) _) ?_
       intro hk_))
  go_wp2_with fail
  go_ret
  exact ⟨rfl, (show HoldT (EntC B pub a2 c2) w _ from by with_reducible assumption).2⟩
end Go.Proofs.YtnmniblaefjekaaGreat
