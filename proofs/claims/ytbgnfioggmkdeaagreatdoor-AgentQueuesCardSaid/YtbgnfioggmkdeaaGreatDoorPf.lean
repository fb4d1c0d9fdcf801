/-
  Keys derived: both programs.
  Expand to 32 bytes: both programs.
  Keys of secrets: both programs.
  Closed bytes: what they are.
  Bytes turned: the program.
  Bytes turned: the reference.
  Tags: both programs.
  Seal of both programs; Open of the reference.
  Keys of hops, and what stands beside: both programs.
  Onions wrapped: both programs.
-/
import Derived.Test.YtbgnfioggmkdeaaGreatDoorPe
import Derived.Test.YtbgnfioggmkdeaaGreatDoorPa
import Derived.Lib.AppendStr
import Derived.Test.YtbgnfioggmkdeaaGreatDoorPb
import Derived.Laws.OwnMore
import Derived.Test.YtbgnfioggmkdeaaGreatDoorPc
namespace Go.Proofs.YtbgnfioggmkdeaaGreatDoor
set_option linter.unusedVariables false
set_option linter.unusedSimpArgs false
open Go Go.RowKit

theorem strCells_map (s : ByteArray) : Lib.strCells s = s.data.toList.map BV := rfl
/-- append(b, s...) of a string. -/
theorem appS {W w : World} {ops : Array Oper} {rest : List Oper} {o : Oper} {a : Act} {Q : Exit → Act → World → Prop} (hgd : o.guard = none) (s x : Operand)
    (ho : o.op = .call { callee := .builtin .append, args := #[s, x], argTypes := #[44, 9] })
    (v : Value) (l : List UInt8) (hs : a.eval s = v) (hown : OwnB w W.heap.size v l) (str : ByteArray) (hx : a.eval x = .string str)
    (hb : l.length + str.size ≤ 70368744177664) (hW : Below W.heap.size W w)
    (h : ∀ v' w', OwnB w' W.heap.size v' (l ++ str.data.toList) → w.grownBy w' v.ownBlock → Below W.heap.size W w' → wpList Tryz.prog ops Q rest (a.put o.dst v') w') : wpList Tryz.prog ops Q (o :: rest) a w := by
  obtain ⟨i, hi, hz, hsize, hby⟩ := info_parts info_u8
  refine Lib.wpList_append_own_string w hgd s x _ _ ho W.heap.size 5 i Tryz.underlying44 u_string hi hz hsize hby v l.length (l.map BV) hs hown str hx (by unfold maxLen; omega) (by omega) hW.size
    (fun v' w' h1 h2 _ => h v' w' ?_ h2 (hW.grown h2 hW.size (fun k hk => (hown.lt k hk).1)))
  rw [strCells_map, ← List.map_append] at h1
  have hl : (l ++ str.data.toList).length = l.length + str.size := by rw [List.length_append]; congr 1
  unfold OwnB; rw [hl]; exact h1
/-- A call that hands back bytes in blocks of its own. -/
def RetS (l : List UInt8) (w : World) (e : Ending) (w' : World) : Prop := ∃ v', e = .returned v' ∧ SeesB w' v' l ∧ (∀ g, v'.ownBlock = some g → w.heap.size ≤ g) ∧ Below w.heap.size w w'
theorem run_sliceB_to3 (a : Option Addr) (n c k : Nat) (hk : k ≤ c) (W : World) :
    (Instr.sliceAt 44 (.slice a n c) none (some (.int .i64 k)) (some (.int .i64 k))).run Tryz.prog W = .ok (.slice (if k = 0 then a else Option.map (fun x => x.add 0) a) k k) W := by
  obtain ⟨i, hi, hz, hsize, hby⟩ := info_parts info_u8
  have h1 : (k : Int) ≤ (c : Int) := by omega
  simp [Instr.sliceAt, Instr.slice, Instr.sliceBounds, Instr.sliceBound, run_underlying Tryz.underlying44, sizeOf, typeInfo, hi, hsize, go_sem, h1, hk]
def exp32 (key info : List UInt8) : List UInt8 := mac key (info ++ [1])
theorem length_exp32 (key info : List UInt8) : (exp32 key info).length = 32 := length_mac _ _
def ExpRel (w : World) (key E : List UInt8) (out last i : Value) (wr : World) : Prop :=
  (i = .int .i64 1 ∧ OwnB wr w.heap.size out [] ∧ SeesB wr last [] ∧ Blk wr w.heap.size (keyA key) 24 ∧ Below w.heap.size w wr) ∨
  (i = .int .i64 2 ∧ OwnB wr w.heap.size out E ∧ Below w.heap.size w wr)
end Go.Proofs.YtbgnfioggmkdeaaGreatDoor
namespace Go.Proofs.YtbgnfioggmkdeaaGreatDoor
set_option linter.unusedVariables false
set_option linter.unusedSimpArgs false
open Go Go.RowKit

theorem sees_recap {w : World} {g n c c' : Nat} {l : List UInt8} {k : Nat} (h : SeesB w (.slice (some ⟨g, 0, none⟩) n c) l) (hl : l.length = k) (hc : k ≤ c') (hm : c' ≤ 9223372036854775807) : SeesB w (.slice (some ⟨g, 0, none⟩) k c') l := by
  subst hl
  obtain ⟨h1, a, c0, he, _, _, _, hb⟩ := h
  injection he with e1 _ _
  subst e1
  exact ⟨h1, _, c', rfl, hc, by unfold maxLen; omega, (fun h => nomatch h), hb⟩
set_option maxRecDepth 100000 in
set_option maxHeartbeats 2000000 in
theorem Expand_any (key : List UInt8) (info : ByteArray) (w : World) (hk : key.length = 32) (hi : info.size ≤ 1000) :
    Calls Tryz.prog 163 #[.agg (keyA key), .string info, .int .i64 32] w (RetS (exp32 key info.data.toList) w) := by
  have HK := Lib.hid hk; clear hk
  have hil : info.data.toList.length = info.size := Array.length_toList
  have hE := length_exp32 key info.data.toList
  have HE := Lib.hid (show exp32 key info.data.toList = mac key (info.data.toList ++ [1]) from rfl)
  generalize exp32 key info.data.toList = E at *
  generalize hI : info.data.toList = I at *
  have HI := Lib.hid hI; clear hI
  have HIL := Lib.hid hil; clear hil
  have HEL := Lib.hid hE; clear hE
  have hst := Lib.hid (show ExpRel w key E (.slice none 0 0) (.slice none 0 0) (.int .i64 1) (w.alloc (.cells (keyA key) 24)) from Or.inl ⟨rfl, ownB_nil _ _, Sees.nil _ _, Blk.new _ _ _, by go_grown⟩)
  go_enter Tryz.func163, Tryz.ntmps163
  go_wp2_with fail
  go_loopw [7, 8, 9, 10, 11] (fun out last i _ _ wr => ExpRel w key E out last i wr) (fun out _ _ _ _ _ => 40 - lenV out)
  case atStart => exact hst.out
  case round =>
    clear hst
    rcases hrel with ⟨rfl, hout, hlast, hB, hbel⟩ | ⟨rfl, hout, hbel⟩
    · obtain ⟨a1, c1, rfl, hc1, hc1'⟩ := owns_form hout
      obtain ⟨a2, c2, rfl, hc2, hc2'⟩ := sees_form hlast
      have hcv1 : IntKind.u8.wrap 1 = 1 := by decide
      go_wp2_with (first
        | (at_builtin; refine appS (W := wr) rfl _ _ rfl _ [] rfl hown3 info rfl (by rw [List.length_nil]; omega) hb3 ?_; intro v4 w4 hown4 hgr4 hb4; clear hgr4; rw [List.nil_append, HI.out] at hown4)
        | (at_builtin; refine appB (W := wr) rfl _ _ rfl _ I rfl (hown4.alloc _) _ [1] rfl (seesB_one _ 1 _) (by rw [HIL.out]; simp only [List.length_cons, List.length_nil]; omega) (hb4.alloc hb4.size _) ?_; intro v5 w5 hown5 hgr5 hb5; clear hgr5)
        | (go_at_call 162; refine (MacOf_any _ _ _ key (I ++ [1]) (seesB_key (hB.below hb5) HK.out) (sees_of_owns hown5) (by rw [HK.out]; omega) (by rw [List.length_append, HIL.out, List.length_cons, List.length_nil]; omega)).mono ?_; rintro e w6 ⟨rfl, hb6⟩; rw [← HE.out]; have hb6' := hb5.trans (hb6.mono hb5.size))
        | (refine wpList_store_row rfl 24 _ _ rfl w6.heap.size (keyA E) _ _ rfl rfl (Blk.new _ _ _) (by rw [keyA_size, HEL.out]; rfl) (by rw [keyA_size, HEL.out]; exact info_key) (keyA_one _) ?_; intro w7 hg7 hs7 hR7
           have hsee := seesB_key hR7 HEL.out
           have hb7 : Below wr.heap.size wr w7 := (hb6'.alloc hb6'.size _).grown hg7 (by simp only [World.size_alloc]; exact Nat.le_succ_of_le hb6'.size) (fun k hk => by cases hk; exact hb6'.size)
           have hbel7 := hbel.trans (hb7.mono hbel.size)
           have hout7 := owns_below hout hb7
           clear hg7 hs7 hR7)
        | (at_builtin; refine appB (W := w) rfl _ _ rfl _ [] rfl hout7 _ E rfl hsee (by rw [HEL.out, List.length_nil]; omega) hbel7 ?_; intro v8 w8 hown8 hgr8 hb8; clear hgr8; rw [List.nil_append] at hown8)
        | (at_builtin; refine appB (W := wr) rfl _ _ rfl (.slice none 0 0) [] rfl (ownB_nil _ _) _ [] rfl hlast (by rw [List.length_nil]; omega) (Below.refl _ _) ?_; intro v3 w3 hown3 hgr3 hb3; clear hgr3; rw [List.nil_append] at hown3))
      obtain ⟨a8, c8, rfl, _, _⟩ := owns_form hown8
      exact ⟨Or.inr ⟨rfl, hown8, hb8⟩, by show 40 - E.length < 40 - 0; rw [HEL.out]; decide⟩
    · have hsees := sees_of_owns hout
      rcases hout.2 with ⟨_, h0⟩ | ⟨g, cap, cur, rfl, hg, hh, hn, hm, hs, hx⟩
      · rw [HEL.out] at h0; cases h0
      have hret := Lib.hid (sees_recap hsees HEL.out (Nat.le_refl 32) (by decide))
      clear hsees hout hh hx hs
      rw [HEL.out] at hn ⊢
      have hcap : cap ≤ 9223372036854775807 := by unfold maxLen at hm; omega
      have hsl := fun W => run_sliceB_to3 (some ⟨g, 0, none⟩) 32 cap 32 hn W
      simp only [Nat.reduceEqDiff, if_false, Option.map_some, addr_add, Nat.add_zero] at hsl
      go_wp2_with fail
      go_ret
      exact ⟨_, rfl, hret.out, fun k hk => by cases hk; exact hg, hbel⟩

def ExpRelr (w : World) (key E : List UInt8) (out last i : Value) (wr : World) : Prop :=
  (i = .int .i64 1 ∧ OwnB wr w.heap.size out [] ∧ SeesB wr last [] ∧ Blk wr w.heap.size (keyA key) 24 ∧ Below w.heap.size w wr) ∨
  (i = .int .i64 2 ∧ SeesB wr out E ∧ Below w.heap.size w wr)
set_option maxRecDepth 100000 in
set_option maxHeartbeats 2000000 in
theorem Expandr_any (key : List UInt8) (info : ByteArray) (w : World) (hk : key.length = 32) (hi : info.size ≤ 1000) :
    Calls Tryz.prog 132 #[.agg (keyA key), .string info, .int .i64 32] w (RetS (exp32 key info.data.toList) w) := by
  have HK := Lib.hid hk; clear hk
  have hil : info.data.toList.length = info.size := Array.length_toList
  have hE := length_exp32 key info.data.toList
  have HE := Lib.hid (show exp32 key info.data.toList = mac key (info.data.toList ++ [1]) from rfl)
  generalize exp32 key info.data.toList = E at *
  generalize hI : info.data.toList = I at *
  have HI := Lib.hid hI; clear hI
  have HIL := Lib.hid hil; clear hil
  have HEL := Lib.hid hE; clear hE
  have hst := Lib.hid (show ExpRelr w key E (.slice none 0 0) (.slice none 0 0) (.int .i64 1) (w.alloc (.cells (keyA key) 24)) from Or.inl ⟨rfl, ownB_nil _ _, Sees.nil _ _, Blk.new _ _ _, by go_grown⟩)
  go_enter Tryz.func132, Tryz.ntmps132
  go_wp2_with fail
  go_loopw [7, 8, 9, 10, 11] (fun out last i _ _ wr => ExpRelr w key E out last i wr) (fun out _ _ _ _ _ => 40 - lenV out)
  case atStart => exact hst.out
  case round =>
    clear hst
    rcases hrel with ⟨rfl, hout, hlast, hB, hbel⟩ | ⟨rfl, hout, hbel⟩
    · obtain ⟨a1, c1, rfl, hc1, hc1'⟩ := owns_form hout
      obtain ⟨a2, c2, rfl, hc2, hc2'⟩ := sees_form hlast
      have hcv1 : IntKind.u8.wrap 1 = 1 := by decide
      have hand1 : bits .and .i64 1 255 = 1 := by decide
      go_wp2_with (first
        | (at_builtin; refine appS (W := wr) rfl _ _ rfl _ [] rfl hown3 info rfl (by rw [List.length_nil]; omega) hb3 ?_; intro v4 w4 hown4 hgr4 hb4; clear hgr4; rw [List.nil_append, HI.out] at hown4; have hB4 := (hB.below hb4).drew)
        | (at_builtin; refine appB (W := wr) rfl _ _ rfl (.slice none 0 0) [] rfl (ownB_nil _ _) _ [] rfl hlast (by rw [List.length_nil]; omega) (Below.refl _ _) ?_; intro v3 w3 hown3 hgr3 hb3; clear hgr3; rw [List.nil_append] at hown3))
      have hstab := Stab.blk w.heap.size (keyA key) 24
      have hk : HoldT (fun u => Blk u w.heap.size (keyA key) 24) wr w4.drew := ⟨hB4, hb4.drew⟩
      have e0 := Ext.drew w4
      have g0 := e0.g v4.ownBlock
      have hvlt : ∀ k, v4.ownBlock = some k → k < w4.heap.size := fun k hk => (hown4.lt k hk).2
      try change Code.wp _ _ _ (Act.mk _ _) _
      haveI hne_ : Nonempty (InC (fun u => Blk u w.heap.size (keyA key) 24)) := ⟨⟨_, (hk).1⟩⟩
      refine wp_region_tr (C := fun w_ => ∃ e_ : InC (fun u => Blk u w.heap.size (keyA key) 24), w_ = e_.u) (.step [0, 1, 2, 3, 4] (.alt 5 (.step [] (.alt 6 (.step [] (.alt 7 (.step [] (.alt 8 (.step [] (.alt 9 (.fin []) .nil)) .nil)) (.alt 8 (.step [] (.alt 7 (.step [] (.alt 9 (.fin []) .nil)) .nil)) .nil))) (.alt 8 (.step [] (.alt 6 (.step [] (.alt 7 (.step [] (.alt 9 (.fin []) .nil)) .nil)) .nil)) .nil))) (.alt 8 (.step [] (.alt 5 (.step [] (.alt 6 (.step [] (.alt 7 (.step [] (.alt 9 (.fin []) .nil)) .nil)) .nil)) .nil)) .nil))) (by kernel_rfl) (by kernel_rfl) (fun _ _ _ _ hd_ h_ => ⟨hd_.symm.trans h_.1, h_.2⟩) ⟨⟨World.drew _, (hk).1⟩, rfl⟩ ?_
      have hk_ := hk
      repeat' (first
        | ((with_reducible refine wpTr_fin ?_)
           simp only [pickOps, List.flatMap_cons, List.flatMap_nil, List.drop_succ_cons, List.drop_zero, List.take_succ_cons, List.take_zero, List.cons_append, List.nil_append, List.append_nil]
           repeat (go_big_quiet_step (exact rfl))
           refine wpQuiet_nil ?_)
        | ((with_reducible refine wpTr_step ?_); simp only [pickOps, List.flatMap_cons, List.flatMap_nil, List.drop_succ_cons, List.drop_zero, List.take_succ_cons, List.take_zero, List.cons_append, List.nil_append, List.append_nil]; repeat (go_big_quiet_step (exact rfl))
           refine wpQuiet_nil ?_)
        | (with_reducible refine wpTr_one ?_)
        | (with_reducible refine wpTr_alt ?_ ?_)
        | (simp only [pickOps, List.flatMap_cons, List.flatMap_nil, List.drop_succ_cons, List.drop_zero, List.take_succ_cons, List.take_zero, List.cons_append, List.nil_append, List.append_nil]
           go_wp2_with (first
        | (refine wpList_lit1 rfl _ rfl 1 rfl ?_; intro x1 B1 hlit hB1 e1; have g1 := e1.g v4.ownBlock; have hk1 := HoldT.step hstab (by with_reducible assumption) e1)
        | (refine wpList_allocB rfl _ rfl _ run_allocKey ?_; intro x2 B2 hh hB2 e2; have g2 := e2.g v4.ownBlock; have hlt2 : w4.heap.size ≤ B2 := Nat.le_trans (show ExtG v4.ownBlock w4 _ from (by first | with_reducible exact ExtG.refl _ _ | solve_by_elim (maxDepth := 8) [ExtG.tr])).size hB2; have hk2 := HoldT.step hstab (by with_reducible assumption) e2)
        | (at_builtin; refine appB (W := wr) rfl _ _ rfl v4 I rfl (owns_below hown4 (show Ext w4 _ from (by first | with_reducible exact Ext.refl _ | solve_by_elim (maxDepth := 8) [Ext.tr]))) _ [1] rfl (hlit.below (show Ext x1 _ from (by first | with_reducible exact Ext.refl _ | solve_by_elim (maxDepth := 8) [Ext.tr])) (by decide)) (by rw [HIL.out]; simp only [List.length_cons, List.length_nil]; omega) (show HoldT (fun u => Blk u w.heap.size (keyA key) 24) wr _ from by with_reducible assumption).up ?_; intro v5 x3 hown5 hg3 hb3
           have g3 : ExtG v4.ownBlock _ _ := hg3
           clear hg3
           have hk3 : HoldT (fun u => Blk u w.heap.size (keyA key) 24) wr x3 := ⟨hB.below hb3, hb3⟩)
        | (go_at_call 133; refine (Macr_any _ _ _ key (I ++ [1]) (seesB_key (show HoldT (fun u => Blk u w.heap.size (keyA key) 24) wr _ from by with_reducible assumption).has HK.out) ((sees_of_owns hown5).below (show Ext x3 _ from (by first | with_reducible exact Ext.refl _ | solve_by_elim (maxDepth := 8) [Ext.tr])) (by decide)) (by rw [HK.out]; omega) (by rw [List.length_append, HIL.out, List.length_cons, List.length_nil]; omega)).mono ?_; rintro e x4 ⟨rfl, hb6⟩; rw [← HE.out]
           have e4 : Ext _ x4 := hb6
           have g4 := e4.g v4.ownBlock
           have hk4 := HoldT.step hstab (by with_reducible assumption) e4)
        | (refine wpList_store_row rfl 24 _ _ rfl B2 (keyA E) _ _ rfl rfl (hh.grownBy (show ExtG v4.ownBlock x2 _ from (by first | with_reducible exact ExtG.refl _ _ | solve_by_elim (maxDepth := 8) [ExtG.tr])) (fun h => by have := hvlt B2 h.symm; omega)) (by rw [keyA_size, keyA_size, HEL.out]; rfl) (by rw [keyA_size, HEL.out]; exact info_key) (keyA_one _) ?_; intro x5 hg7 hs7 hR7
           have hk5 : HoldT (fun u => Blk u w.heap.size (keyA key) 24) wr x5 := ⟨Blk.grownBy (show HoldT (fun u => Blk u w.heap.size (keyA key) 24) wr _ from by with_reducible assumption).has hg7 (some_ne (by have := hB.lt; have := hb4.size; omega)), (show HoldT (fun u => Blk u w.heap.size (keyA key) 24) wr _ from by with_reducible assumption).up.grown hg7 (show HoldT (fun u => Blk u w.heap.size (keyA key) 24) wr _ from by with_reducible assumption).up.size (fun k hk => by cases hk; have := hb4.size; omega)⟩))
           refine phPost_hold (by first | with_reducible assumption | exact HoldT.alloc hstab (by with_reducible assumption) _ | exact HoldT.alloc hstab (HoldT.alloc hstab (by with_reducible assumption) _) _) ?_
           intro hk_))
      all_goals (
        go_wp2_with (first
                  | (at_builtin; refine appB (W := x5) rfl _ _ rfl (.slice none 0 0) [] rfl (ownB_nil _ _) _ E rfl (seesB_key hR7 HEL.out) (by rw [HEL.out, List.length_nil]; omega) (Below.refl _ _) ?_; intro v8 w8 hown8 hgr8 hb8; clear hgr8; rw [List.nil_append] at hown8; obtain ⟨a8, c8, rfl, hc8, hc8'⟩ := owns_form hown8; have hup8 := hk5.up.trans (hb8.mono hk5.up.size))
                  | (at_builtin; refine appB (W := w) rfl _ _ rfl _ [] rfl (owns_below hout hup8) _ E rfl (sees_of_owns hown8) (by rw [HEL.out, List.length_nil]; omega) (hbel.trans (hup8.mono hbel.size)) ?_; intro v9 w9 hown9 hgr9 hb9; clear hgr9; rw [List.nil_append] at hown9; obtain ⟨a9, c9, rfl, hc9, hc9'⟩ := owns_form hown9))
        exact ⟨Or.inr ⟨rfl, sees_of_owns hown9, hb9⟩, by show 40 - E.length < 40 - 0; rw [HEL.out]; decide⟩)
    · obtain ⟨b, o, c, rfl, hc, hc', hr⟩ := seesB_open hout (by rw [HEL.out]; decide)
      rw [HEL.out] at hc
      have hs32 : SeesB wr (.slice (some ⟨b, o, none⟩) 32 c) E := by have := hout; unfold SeesB at this ⊢; rwa [HEL.out] at this ⊢
      have hsl := fun W => run_sliceB_to (some ⟨b, o, none⟩) 32 c 32 hc W
      have hcn : ¬ c = 0 := by omega
      simp only [if_neg hcn, Option.map_some, addr_add, Nat.add_zero] at hsl
      rw [HEL.out]
      clear hr hcn
      go_wp2_with (at_builtin; refine appB (W := wr) rfl _ _ rfl (.slice none 0 0) [] rfl (ownB_nil _ _) _ E rfl hs32 (by rw [HEL.out, List.length_nil]; omega) (Below.refl _ _) ?_; intro v8 w8 hown8 hgr8 hb8; clear hgr8; rw [List.nil_append] at hown8; obtain ⟨a8, c8, rfl, hc8, hc8'⟩ := owns_form hown8)
      go_ret
      exact ⟨_, rfl, sees_of_owns hown8, fun k hk => Nat.le_trans hbel.size (hown8.lt k hk).1, hbel.trans (hb8.mono hbel.size)⟩
end Go.Proofs.YtbgnfioggmkdeaaGreatDoor
namespace Go.Proofs.YtbgnfioggmkdeaaGreatDoor
set_option linter.unusedVariables false
set_option linter.unusedSimpArgs false
open Go Go.RowKit

def keyD (secret : List UInt8) (name : List UInt8) : List UInt8 := exp32 (mac (zeroB 32) secret) name
theorem length_keyD (secret name : List UInt8) : (keyD secret name).length = 32 := length_mac _ _
set_option maxRecDepth 100000 in
set_option maxHeartbeats 2000000 in
theorem Key_any (v : Value) (secret : List UInt8) (name : ByteArray) (w : World) (hv : SeesB w v secret) (hl : secret.length ≤ 70368744170000) (hi : name.size ≤ 1000) :
    Calls Tryz.prog 116 #[v, .string name] w fun e w' => e = .returned (.agg (keyA (keyD secret name.data.toList))) ∧ Below w.heap.size w w' := by
  obtain ⟨a0, c0, rfl, hac0, hc0⟩ := sees_form hv
  have HM := Lib.hid (length_mac (zeroB 32) secret)
  have HE := Lib.hid (show keyD secret name.data.toList = exp32 (mac (zeroB 32) secret) name.data.toList from rfl)
  have HEL := Lib.hid (length_keyD secret name.data.toList)
  have hmk : ∀ W : World, (Instr.makeSlice 44 (.int .i64 32) (.int .i64 32)).run Tryz.prog W = .ok (.slice (some ⟨W.heap.size, 0, none⟩) 32 32) (W.alloc (.cells (keyA (zeroB 32)) 5)) := fun W => run_make_bytes 32 W (by decide)
  generalize keyD secret name.data.toList = D at *
  have hR0 : Blk (w.alloc (.cells (keyA (List.replicate 32 0)) 24)) w.heap.size (keyA (List.replicate 32 0)) 24 := Blk.new _ _ _
  have hbel0 : Below w.heap.size w (w.alloc (.cells (keyA (List.replicate 32 0)) 24)) := by go_grown
  have hZ0 := Blk.new2 w (.cells (keyA (List.replicate 32 0)) 24) (keyA (zeroB 32)) 5
  have hR1 := hR0.alloc (.cells (keyA (zeroB 32)) 5)
  have hbel1 := hbel0.alloc hbel0.size (.cells (keyA (zeroB 32)) 5)
  clear hR0 hbel0
  rw [keyA_zero] at hR1 hbel1 hZ0
  rw [← keyA_zero] at hR1
  have hZs := seesB_key hZ0 (length_zeroB 32)
  have HR1 := Lib.hid hR1; have HB1 := Lib.hid hbel1; have HZ := Lib.hid hZs
  clear hR1 hbel1 hZs hZ0
  go_enter Tryz.func116, Tryz.ntmps116
  go_wp2_with (first
    | (go_at_call 162; refine (MacOf_any _ _ _ (zeroB 32) secret HZ.out (hv.below HB1.out (by decide)) (by rw [length_zeroB]; decide) hl).mono ?_; rintro e w1 ⟨rfl, hb1⟩
       have hR2 := HR1.out.below hb1
       have hbel2 := HB1.out.trans (hb1.mono HB1.out.size))
    | (refine wpList_store_row rfl 24 _ _ rfl w1.heap.size (keyA (mac (zeroB 32) secret)) _ _ rfl rfl (Blk.new _ _ _) (by rw [keyA_size, HM.out]; rfl) (by rw [keyA_size, HM.out]; exact info_key) (keyA_one _) ?_; intro w3 hg3 hs3 hK3
       have hR3 := (hR2.alloc (.cells _ _)).grownBy hg3 (some_ne (by have := hR2.lt; omega))
       have hbel3 : Below w.heap.size w w3 := (hbel2.alloc hbel2.size _).grown hg3 (by simp only [World.size_alloc]; exact Nat.le_succ_of_le hbel2.size) (fun k hk => by cases hk; exact hbel2.size)
       clear hg3 hs3)
    | (refine wpList_load_row rfl 24 _ rfl w1.heap.size rfl _ _ (0, 0) _ hK3 under_key rfl (by rw [keyA_size, HM.out]; exact info_key) ?_)
    | (go_at_call 163; refine (Expand_any (mac (zeroB 32) secret) name _ HM.out hi).mono ?_; rintro e w4 ⟨v4, rfl, hs4, ho4, hb4⟩; rw [← HE.out] at hs4
       obtain ⟨b, o, c, rfl, hc, hc', hr⟩ := seesB_open hs4 (by rw [HEL.out]; decide)
       have hat := run_arrayAt ⟨b, o, none⟩ c
       rw [HEL.out]
       have hR4 := hR3.below hb4
       have hbel4 := hbel3.trans (hb4.mono hbel3.size)
       have HR := Lib.hid hr
       clear hr hs4)
    | (refine wpList_load_mid rfl 24 _ rfl b o rfl (D.map BV) _ HR.out under_key rfl (by rw [List.length_map, HEL.out]; exact info_key) ?_)
    | (refine wpList_store_row rfl 24 _ _ rfl w.heap.size (keyA D) _ _ rfl rfl hR4 (by rw [keyA_size, keyA_size, HEL.out]; rfl) (by rw [keyA_size, HEL.out]; exact info_key) (keyA_one _) ?_; intro w7 hg7 hs7 hR7))
  refine bodyPost_ret (results_cell_row Tryz.results116 _ _ w.heap.size _ _ (0, 0) _ rfl hR7 under_key rfl (by rw [keyA_size, HEL.out]; exact info_key)) rfl ⟨rfl, hbel4.grown hg7 hbel4.size (fun k hk => by cases hk; exact Nat.le_refl _)⟩

set_option maxRecDepth 100000 in
set_option maxHeartbeats 2000000 in
theorem Keyr_any (v : Value) (secret : List UInt8) (name : ByteArray) (w : World) (hv : SeesB w v secret) (hl : secret.length ≤ 70368744170000) (hi : name.size ≤ 1000) :
    Calls Tryz.prog 82 #[v, .string name] w fun e w' => e = .returned (.agg (keyA (keyD secret name.data.toList))) ∧ Below w.heap.size w w' := by
  obtain ⟨a0, c0, rfl, hac0, hc0⟩ := sees_form hv
  have HM := Lib.hid (length_mac (zeroB 32) secret)
  have HE := Lib.hid (show keyD secret name.data.toList = exp32 (mac (zeroB 32) secret) name.data.toList from rfl)
  have HEL := Lib.hid (length_keyD secret name.data.toList)
  generalize keyD secret name.data.toList = D at *
  have hz : keyA (List.replicate 32 0) = keyA (zeroB 32) := rfl
  have hR0 := ((Blk.new w (keyA (List.replicate 32 0)) 24).alloc (.cells (keyA (List.replicate 32 0)) 24)).alloc (.cells (keyA (List.replicate 32 0)) 24)
  have hZ0 := (Blk.new2 w (.cells (keyA (List.replicate 32 0)) 24) (keyA (List.replicate 32 0)) 24).alloc (.cells (keyA (List.replicate 32 0)) 24)
  have hK0 := Blk.new3 w (.cells (keyA (List.replicate 32 0)) 24) (.cells (keyA (List.replicate 32 0)) 24) (keyA (List.replicate 32 0)) 24
  have hbel0 : Below w.heap.size w (((w.alloc (.cells (keyA (List.replicate 32 0)) 24)).alloc (.cells (keyA (List.replicate 32 0)) 24)).alloc (.cells (keyA (List.replicate 32 0)) 24)) := by go_grown
  have hZs := seesB_key hZ0 (List.length_replicate ..)
  clear hZ0
  generalize hU : ((w.alloc (.cells (keyA (List.replicate 32 0)) 24)).alloc (.cells (keyA (List.replicate 32 0)) 24)).alloc (.cells (keyA (List.replicate 32 0)) 24) = u0 at *
  rw [keyA_zero] at hU
  have HU := Lib.hid hU; clear hU
  go_enter Tryz.func82, Tryz.ntmps82
  go_wp2_with (first
    | (go_at_call 133; rw [HU.out]; refine (Macr_any _ _ _ (zeroB 32) secret hZs (hv.below hbel0 (by decide)) (by rw [length_zeroB]; decide) hl).mono ?_; rintro e w1 ⟨rfl, hb1⟩
       have hR2 := hR0.below hb1
       have hK2 := hK0.below hb1
       have hbel2 := hbel0.trans (hb1.mono hbel0.size))
    | (go_at_call 132; refine (Expandr_any (mac (zeroB 32) secret) name _ HM.out hi).mono ?_; rintro e w4 ⟨v4, rfl, hs4, ho4, hb4⟩; rw [← HE.out] at hs4
       obtain ⟨b, o, c, rfl, hc, hc', hr⟩ := seesB_open hs4 (by rw [HEL.out]; decide)
       rw [HEL.out] at hc ⊢
       have hR4 := hR2.below hb4
       have hK4 := hK2.below hb4
       have hne : b ≠ w.heap.size + 1 + 1 := by have := ho4 b rfl; have := hK2.lt; omega
       have hbel4 := hbel2.trans (hb4.mono hbel2.size)
       have HR := Lib.hid hr
       clear hr hs4))
  have hblt : b < w4.heap.size := World.block_lt_of_cell? w4 _ (HR.out 0 (BV (D[0]'(by rw [HEL.out]; decide))) (by rw [List.getElem?_map, List.getElem?_eq_getElem (by rw [HEL.out]; decide)]; rfl))
  have hst := Lib.hid (show ShaRel4 w4 (w.heap.size + 1 + 1) D (.int .i64 0) w4 from ⟨0, by omega, rfl, by
    have e : arrB 32 (fun j => if j < 0 then D.getD j 0 else 0) = keyA (List.replicate 32 0) := by
      rw [keyA_arrB]
      show _ = arrB 32 _
      exact arrB_congr fun i hi => by rw [if_neg (by omega), List.getD_eq_getElem?_getD, List.getElem?_replicate, if_pos hi]; rfl
    rw [e]; exact hK4, grownBy_refl _ _⟩)
  go_loopw [8] (fun i wr => ShaRel4 w4 (w.heap.size + 1 + 1) D i wr) (fun i _ => 32 - (intOf i).toNat)
  case atStart => exact hst.out
  case round =>
    clear hst
    obtain ⟨m, hm, rfl, hC, hg⟩ := hrel
    by_cases hmlt : m < 32
    · have hc1' : wr.cell? ⟨w.heap.size + 1 + 1, m, none⟩ = some (BV 0) := by rw [hC.cell, arrB_get _ _ _ hmlt, if_neg (by omega)]
      have hcf := hC.free m
      have hcr : wr.cell? ⟨b, o + m, none⟩ = some (BV (D.getD m 0)) := by
        rw [World.cell?_of_block (w := w4) (hg.block b hblt (some_ne hne))]
        apply HR.out
        rw [List.getElem?_map, List.getD_eq_getElem?_getD, List.getElem?_eq_getElem (by rw [HEL.out]; omega)]; rfl
      generalize hbx : D.getD m 0 = bx at hcr
      have HBX := Lib.hid hbx; clear hbx
      go_wp2_with fail
      go_roundw
      case rel =>
        refine ⟨m + 1, by omega, by go_num, ?_, grownBy_set hg _ _⟩
        have := hC.set m (BV (D.getD m 0))
        rw [arrB_step, HBX.out] at this; exact this
      case measure => simp [intOf]; omega
    · obtain rfl : m = 32 := by omega
      have e : arrB 32 (fun j => if j < 32 then D.getD j 0 else 0) = keyA D := by
        rw [keyA_arrB, HEL.out]; exact arrB_congr fun i hi => by simp [hi]
      rw [e] at hC; clear e
      have hkr := hR4.grownBy hg (some_ne (by omega))
      have hbr := hbel4.grown hg hbel4.size (fun k hk => by cases hk; omega)
      go_wp2_with (first
        | (refine wpList_load_row rfl 24 _ rfl (w.heap.size + 1 + 1) rfl _ _ (0, 0) _ hC under_key rfl (by rw [keyA_size, HEL.out]; exact info_key) ?_)
        | (refine wpList_store_row rfl 24 _ _ rfl w.heap.size (keyA D) _ _ rfl rfl hkr (by rw [keyA_size, keyA_size, HEL.out]; rfl) (by rw [keyA_size, HEL.out]; exact info_key) (keyA_one _) ?_; intro w7 hg7 hs7 hR7))
      exact bodyPost_ret (results_cell_row Tryz.results82 _ _ w.heap.size _ _ (0, 0) _ rfl hR7 under_key rfl (by rw [keyA_size, HEL.out]; exact info_key)) rfl ⟨rfl, hbr.grown hg7 hbr.size (fun k hk => by cases hk; exact Nat.le_refl _)⟩
end Go.Proofs.YtbgnfioggmkdeaaGreatDoor
namespace Go.Proofs.YtbgnfioggmkdeaaGreatDoor
set_option linter.unusedVariables false
set_option linter.unusedSimpArgs false
open Go Go.RowKit

def strm (key : List UInt8) (i : Nat) : UInt8 := (mac key ([115] ++ put64 (i / 32))).getD (i % 32) 0
def turnTo (key b : List UInt8) (n : Nat) : List UInt8 := (List.range b.length).map fun i => if i < n then b.getD i 0 ^^^ strm key i else b.getD i 0
def turnL (key b : List UInt8) : List UInt8 := turnTo key b b.length
theorem length_turnTo (key b : List UInt8) (n : Nat) : (turnTo key b n).length = b.length := by simp [turnTo]
theorem length_turnL (key b : List UInt8) : (turnL key b).length = b.length := length_turnTo _ _ _
theorem turnTo_get (key b : List UInt8) (n i : Nat) (h : i < b.length) : (turnTo key b n)[i]? = some (if i < n then b.getD i 0 ^^^ strm key i else b.getD i 0) := by simp [turnTo, h]
theorem turnTo_zero (key b : List UInt8) : turnTo key b 0 = b := by
  apply List.ext_getElem?
  intro i
  by_cases h : i < b.length
  · rw [turnTo_get _ _ _ _ h, if_neg (by omega), List.getElem?_eq_getElem h, List.getD_eq_getElem?_getD, List.getElem?_eq_getElem h]; rfl
  · rw [List.getElem?_eq_none (by rw [length_turnTo]; omega), List.getElem?_eq_none (by omega)]
theorem turnTo_ge (key b : List UInt8) (n : Nat) (hn : b.length ≤ n) : turnTo key b n = turnL key b := by
  unfold turnL turnTo
  apply List.map_congr_left
  intro i hi
  have := List.mem_range.1 hi
  rw [if_pos (by omega), if_pos this]
theorem turnTo_set (key b : List UInt8) (k : Nat) : (turnTo key b k).set k (b.getD k 0 ^^^ strm key k) = turnTo key b (k + 1) := by
  apply List.ext_getElem?
  intro i
  by_cases h : i < b.length
  · rw [turnTo_get _ _ _ _ h, List.getElem?_set, turnTo_get _ _ _ _ h, length_turnTo]
    by_cases e : k = i
    · subst e; rw [if_pos rfl, if_pos h, if_pos (by omega)]
    · rw [if_neg e]
      by_cases e2 : i < k
      · rw [if_pos e2, if_pos (by omega)]
      · rw [if_neg e2, if_neg (by omega)]
  · rw [List.getElem?_eq_none (by rw [List.length_set, length_turnTo]; omega), List.getElem?_eq_none (by rw [length_turnTo]; omega)]
theorem turnL_turnL (key b : List UInt8) : turnL key (turnL key b) = b := by
  apply List.ext_getElem?
  intro i
  by_cases h : i < b.length
  · have h2 : i < (turnL key b).length := by rw [length_turnL]; exact h
    have e1 : (turnL key b).getD i 0 = b.getD i 0 ^^^ strm key i := by
      rw [List.getD_eq_getElem?_getD]; unfold turnL; rw [turnTo_get _ _ _ _ h, if_pos h]; rfl
    have e2 : (turnL key (turnL key b))[i]? = some ((turnL key b).getD i 0 ^^^ strm key i) := by
      rw [turnL, turnTo_get _ _ _ _ h2, if_pos h2]
    rw [e2, e1, UInt8.xor_assoc, UInt8.xor_self, UInt8.xor_zero, List.getD_eq_getElem?_getD, List.getElem?_eq_getElem h]; rfl
  · rw [List.getElem?_eq_none (by rw [length_turnL, length_turnL]; omega), List.getElem?_eq_none (by omega)]
def tagL (key beside c : List UInt8) : List UInt8 := (mac key (([116] ++ put64 beside.length) ++ beside ++ c)).take 16
theorem length_tagL (key beside c : List UInt8) : (tagL key beside c).length = 16 := by rw [tagL, List.length_take, length_mac]; rfl
def sealL (key beside plain : List UInt8) : List UInt8 := turnL key plain ++ tagL key beside (turnL key plain)
theorem length_sealL (key beside plain : List UInt8) : (sealL key beside plain).length = plain.length + 16 := by rw [sealL, List.length_append, length_turnL, length_tagL]
def openL (key beside b : List UInt8) : Option (List UInt8) :=
  if b.length < 16 then none
  else if tagL key beside (b.take (b.length - 16)) = b.drop (b.length - 16) then some (turnL key (b.take (b.length - 16))) else none
theorem openL_sealL (key beside plain : List UInt8) : openL key beside (sealL key beside plain) = some plain := by
  unfold openL
  rw [if_neg (by rw [length_sealL]; omega), length_sealL, Nat.add_sub_cancel]
  have e1 : (sealL key beside plain).take plain.length = turnL key plain := by
    unfold sealL; rw [List.take_append_of_le_length (by rw [length_turnL]; exact Nat.le_refl _)]; exact List.take_of_length_le (by rw [length_turnL]; exact Nat.le_refl _)
  have e2 : (sealL key beside plain).drop plain.length = tagL key beside (turnL key plain) := by
    unfold sealL; rw [← length_turnL key plain, List.drop_left]
  rw [e1, e2, if_pos rfl, turnL_turnL]
/-- A byte stored in a row of one's own. -/
theorem own_set {w : World} {B g c n : Nat} {l : List UInt8} (h : w.ownsRow B 5 1 (.slice (some ⟨g, 0, none⟩) n c) n (l.map BV)) (j : Nat) (x : UInt8) :
    (w.setCell ⟨g, j, none⟩ (BV x)).ownsRow B 5 1 (.slice (some ⟨g, 0, none⟩) n c) n ((l.set j x).map BV) := by
  rw [List.map_set]; exact (h.stored j (BV x)).1
theorem own_cell {w : World} {B g c n : Nat} {l : List UInt8} (h : w.ownsRow B 5 1 (.slice (some ⟨g, 0, none⟩) n c) n (l.map BV)) (j : Nat) (x : UInt8) (hx : l[j]? = some x) : w.cell? ⟨g, j, none⟩ = some (BV x) ∧ w.frozen? ⟨g, j, none⟩ = false := by
  rcases h.2 with ⟨h', _⟩ | ⟨g', cap, cur, h', hb, hg, hnc, hcm, hcs, htake⟩
  · simp at h'
  · simp only [Value.slice.injEq, Option.some.injEq, Addr.mk.injEq, and_true, true_and] at h'
    obtain ⟨rfl, rfl⟩ := h'
    refine ⟨?_, frozen_of_row w g j cur _ hg⟩
    rw [cell_of_row w g j cur _ (0, 0) hg, ← Array.getElem?_toList]
    have hj : (l.map BV)[j]? = some (BV x) := by rw [List.getElem?_map, hx]; rfl
    rw [← htake, List.getElem?_take] at hj
    split at hj
    · exact hj
    · cases hj
end Go.Proofs.YtbgnfioggmkdeaaGreatDoor
namespace Go.Proofs.YtbgnfioggmkdeaaGreatDoor
set_option linter.unusedVariables false
set_option linter.unusedSimpArgs false
open Go Go.RowKit

abbrev KB (B : Nat) (key : List UInt8) (u : World) : Prop := Blk u B (keyA key) 24
theorem stabKB (B : Nat) (key : List UInt8) : Stab (KB B key) := Stab.blk _ _ _
def TurnRel (w : World) (key b : List UInt8) (v i : Value) (wr : World) : Prop :=
  ∃ A j : Nat, i = .int .i64 A ∧ Hid (A = 32 * j) ∧ A ≤ b.length + 31 ∧ wr.ownsRow (w.heap.size + 1) 5 1 v b.length ((turnTo key b A).map BV) ∧ KB w.heap.size key wr ∧ Below w.heap.size w wr
def TurnRel2 (x : World) (B g c A M : Nat) (key b : List UInt8) (i : Value) (wr : World) : Prop :=
  ∃ n : Nat, A ≤ n ∧ n ≤ M ∧ i = .int .i64 n ∧ wr.ownsRow B 5 1 (.slice (some ⟨g, 0, none⟩) b.length c) b.length ((turnTo key b n).map BV) ∧ x.grownBy wr (some g)

set_option maxRecDepth 100000 in
set_option maxHeartbeats 2000000 in
theorem turned_any (key b : List UInt8) (v : Value) (w : World) (hk : key.length = 32) (hv : SeesB w v b) (hl : b.length ≤ 70368744170000) :
    Calls Tryz.prog 136 #[.agg (keyA key), v] w (RetB (turnL key b) w) := by
  have HK := Lib.hid hk; clear hk
  obtain ⟨a0, c0, rfl, hac0, hc0⟩ := sees_form hv
  have hk0 := Lib.hid (show KB w.heap.size key (w.alloc (.cells (keyA key) 24)) from Blk.new _ _ _)
  have hb0 := Lib.hid (show Below w.heap.size w (w.alloc (.cells (keyA key) 24)) by go_grown)
  go_enter Tryz.func136, Tryz.ntmps136
  go_wp2_with (at_builtin; refine appB (W := w.alloc (.cells (keyA key) 24)) rfl _ _ rfl (.slice none 0 0) [] rfl (ownB_nil _ _) _ b rfl (hv.below hb0.out (by decide)) (by simp only [List.length_nil]; omega) (Below.refl _ _) ?_; intro v1 w1 hown1 hgr1 hb1; clear hgr1; rw [List.nil_append] at hown1; obtain ⟨a1, c1, rfl, hc1, hc1'⟩ := owns_form hown1)
  have hst := Lib.hid (show TurnRel w key b (.slice a1 b.length c1) (.int .i64 0) w1 from ⟨0, 0, rfl, Lib.hid rfl, by omega, by rw [turnTo_zero]; exact owns_mono hown1 (by simp only [World.size_alloc]; exact Nat.le_refl _), hk0.out.below hb1, hb0.out.trans (hb1.mono hb0.out.size)⟩)
  clear hown1 hb1
  go_loopw [6, 7, 8] (fun i _ _ wr => TurnRel w key b (.slice a1 b.length c1) i wr) (fun i _ _ _ => b.length + 40 - (intOf i).toNat)
  case atStart => exact hst.out
  case round =>
    clear hst
    obtain ⟨A, j, rfl, HA, hA, hown, hB, hbel⟩ := hrel
    by_cases hlt : A < b.length
    · rcases hown.2 with ⟨h', h0⟩ | ⟨g, cap, cur, h', hg, _, hgc, hgm, _, _⟩
      · omega
      obtain ⟨rfl, rfl⟩ : a1 = some ⟨g, 0, none⟩ ∧ c1 = cap := by simpa using h'
      clear h'
      go_wp2_with fail
      have hstab := stabKB w.heap.size key
      have hk : HoldT (KB w.heap.size key) wr wr.drew := ⟨hB.drew, Below.drew (Below.refl _ _)⟩
      have hA32 : ((A : Int) / 32).toNat = A / 32 := by omega
      obtain ⟨S, hS⟩ : ∃ S, mac key ([115] ++ put64 (A / 32)) = S := ⟨_, rfl⟩
      have hSL : S.length = 32 := by rw [← hS]; exact length_mac _ _
      have HS := Lib.hid hS; have HSL := Lib.hid hSL
      clear hS hSL
      have hown0 := owns_below hown (Below.drew (Below.refl _ _) : Below wr.heap.size wr wr.drew)
      have hwlt : w.heap.size < wr.heap.size := hB.lt
      have e0 := Ext.drew wr
      have hgl : g < wr.heap.size := (hown.lt g rfl).2
      try change Code.wp _ _ _ (Act.mk _ _) _
      haveI hne_ : Nonempty (InC (KB w.heap.size key)) := ⟨⟨_, (hk).1⟩⟩
      refine wp_region_tr (C := fun w_ => ∃ e_ : InC (KB w.heap.size key), w_ = e_.u) (.step [0, 2, 3, 4] (.alt 1 (.step [] (.alt 5 (.step [] (.alt 6 (.step [] (.alt 7 (.step [] (.alt 8 (.fin []) .nil)) .nil)) (.alt 7 (.step [] (.alt 6 (.step [] (.alt 8 (.fin []) .nil)) .nil)) .nil))) (.alt 7 (.step [] (.alt 5 (.step [] (.alt 6 (.step [] (.alt 8 (.fin []) .nil)) .nil)) .nil)) .nil))) (.alt 7 (.step [] (.alt 1 (.step [] (.alt 5 (.step [] (.alt 6 (.step [] (.alt 8 (.fin []) .nil)) .nil)) .nil)) .nil)) .nil))) (by kernel_rfl) (by kernel_rfl) (fun _ _ _ _ hd_ h_ => ⟨hd_.symm.trans h_.1, h_.2⟩) ⟨⟨World.drew _, (hk).1⟩, rfl⟩ ?_
      have hk_ := hk
      repeat' (first
        | ((with_reducible refine wpTr_fin ?_)
           simp only [pickOps, List.flatMap_cons, List.flatMap_nil, List.drop_succ_cons, List.drop_zero, List.take_succ_cons, List.take_zero, List.cons_append, List.nil_append, List.append_nil]
           repeat (go_big_quiet_step (exact rfl))
           refine wpQuiet_nil ?_)
        | ((with_reducible refine wpTr_step ?_); simp only [pickOps, List.flatMap_cons, List.flatMap_nil, List.drop_succ_cons, List.drop_zero, List.take_succ_cons, List.take_zero, List.cons_append, List.nil_append, List.append_nil]; repeat (go_big_quiet_step (exact rfl))
           refine wpQuiet_nil ?_)
        | (with_reducible refine wpTr_one ?_)
        | (with_reducible refine wpTr_alt ?_ ?_)
        | (simp only [pickOps, List.flatMap_cons, List.flatMap_nil, List.drop_succ_cons, List.drop_zero, List.take_succ_cons, List.take_zero, List.cons_append, List.nil_append, List.append_nil]
           go_wp2_with (first
        | (refine wpList_lit1 rfl _ rfl 115 rfl ?_; intro x1 B1 hlit hB1 e1; have hk1 := HoldT.step hstab (by with_reducible assumption) e1)
        | (refine wpList_allocB rfl _ rfl _ run_allocKey ?_; intro x2 B2 hh hB2 e2; have hlt2 : wr.heap.size ≤ B2 := Nat.le_trans (show Ext wr _ from (by first | with_reducible exact Ext.refl _ | solve_by_elim (maxDepth := 8) [Ext.tr])).size hB2; have hk2 := HoldT.step hstab (by with_reducible assumption) e2)
        | (go_at_call 110; refine (Put64_any _ _ [115] _ (hlit.below (show Ext x1 _ from (by first | with_reducible exact Ext.refl _ | solve_by_elim (maxDepth := 8) [Ext.tr])) (by decide)) (by omega) (by omega) (by decide)).mono ?_; rintro e x3 ⟨v3, rfl, hown3, hb3⟩; rw [hA32] at hown3; obtain ⟨a3, c3, rfl, hc3, hc3'⟩ := owns_form hown3; have e3 : Ext _ x3 := hb3; have hk3 := HoldT.step hstab (by with_reducible assumption) e3)
        | (go_at_call 162; refine (MacOf_any _ _ _ key ([115] ++ put64 (A / 32)) (seesB_key (show HoldT (KB w.heap.size key) wr _ from by with_reducible assumption).has HK.out) ((sees_of_owns hown3).below (show Ext x3 _ from (by first | with_reducible exact Ext.refl _ | solve_by_elim (maxDepth := 8) [Ext.tr])) (by decide)) (by rw [HK.out]; omega) (by rw [List.length_append, length_put64]; decide)).mono ?_; rintro e x4 ⟨rfl, hb4⟩; rw [HS.out]; have e4 : Ext _ x4 := hb4; have hk4 := HoldT.step hstab (by with_reducible assumption) e4)
        | (refine wpList_store_row rfl 24 _ _ rfl B2 (keyA S) _ _ rfl rfl (hh.below (show Ext x2 _ from (by first | with_reducible exact Ext.refl _ | solve_by_elim (maxDepth := 8) [Ext.tr]))) (by rw [keyA_size, keyA_size, HSL.out]; rfl) (by rw [keyA_size, HSL.out]; exact info_key) (keyA_one _) ?_; intro x5 hg7 hs7 hR7
           have hk5 : HoldT (KB w.heap.size key) wr x5 := ⟨Blk.grownBy (show HoldT (KB w.heap.size key) wr _ from by with_reducible assumption).has hg7 (some_ne (by omega)), (show HoldT (KB w.heap.size key) wr _ from by with_reducible assumption).up.grown hg7 (show HoldT (KB w.heap.size key) wr _ from by with_reducible assumption).up.size (fun k hk => by cases hk; omega)⟩))
           refine phPost_hold (by first | with_reducible assumption | exact HoldT.alloc hstab (by with_reducible assumption) _ | exact HoldT.alloc hstab (HoldT.alloc hstab (by with_reducible assumption) _) _) ?_
           intro hk_))
      all_goals (
        go_wp2_with fail
        rcases Nat.lt_or_ge b.length (A + 32) with hM | hM
        · have hM' := hM
          have hownx := owns_below hown hk5.up
          have hupx := hk5.up
          have hBx := hk5.has
          have hgx : x5.heap.size = x5.heap.size := rfl
          have hnS : Hid (∀ n, A ≤ n → n < A + 32 → strm key n = S.getD (n - A) 0) := Lib.hid (fun n h1 h2 => by
            have := HA.out
            unfold strm; rw [← HS.out, show n / 32 = A / 32 from by omega, show n % 32 = n - A from by omega])
          go_loopw [8] (fun i wr' => TurnRel2 x5 (w.heap.size + 1) g c1 A (b.length) key b i wr') (fun i _ => b.length + 40 - (intOf i).toNat)
          case atStart => exact ⟨A, Nat.le_refl _, by omega, rfl, hownx, grownBy_refl _ _⟩
          case round =>
            clear hownx
            obtain ⟨n, hAn, hnM, rfl, hown2, hg2⟩ := hrel
            by_cases hn : n < b.length
            · have hnb : n < b.length := by omega
              obtain ⟨hc1x, hf1⟩ := own_cell hown2 n (b.getD n 0) (by rw [turnTo_get _ _ _ _ hnb, if_neg (by omega)])
              have hcs : wr.cell? ⟨B2, n - A, none⟩ = some (BV (strm key n)) := by
                rw [(hR7.grownBy hg2 (some_ne (by omega))).cell, hnS.out n hAn (by omega), keyA, List.getElem?_toArray, List.getElem?_map, List.getD_eq_getElem?_getD, List.getElem?_eq_getElem (by rw [HSL.out]; omega)]; rfl
              have HT := Lib.hid (turnTo_set key b n)
              generalize b.getD n 0 = p1 at *
              generalize strm key n = q1 at *
              have hx := xor_u8 p1 q1
              go_wp2_with fail
              refine wp_region_quiet_tail 11 (by kernel_rfl) (by kernel_rfl) ?_
              simp only [List.take_succ_cons, List.take_zero, List.drop_succ_cons, List.drop_zero]
              iterate 11 (go_big_quiet_step (fail))
              refine wpQuiet_nil ?_
              intro nr
              go_wp2_with fail
              go_roundw
              case rel =>
                refine ⟨n + 1, by omega, by omega, by go_num, ?_, grownBy_drewN (grownBy_set hg2 _ _) nr⟩
                rw [← HT.out]
                exact own_set hown2 n (p1 ^^^ q1)
              case measure => simp [intOf]; omega
            · obtain rfl : n = b.length := by omega
              have hbz : Below w.heap.size w wr := Below.grown (hbel.trans (hupx.mono hbel.size)) hg2 (Nat.le_trans hbel.size hupx.size) (fun k hk => by cases hk; omega)
              have hBz := Blk.grownBy hBx hg2 (some_ne (by omega))
              have hT : turnTo key b (b.length) = turnTo key b (A + 32) := by first | rfl | (rw [turnTo_ge key b b.length (Nat.le_refl _), turnTo_ge key b (A + 32) (by omega)])
              rw [hT] at hown2
              go_wp2_with fail
              exact ⟨⟨A + 32, j + 1, by go_num, Lib.hid (by have := HA.out; omega), by omega, hown2, hBz, hbz⟩, by simp [intOf]; omega⟩
        · have hM' := hM
          have hownx := owns_below hown hk5.up
          have hupx := hk5.up
          have hBx := hk5.has
          have hgx : x5.heap.size = x5.heap.size := rfl
          have hnS : Hid (∀ n, A ≤ n → n < A + 32 → strm key n = S.getD (n - A) 0) := Lib.hid (fun n h1 h2 => by
            have := HA.out
            unfold strm; rw [← HS.out, show n / 32 = A / 32 from by omega, show n % 32 = n - A from by omega])
          go_loopw [8] (fun i wr' => TurnRel2 x5 (w.heap.size + 1) g c1 A (A + 32) key b i wr') (fun i _ => b.length + 40 - (intOf i).toNat)
          case atStart => exact ⟨A, Nat.le_refl _, by omega, rfl, hownx, grownBy_refl _ _⟩
          case round =>
            clear hownx
            obtain ⟨n, hAn, hnM, rfl, hown2, hg2⟩ := hrel
            by_cases hn : n < A + 32
            · have hnb : n < b.length := by omega
              obtain ⟨hc1x, hf1⟩ := own_cell hown2 n (b.getD n 0) (by rw [turnTo_get _ _ _ _ hnb, if_neg (by omega)])
              have hcs : wr.cell? ⟨B2, n - A, none⟩ = some (BV (strm key n)) := by
                rw [(hR7.grownBy hg2 (some_ne (by omega))).cell, hnS.out n hAn (by omega), keyA, List.getElem?_toArray, List.getElem?_map, List.getD_eq_getElem?_getD, List.getElem?_eq_getElem (by rw [HSL.out]; omega)]; rfl
              have HT := Lib.hid (turnTo_set key b n)
              generalize b.getD n 0 = p1 at *
              generalize strm key n = q1 at *
              have hx := xor_u8 p1 q1
              go_wp2_with fail
              refine wp_region_quiet_tail 11 (by kernel_rfl) (by kernel_rfl) ?_
              simp only [List.take_succ_cons, List.take_zero, List.drop_succ_cons, List.drop_zero]
              iterate 11 (go_big_quiet_step (fail))
              refine wpQuiet_nil ?_
              intro nr
              go_wp2_with fail
              go_roundw
              case rel =>
                refine ⟨n + 1, by omega, by omega, by go_num, ?_, grownBy_drewN (grownBy_set hg2 _ _) nr⟩
                rw [← HT.out]
                exact own_set hown2 n (p1 ^^^ q1)
              case measure => simp [intOf]; omega
            · obtain rfl : n = A + 32 := by omega
              have hbz : Below w.heap.size w wr := Below.grown (hbel.trans (hupx.mono hbel.size)) hg2 (Nat.le_trans hbel.size hupx.size) (fun k hk => by cases hk; omega)
              have hBz := Blk.grownBy hBx hg2 (some_ne (by omega))
              have hT : turnTo key b (A + 32) = turnTo key b (A + 32) := by first | rfl | (rw [turnTo_ge key b b.length (Nat.le_refl _), turnTo_ge key b (A + 32) (by omega)])
              rw [hT] at hown2
              go_wp2_with fail
              exact ⟨⟨A + 32, j + 1, by go_num, Lib.hid (by have := HA.out; omega), by omega, hown2, hBz, hbz⟩, by simp [intOf]; omega⟩)
    · have hTT := turnTo_ge key b A (by omega)
      rw [hTT] at hown
      clear hTT
      go_wp2_with fail
      go_ret
      have hown' : OwnB wr w.heap.size (.slice a1 b.length c1) (turnL key b) := by unfold OwnB; rw [length_turnL]; exact owns_mono hown (by omega)
      exact RetB.mk hown' hbel
end Go.Proofs.YtbgnfioggmkdeaaGreatDoor
namespace Go.Proofs.YtbgnfioggmkdeaaGreatDoor
set_option linter.unusedVariables false
set_option linter.unusedSimpArgs false
open Go Go.RowKit

abbrev KC (B : Nat) (key : List UInt8) (u : World) : Prop := Blk u B (keyA key) 24
theorem stabKC (B : Nat) (key : List UInt8) : Stab (KC B key) := Stab.blk _ _ _
def StreamRel (w : World) (H : Nat) (key b : List UInt8) (v i : Value) (wr : World) : Prop :=
  ∃ n : Nat, n ≤ b.length ∧ i = .int .i64 n ∧ wr.ownsRow (w.heap.size + 1) 5 1 v b.length ((turnTo key b n).map BV) ∧ KC w.heap.size key wr ∧
    (∃ hs : List UInt8, KC H hs wr ∧ hs.length = 32 ∧ (n % 32 ≠ 0 → hs = mac key ([115] ++ put64 (n / 32)))) ∧ Below w.heap.size w wr

def KO (W : Nat) (key : List UInt8) (g c m : Nat) (l : List UInt8) (u : World) : Prop := KC W key u ∧ u.ownsRow (W + 1) 5 1 (.slice (some ⟨g, 0, none⟩) m c) m (l.map BV)
theorem stabKO (W : Nat) (key : List UInt8) (g c m : Nat) (l : List UInt8) : Stab (KO W key g c m l) := fun _ _ h hb => ⟨h.1.below hb, owns_below h.2 hb⟩
set_option maxRecDepth 100000 in
set_option maxHeartbeats 2000000 in
theorem stream_any (key b : List UInt8) (v : Value) (w : World) (hk : key.length = 32) (hv : SeesB w v b) (hl : b.length ≤ 70368744170000) :
    Calls Tryz.prog 99 #[.agg (keyA key), v] w (RetB (turnL key b) w) := by
  have HK := Lib.hid hk; clear hk
  obtain ⟨a0, c0, rfl, hac0, hc0⟩ := sees_form hv
  have hk0 := Lib.hid (show KC w.heap.size key (w.alloc (.cells (keyA key) 24)) from Blk.new _ _ _)
  have hb0 := Lib.hid (show Below w.heap.size w (w.alloc (.cells (keyA key) 24)) by go_grown)
  go_enter Tryz.func99, Tryz.ntmps99
  go_wp2_with (first
    | (at_builtin; refine appB (W := w.alloc (.cells (keyA key) 24)) rfl _ _ rfl (.slice none 0 0) [] rfl (ownB_nil _ _) _ b rfl (hv.below hb0.out (by decide)) (by simp only [List.length_nil]; omega) (Below.refl _ _) ?_; intro v1 w1 hown1 hgr1 hb1; clear hgr1; rw [List.nil_append] at hown1; obtain ⟨a1, c1, rfl, hc1, hc1'⟩ := owns_form hown1)
    | (refine wpList_allocB rfl _ rfl _ run_allocKey ?_; intro w2 H hH hHB e2))
  have hst := Lib.hid (show StreamRel w H key b (.slice a1 b.length c1) (.int .i64 0) w2 from ⟨0, by omega, rfl, by rw [turnTo_zero]; exact owns_below (owns_mono hown1 (by simp only [World.size_alloc]; exact Nat.le_refl _)) e2, (hk0.out.below hb1).below e2, ⟨_, hH, List.length_replicate .., fun h => absurd rfl h⟩, (hb0.out.trans (hb1.mono hb0.out.size)).trans (Below.mono e2 (Nat.le_trans hb0.out.size hb1.size))⟩)
  have hHw : w.heap.size < H := Nat.lt_of_lt_of_le (hk0.out.below hb1).lt hHB
  have hHown : ∀ g, (Value.slice a1 b.length c1).ownBlock = some g → g < H := fun g h => Nat.lt_of_lt_of_le (hown1.lt g h).2 hHB
  clear hown1 hb1 e2 hH
  go_loopw [7] (fun i wr => StreamRel w H key b (.slice a1 b.length c1) i wr) (fun i _ => b.length + 40 - (intOf i).toNat)
  case atStart => exact hst.out
  case round =>
    clear hst
    obtain ⟨n, hn, rfl, hown, hB, ⟨hs, hHr, hhs, hhe⟩, hbel⟩ := hrel
    by_cases hlt : n < b.length
    · rcases hown.2 with ⟨h', h0⟩ | ⟨g, cap, cur, h', hg, _, hgc, hgm, _, _⟩
      · omega
      obtain ⟨rfl, rfl⟩ : a1 = some ⟨g, 0, none⟩ ∧ c1 = cap := by simpa using h'
      clear h'
      have hgH : g < H := hHown g rfl
      obtain ⟨S, hS⟩ : ∃ S, mac key ([115] ++ put64 (n / 32)) = S := ⟨_, rfl⟩
      have hSL : S.length = 32 := by rw [← hS]; exact length_mac _ _
      have HS := Lib.hid hS; have HSL := Lib.hid hSL
      clear hSL
      by_cases hm : n % 32 = 0
      · clear hS hhe
        have hmi : ((n : Int) % 32 == 0) = true := by rw [beq_iff_eq]; omega
        have hA32 : ((n : Int) / 32).toNat = n / 32 := by omega
        go_wp2_with fail
        have hstab := stabKO w.heap.size key g c1 b.length (turnTo key b n)
        have hk : HoldT (KO w.heap.size key g c1 b.length (turnTo key b n)) w wr.drew := ⟨⟨hB.drew, owns_below hown (Below.drew (Below.refl _ _))⟩, hbel.drew⟩
        have e0 := Ext.drew wr
        try change Code.wp _ _ _ (Act.mk _ _) _
        haveI hne_ : Nonempty (InC (KO w.heap.size key g c1 b.length (turnTo key b n))) := ⟨⟨_, (hk).1⟩⟩
        refine wp_region_tr (C := fun w_ => ∃ e_ : InC (KO w.heap.size key g c1 b.length (turnTo key b n)), w_ = e_.u) (.step [0, 2, 3, 4] (.alt 1 (.step [] (.alt 5 (.step [] (.alt 6 (.step [] (.alt 7 (.fin []) .nil)) .nil)) .nil)) .nil)) (by kernel_rfl) (by kernel_rfl) (fun _ _ _ _ hd_ h_ => ⟨hd_.symm.trans h_.1, h_.2⟩) ⟨⟨World.drew _, (hk).1⟩, rfl⟩ ?_
        have hk_ := hk
        repeat' (first
          | ((with_reducible refine wpTr_fin ?_)
             simp only [pickOps, List.flatMap_cons, List.flatMap_nil, List.drop_succ_cons, List.drop_zero, List.take_succ_cons, List.take_zero, List.cons_append, List.nil_append, List.append_nil]
             repeat (go_big_quiet_step (exact rfl))
             refine wpQuiet_nil ?_)
          | ((with_reducible refine wpTr_step ?_); simp only [pickOps, List.flatMap_cons, List.flatMap_nil, List.drop_succ_cons, List.drop_zero, List.take_succ_cons, List.take_zero, List.cons_append, List.nil_append, List.append_nil]; repeat (go_big_quiet_step (exact rfl))
             refine wpQuiet_nil ?_)
          | (with_reducible refine wpTr_one ?_)
          | (with_reducible refine wpTr_alt ?_ ?_)
          | (simp only [pickOps, List.flatMap_cons, List.flatMap_nil, List.drop_succ_cons, List.drop_zero, List.take_succ_cons, List.take_zero, List.cons_append, List.nil_append, List.append_nil]
             go_wp2_with (first
          | (refine wpList_lit1 rfl _ rfl 115 rfl ?_; intro x1 B1 hlit hB1 e1; have hk1 := HoldT.step hstab (by with_reducible assumption) e1)
          | (go_at_call 91; refine (Put64r_any _ _ [115] _ (hlit.below (show Ext x1 _ from (by first | with_reducible exact Ext.refl _ | solve_by_elim (maxDepth := 8) [Ext.tr])) (by decide)) (by omega) (by omega) (by decide)).mono ?_; rintro e x3 ⟨v3, rfl, hown3, hb3⟩; rw [hA32] at hown3; obtain ⟨a3, c3, rfl, hc3, hc3'⟩ := owns_form hown3; have e3 : Ext _ x3 := hb3; have hk3 := HoldT.step hstab (by with_reducible assumption) e3)
          | (go_at_call 133; refine (Macr_any _ _ _ key ([115] ++ put64 (n / 32)) (seesB_key (show HoldT (KO w.heap.size key g c1 b.length (turnTo key b n)) w _ from by with_reducible assumption).has.1 HK.out) ((sees_of_owns hown3).below (show Ext x3 _ from (by first | with_reducible exact Ext.refl _ | solve_by_elim (maxDepth := 8) [Ext.tr])) (by decide)) (by rw [HK.out]; omega) (by rw [List.length_append, length_put64]; decide)).mono ?_; rintro e x4 ⟨rfl, hb4⟩; rw [HS.out]; have e4 : Ext _ x4 := hb4; have hk4 := HoldT.step hstab (by with_reducible assumption) e4)
          | (refine wpList_store_row rfl 24 _ _ rfl H (keyA S) _ _ rfl rfl (hHr.below (show Ext wr _ from (by first | with_reducible exact Ext.refl _ | solve_by_elim (maxDepth := 8) [Ext.tr]))) (by rw [keyA_size, keyA_size, HSL.out, hhs]) (by rw [keyA_size, HSL.out]; exact info_key) (keyA_one _) ?_; intro x5 hg7 hs7 hHx
             have hk5 : HoldT (KO w.heap.size key g c1 b.length (turnTo key b n)) w x5 := ⟨⟨hk4.has.1.grownBy hg7 (some_ne (by omega)), hk4.has.2.kept hg7 (Or.inr (show some g ≠ some H from some_ne (by omega)))⟩, hk4.up.grown hg7 hk4.up.size (fun k hk => by cases hk; omega)⟩))
             refine phPost_hold (by first | with_reducible assumption | exact HoldT.alloc hstab (by with_reducible assumption) _ | exact HoldT.alloc hstab (HoldT.alloc hstab (by with_reducible assumption) _) _) ?_
             intro hk_))
        have hBx := hk5.has.1
        have hownx := hk5.has.2
        have hbelx := hk5.up
        have hnS : Hid (strm key n = S.getD (n % 32) 0) := Lib.hid (by unfold strm; rw [HS.out])
        obtain ⟨hc1x, hf1⟩ := own_cell hownx n (b.getD n 0) (by rw [turnTo_get _ _ _ _ hlt, if_neg (by omega)])
        have hcs : x5.cell? ⟨H, n % 32, none⟩ = some (BV (strm key n)) := by
          rw [hHx.cell, hnS.out, keyA, List.getElem?_toArray, List.getElem?_map, List.getD_eq_getElem?_getD, List.getElem?_eq_getElem (by rw [HSL.out]; omega)]; rfl
        have HT := Lib.hid (turnTo_set key b n)
        generalize b.getD n 0 = p1 at *
        generalize strm key n = q1 at *
        have hx := xor_u8 p1 q1
        rw [hm] at hcs
        go_wp2_with fail
        refine wp_region_quiet_tail 12 (by kernel_rfl) (by kernel_rfl) ?_
        simp only [List.take_succ_cons, List.take_zero, List.drop_succ_cons, List.drop_zero]
        iterate 12 (go_big_quiet_step (fail))
        refine wpQuiet_nil ?_
        intro nr
        go_wp2_with fail
        go_roundw
        case rel =>
          refine ⟨n + 1, by omega, by go_num, ?_, (Blk.setCell hBx _ _ (by simp only; omega)).drewN nr, ⟨S, (Blk.setCell hHx _ _ (by simp only; omega)).drewN nr, HSL.out, fun h => by rw [← HS.out, show (n + 1) / 32 = n / 32 from by omega]⟩, below_drewN (hbelx.setCell (by simp only; omega) _) nr⟩
          rw [← HT.out]
          exact own_set hownx n (p1 ^^^ q1)
        case measure => simp [intOf]; omega
      · have hSe := hhe hm
        rw [hS] at hSe
        rw [hSe] at hHr
        clear hS hhe hSe hhs
        have hmi : ((n : Int) % 32 == 0) = false := by rw [beq_eq_false_iff_ne]; omega
        have hBx := hB; have hownx := hown; have hbelx := hbel; have hHx := hHr
        have hnS : Hid (strm key n = S.getD (n % 32) 0) := Lib.hid (by unfold strm; rw [HS.out])
        obtain ⟨hc1x, hf1⟩ := own_cell hownx n (b.getD n 0) (by rw [turnTo_get _ _ _ _ hlt, if_neg (by omega)])
        have hcs : wr.cell? ⟨H, n % 32, none⟩ = some (BV (strm key n)) := by
          rw [hHx.cell, hnS.out, keyA, List.getElem?_toArray, List.getElem?_map, List.getD_eq_getElem?_getD, List.getElem?_eq_getElem (by rw [HSL.out]; omega)]; rfl
        have HT := Lib.hid (turnTo_set key b n)
        generalize b.getD n 0 = p1 at *
        generalize strm key n = q1 at *
        have hx := xor_u8 p1 q1
        go_wp2_with fail
        refine wp_region_quiet_tail 12 (by kernel_rfl) (by kernel_rfl) ?_
        simp only [List.take_succ_cons, List.take_zero, List.drop_succ_cons, List.drop_zero]
        iterate 12 (go_big_quiet_step (fail))
        refine wpQuiet_nil ?_
        intro nr
        go_wp2_with fail
        go_roundw
        case rel =>
          refine ⟨n + 1, by omega, by go_num, ?_, (Blk.setCell hBx _ _ (by simp only; omega)).drewN nr, ⟨S, (Blk.setCell hHx _ _ (by simp only; omega)).drewN nr, HSL.out, fun h => by rw [← HS.out, show (n + 1) / 32 = n / 32 from by omega]⟩, below_drewN (hbelx.setCell (by simp only; omega) _) nr⟩
          rw [← HT.out]
          exact own_set hownx n (p1 ^^^ q1)
        case measure => simp [intOf]; omega
    · have hTT := turnTo_ge key b n (by omega)
      rw [hTT] at hown
      clear hTT
      go_wp2_with fail
      go_ret
      have hown' : OwnB wr w.heap.size (.slice a1 b.length c1) (turnL key b) := by unfold OwnB; rw [length_turnL]; exact owns_mono hown (by omega)
      exact RetB.mk hown' hbel
end Go.Proofs.YtbgnfioggmkdeaaGreatDoor
namespace Go.Proofs.YtbgnfioggmkdeaaGreatDoor
set_option linter.unusedVariables false
set_option linter.unusedSimpArgs false
open Go Go.RowKit

abbrev KD (B : Nat) (key : List UInt8) (u : World) : Prop := Blk u B (keyA key) 24
theorem stabKD (B : Nat) (key : List UInt8) : Stab (KD B key) := Stab.blk _ _ _

theorem sees_take {w : World} {g n c : Nat} {l : List UInt8} (h : SeesB w (.slice (some ⟨g, 0, none⟩) n c) l) (k : Nat) (hk : k ≤ l.length) (hl : (l.take k).length = k) : SeesB w (.slice (some ⟨g, 0, none⟩) k c) (l.take k) := by
  obtain ⟨h1, a, c0, he, hc, hm, _, hb⟩ := h
  injection he with e1 e2 e3
  subst e1; subst e3
  unfold SeesB; rw [hl]
  refine ⟨by simp; omega, _, c, rfl, by omega, hm, (fun h => nomatch h), fun h0 => ?_⟩
  obtain ⟨b, o, e, hcell⟩ := hb (by omega)
  refine ⟨b, o, e, fun j u hj => hcell j u ?_⟩
  rw [List.getElem?_map] at hj ⊢
  rw [List.getElem?_take] at hj
  split at hj
  · exact hj
  · cases hj
set_option maxRecDepth 100000 in
set_option maxHeartbeats 2000000 in
theorem tagged_any (key bs b : List UInt8) (vs v : Value) (w : World) (hk : key.length = 32) (hs : SeesB w vs bs) (hv : SeesB w v b) (hl1 : bs.length ≤ 20000000000000) (hl : b.length ≤ 20000000000000) :
    Calls Tryz.prog 135 #[.agg (keyA key), vs, v] w (RetS (tagL key bs b) w) := by
  have HK := Lib.hid hk; clear hk
  obtain ⟨a0, c0, rfl, hac0, hc0⟩ := sees_form hv
  obtain ⟨a1, c1, rfl, hac1, hc1⟩ := sees_form hs
  obtain ⟨S, hS⟩ : ∃ S, mac key (([116] ++ put64 bs.length) ++ bs ++ b) = S := ⟨_, rfl⟩
  have hSL : S.length = 32 := by rw [← hS]; exact length_mac _ _
  have HTG := Lib.hid (show tagL key bs b = S.take 16 by rw [← hS]; rfl)
  have HS := Lib.hid hS; have HSL := Lib.hid hSL
  clear hS hSL
  have hk0 := Lib.hid (show KD w.heap.size key (w.alloc (.cells (keyA key) 24)) from Blk.new _ _ _)
  have hb0 := Lib.hid (show Below w.heap.size w (w.alloc (.cells (keyA key) 24)) by go_grown)
  go_enter Tryz.func135, Tryz.ntmps135
  go_wp2_with (first
    | (refine wpList_lit1 rfl _ rfl 116 rfl ?_; intro x0 B0 hlit hB0 e0)
    | (go_at_call 110; refine (Put64_any _ _ [116] _ hlit (by omega) (by omega) (by decide)).mono ?_; rintro e x1 ⟨v1, rfl, hown1, hb1⟩; rw [Int.toNat_natCast] at hown1; obtain ⟨a3, c3, rfl, hc3, hc3'⟩ := owns_form hown1
       have hbel0 := hb0.out.trans (Below.mono e0 hb0.out.size)
       have hbel1 := hbel0.trans (hb1.mono hbel0.size)
       have hown1' := owns_mono hown1 hbel0.size
       have hB1 := (hk0.out.below e0).below hb1))
  have hstab := stabKD w.heap.size key
  have hk : HoldT (KD w.heap.size key) w x1.drew := ⟨hB1.drew, hbel1.drew⟩
  have e2 := Ext.drew x1
  have k2 := e2.k
  try change Code.wp _ _ _ (Act.mk _ _) _
  haveI hne_ : Nonempty (InC (KD w.heap.size key)) := ⟨⟨_, (hk).1⟩⟩
  refine wp_region_tr (C := fun w_ => ∃ e_ : InC (KD w.heap.size key), w_ = e_.u) (.step [0, 1, 2, 4] (.alt 3 (.step [] (.alt 5 (.step [] (.alt 6 (.step [] (.alt 7 (.step [] (.alt 8 (.fin []) .nil)) .nil)) (.alt 7 (.step [] (.alt 6 (.step [] (.alt 8 (.fin []) .nil)) .nil)) .nil))) (.alt 7 (.step [] (.alt 5 (.step [] (.alt 6 (.step [] (.alt 8 (.fin []) .nil)) .nil)) .nil)) .nil))) (.alt 7 (.step [] (.alt 3 (.step [] (.alt 5 (.step [] (.alt 6 (.step [] (.alt 8 (.fin []) .nil)) .nil)) .nil)) .nil)) .nil))) (by kernel_rfl) (by kernel_rfl) (fun _ _ _ _ hd_ h_ => ⟨hd_.symm.trans h_.1, h_.2⟩) ⟨⟨World.drew _, (hk).1⟩, rfl⟩ ?_
  have hk_ := hk
  repeat' (first
    | ((with_reducible refine wpTr_fin ?_)
       simp only [pickOps, List.flatMap_cons, List.flatMap_nil, List.drop_succ_cons, List.drop_zero, List.take_succ_cons, List.take_zero, List.cons_append, List.nil_append, List.append_nil]
       repeat (go_big_quiet_step (exact rfl))
       refine wpQuiet_nil ?_)
    | ((with_reducible refine wpTr_step ?_); simp only [pickOps, List.flatMap_cons, List.flatMap_nil, List.drop_succ_cons, List.drop_zero, List.take_succ_cons, List.take_zero, List.cons_append, List.nil_append, List.append_nil]; repeat (go_big_quiet_step (exact rfl))
       refine wpQuiet_nil ?_)
    | (with_reducible refine wpTr_one ?_)
    | (with_reducible refine wpTr_alt ?_ ?_)
    | (simp only [pickOps, List.flatMap_cons, List.flatMap_nil, List.drop_succ_cons, List.drop_zero, List.take_succ_cons, List.take_zero, List.cons_append, List.nil_append, List.append_nil]
       go_wp2_with (first
    | (refine wpList_allocB rfl _ rfl _ run_allocKey ?_; intro x3 B3 hh hB3 e3; have k3 := e3.k; have hlt3 : w.heap.size < B3 := Nat.lt_of_lt_of_le (Blk.lt hk_.has) hB3; have hk3 := HoldT.step hstab hk_ e3)
    | (at_builtin; refine appB (W := w) rfl _ _ rfl _ ([116] ++ put64 bs.length) rfl (owns_below hown1' (show Ext x1 _ from (by first | with_reducible exact Ext.refl _ | solve_by_elim (maxDepth := 8) [Ext.tr]))) _ bs rfl (hs.below hk_.up (by decide)) (by rw [List.length_append, length_put64]; simp only [List.length_cons, List.length_nil]; omega) hk_.up ?_; intro v4 x4 hown4 hg4 hb4
       have k4 := KeepK.app (owns_below hown1' (show Ext x1 _ from (by first | with_reducible exact Ext.refl _ | solve_by_elim (maxDepth := 8) [Ext.tr]))) hg4
       clear hg4
       have hk4 : HoldT (KD w.heap.size key) w x4 := ⟨k4 _ _ hk_.has, hb4⟩)
    | (at_builtin; refine appB (W := w) rfl _ _ rfl v4 (([116] ++ put64 bs.length) ++ bs) rfl (owns_below hown4 (show Ext x4 _ from (by first | with_reducible exact Ext.refl _ | solve_by_elim (maxDepth := 8) [Ext.tr]))) _ b rfl (hv.below hk_.up (by decide)) (by rw [List.length_append, List.length_append, length_put64]; simp only [List.length_cons, List.length_nil]; omega) hk_.up ?_; intro v5 x5 hown5 hg5 hb5
       have k5 := KeepK.app (owns_below hown4 (show Ext x4 _ from (by first | with_reducible exact Ext.refl _ | solve_by_elim (maxDepth := 8) [Ext.tr]))) hg5
       clear hg5
       have hk5 : HoldT (KD w.heap.size key) w x5 := ⟨k5 _ _ hk_.has, hb5⟩)
    | (go_at_call 162; refine (MacOf_any _ _ _ key (([116] ++ put64 bs.length) ++ bs ++ b) (seesB_key hk_.has HK.out) ((sees_of_owns hown5).below (show Ext x5 _ from (by first | with_reducible exact Ext.refl _ | solve_by_elim (maxDepth := 8) [Ext.tr])) (by decide)) (by rw [HK.out]; omega) (by rw [List.length_append, List.length_append, List.length_append, length_put64]; simp only [List.length_cons, List.length_nil]; omega)).mono ?_; rintro e x6 ⟨rfl, hb6⟩; rw [HS.out]; have e6 : Ext _ x6 := hb6; have k6 := e6.k; have hk6 := HoldT.step hstab hk_ e6)
    | (refine wpList_store_row rfl 24 _ _ rfl B3 (keyA S) _ _ rfl rfl ((show KeepK x3 _ from (by first | with_reducible exact KeepK.refl _ | solve_by_elim (maxDepth := 8) [KeepK.tr])) _ _ hh) (by rw [keyA_size, keyA_size, HSL.out]; rfl) (by rw [keyA_size, HSL.out]; exact info_key) (keyA_one _) ?_; intro x7 hg7 hs7 hR7
       have hk7 : HoldT (KD w.heap.size key) w x7 := ⟨Blk.grownBy hk_.has hg7 (some_ne (by omega)), hk_.up.grown hg7 hk_.up.size (fun k hk => by cases hk; omega)⟩))
       refine phPost_hold (by first | with_reducible assumption | exact HoldT.alloc hstab (by with_reducible assumption) _ | exact HoldT.alloc hstab (HoldT.alloc hstab (by with_reducible assumption) _) _) ?_
       intro hk_))
  all_goals (
    go_wp2_with fail
    go_ret
    exact ⟨_, rfl, (by rw [HTG.out]; exact sees_take (seesB_key hR7 HSL.out) 16 (by rw [HSL.out]; decide) (by rw [List.length_take, HSL.out]; rfl)), (fun k hk => by cases hk; exact Nat.le_of_lt hlt3), hk_.up⟩)

set_option maxRecDepth 100000 in
set_option maxHeartbeats 2000000 in
theorem tag_any (key bs b : List UInt8) (vs v : Value) (w : World) (hk : key.length = 32) (hs : SeesB w vs bs) (hv : SeesB w v b) (hl1 : bs.length ≤ 20000000000000) (hl : b.length ≤ 20000000000000) :
    Calls Tryz.prog 100 #[.agg (keyA key), vs, v] w (RetB (tagL key bs b) w) := by
  have HK := Lib.hid hk; clear hk
  obtain ⟨a0, c0, rfl, hac0, hc0⟩ := sees_form hv
  obtain ⟨a1, c1, rfl, hac1, hc1⟩ := sees_form hs
  obtain ⟨S, hS⟩ : ∃ S, mac key (([116] ++ put64 bs.length) ++ bs ++ b) = S := ⟨_, rfl⟩
  have hSL : S.length = 32 := by rw [← hS]; exact length_mac _ _
  have HTG := Lib.hid (show tagL key bs b = S.take 16 by rw [← hS]; rfl)
  have HS := Lib.hid hS; have HSL := Lib.hid hSL
  clear hS hSL
  have hk0 := Lib.hid (show KD w.heap.size key (w.alloc (.cells (keyA key) 24)) from Blk.new _ _ _)
  have hb0 := Lib.hid (show Below w.heap.size w (w.alloc (.cells (keyA key) 24)) by go_grown)
  go_enter Tryz.func100, Tryz.ntmps100
  go_wp2_with (first
    | (refine wpList_lit1 rfl _ rfl 116 rfl ?_; intro x0 B0 hlit hB0 e0)
    | (go_at_call 91; refine (Put64r_any _ _ [116] _ hlit (by omega) (by omega) (by decide)).mono ?_; rintro e x1 ⟨v1, rfl, hown1, hb1⟩; rw [Int.toNat_natCast] at hown1; obtain ⟨a3, c3, rfl, hc3, hc3'⟩ := owns_form hown1
       have hbel0 := hb0.out.trans (Below.mono e0 hb0.out.size)
       have hbel1 := hbel0.trans (hb1.mono hbel0.size)
       have hown1' := owns_mono hown1 hbel0.size
       have hB1 := (hk0.out.below e0).below hb1)
    | (at_builtin; refine appB (W := w) rfl _ _ rfl _ ([116] ++ put64 bs.length) rfl hown1' _ bs rfl (hs.below hbel1 (by decide)) (by rw [List.length_append, length_put64]; simp only [List.length_cons, List.length_nil]; omega) hbel1 ?_; intro v4 x4 hown4 hg4 hb4
       have k4 := KeepK.app hown1' hg4
       have hB4 := k4 _ _ hB1
       clear hg4))
  have hstab := stabKD w.heap.size key
  have hk : HoldT (KD w.heap.size key) w x4.drew := ⟨hB4.drew, hb4.drew⟩
  have e2 := Ext.drew x4
  have k2 := e2.k
  try change Code.wp _ _ _ (Act.mk _ _) _
  haveI hne_ : Nonempty (InC (KD w.heap.size key)) := ⟨⟨_, (hk).1⟩⟩
  refine wp_region_tr (C := fun w_ => ∃ e_ : InC (KD w.heap.size key), w_ = e_.u) (.step [0, 1, 2] (.alt 3 (.step [] (.alt 4 (.step [] (.alt 5 (.step [] (.alt 6 (.fin []) .nil)) .nil)) (.alt 5 (.step [] (.alt 4 (.step [] (.alt 6 (.fin []) .nil)) .nil)) .nil))) (.alt 5 (.step [] (.alt 3 (.step [] (.alt 4 (.step [] (.alt 6 (.fin []) .nil)) .nil)) .nil)) .nil))) (by kernel_rfl) (by kernel_rfl) (fun _ _ _ _ hd_ h_ => ⟨hd_.symm.trans h_.1, h_.2⟩) ⟨⟨World.drew _, (hk).1⟩, rfl⟩ ?_
  have hk_ := hk
  repeat' (first
    | ((with_reducible refine wpTr_fin ?_)
       simp only [pickOps, List.flatMap_cons, List.flatMap_nil, List.drop_succ_cons, List.drop_zero, List.take_succ_cons, List.take_zero, List.cons_append, List.nil_append, List.append_nil]
       repeat (go_big_quiet_step (exact rfl))
       refine wpQuiet_nil ?_)
    | ((with_reducible refine wpTr_step ?_); simp only [pickOps, List.flatMap_cons, List.flatMap_nil, List.drop_succ_cons, List.drop_zero, List.take_succ_cons, List.take_zero, List.cons_append, List.nil_append, List.append_nil]; repeat (go_big_quiet_step (exact rfl))
       refine wpQuiet_nil ?_)
    | (with_reducible refine wpTr_one ?_)
    | (with_reducible refine wpTr_alt ?_ ?_)
    | (simp only [pickOps, List.flatMap_cons, List.flatMap_nil, List.drop_succ_cons, List.drop_zero, List.take_succ_cons, List.take_zero, List.cons_append, List.nil_append, List.append_nil]
       go_wp2_with (first
    | (refine wpList_allocB rfl _ rfl _ run_allocKey ?_; intro x3 B3 hh hB3 e3; have k3 := e3.k; have hlt3 : w.heap.size < B3 := Nat.lt_of_lt_of_le (Blk.lt hk_.has) hB3; have hk3 := HoldT.step hstab hk_ e3)
    | (at_builtin; refine appB (W := w) rfl _ _ rfl v4 (([116] ++ put64 bs.length) ++ bs) rfl (owns_below hown4 (show Ext x4 _ from (by first | with_reducible exact Ext.refl _ | solve_by_elim (maxDepth := 8) [Ext.tr]))) _ b rfl (hv.below hk_.up (by decide)) (by rw [List.length_append, List.length_append, length_put64]; simp only [List.length_cons, List.length_nil]; omega) hk_.up ?_; intro v5 x5 hown5 hg5 hb5
       have k5 := KeepK.app (owns_below hown4 (show Ext x4 _ from (by first | with_reducible exact Ext.refl _ | solve_by_elim (maxDepth := 8) [Ext.tr]))) hg5
       clear hg5
       have hk5 : HoldT (KD w.heap.size key) w x5 := ⟨k5 _ _ hk_.has, hb5⟩)
    | (go_at_call 133; refine (Macr_any _ _ _ key (([116] ++ put64 bs.length) ++ bs ++ b) (seesB_key hk_.has HK.out) ((sees_of_owns hown5).below (show Ext x5 _ from (by first | with_reducible exact Ext.refl _ | solve_by_elim (maxDepth := 8) [Ext.tr])) (by decide)) (by rw [HK.out]; omega) (by rw [List.length_append, List.length_append, List.length_append, length_put64]; simp only [List.length_cons, List.length_nil]; omega)).mono ?_; rintro e x6 ⟨rfl, hb6⟩; rw [HS.out]; have e6 : Ext _ x6 := hb6; have k6 := e6.k; have hk6 := HoldT.step hstab hk_ e6)
    | (refine wpList_store_row rfl 24 _ _ rfl B3 (keyA S) _ _ rfl rfl ((show KeepK x3 _ from (by first | with_reducible exact KeepK.refl _ | solve_by_elim (maxDepth := 8) [KeepK.tr])) _ _ hh) (by rw [keyA_size, keyA_size, HSL.out]; rfl) (by rw [keyA_size, HSL.out]; exact info_key) (keyA_one _) ?_; intro x7 hg7 hs7 hR7
       have hk7 : HoldT (KD w.heap.size key) w x7 := ⟨Blk.grownBy hk_.has hg7 (some_ne (by omega)), hk_.up.grown hg7 hk_.up.size (fun k hk => by cases hk; omega)⟩))
       refine phPost_hold (by first | with_reducible assumption | exact HoldT.alloc hstab (by with_reducible assumption) _ | exact HoldT.alloc hstab (HoldT.alloc hstab (by with_reducible assumption) _) _) ?_
       intro hk_))
  all_goals (
    have h16 := sees_take (seesB_key hR7 HSL.out) 16 (by rw [HSL.out]; decide) (by rw [List.length_take, HSL.out]; rfl)
    rw [← HTG.out] at h16
    go_wp2_with (at_builtin; refine appB (W := w) rfl _ _ rfl (.slice none 0 0) [] rfl (ownB_nil _ _) _ (tagL key bs b) rfl h16 (by rw [length_tagL, List.length_nil]; omega) hk_.up ?_; intro v8 w8 hown8 hgr8 hb8; clear hgr8; rw [List.nil_append] at hown8; obtain ⟨a8, c8, rfl, hc8, hc8'⟩ := owns_form hown8)
    go_ret
    exact RetB.mk hown8 hb8)
end Go.Proofs.YtbgnfioggmkdeaaGreatDoor
namespace Go.Proofs.YtbgnfioggmkdeaaGreatDoor
set_option linter.unusedVariables false
set_option linter.unusedSimpArgs false
open Go Go.RowKit

set_option maxRecDepth 100000 in
set_option maxHeartbeats 2000000 in
theorem Seal_any (key bs b : List UInt8) (vs v : Value) (w : World) (hk : key.length = 32) (hs : SeesB w vs bs) (hv : SeesB w v b) (hl1 : bs.length ≤ 20000000000000) (hl : b.length ≤ 20000000000000) :
    Calls Tryz.prog 119 #[.agg (keyA key), vs, v] w (RetB (sealL key bs b) w) := by
  have HK := Lib.hid hk
  obtain ⟨a0, c0, rfl, hac0, hc0⟩ := sees_form hv
  obtain ⟨a1, c1, rfl, hac1, hc1⟩ := sees_form hs
  have HE := Lib.hid (show sealL key bs b = turnL key b ++ tagL key bs (turnL key b) from rfl)
  have hTL := length_turnL key b
  generalize hT : turnL key b = T at *
  have HT := Lib.hid hT; clear hT
  have hGL := length_tagL key bs T
  generalize hG : tagL key bs T = G at *
  have HG := Lib.hid hG; clear hG
  have hk0 := Lib.hid (show KD w.heap.size key (w.alloc (.cells (keyA key) 24)) from Blk.new _ _ _)
  have hb0 := Lib.hid (show Below w.heap.size w (w.alloc (.cells (keyA key) 24)) by go_grown)
  have HTL := Lib.hid hTL; have HGL := Lib.hid hGL; clear hTL hGL hk
  go_enter Tryz.func119, Tryz.ntmps119
  go_wp2_with (first
    | (go_at_call 136; refine (turned_any key b _ _ HK.out (hv.below hb0.out (by decide)) (by omega)).mono ?_; rintro e x1 ⟨v1, rfl, hown1, hb1⟩; rw [HT.out] at hown1; obtain ⟨a3, c3, rfl, hc3, hc3'⟩ := owns_form hown1
       have hbel1 := hb0.out.trans (hb1.mono hb0.out.size)
       have hB1 := hk0.out.below hb1
       have hown1' := owns_mono hown1 hb0.out.size)
    | (go_at_call 135; refine (tagged_any key bs T _ _ _ HK.out (hs.below hbel1 (by decide)) (sees_of_owns hown1) hl1 (by rw [HTL.out]; omega)).mono ?_; rintro e x2 ⟨v2, rfl, hs2, ho2, hb2⟩; rw [HG.out] at hs2
       have hsee2 := hs2
       obtain ⟨a4, c4, rfl, hc4, hc4'⟩ := sees_form hsee2
       have hbel2 := hbel1.trans (hb2.mono hbel1.size)
       have hown2 := owns_below hown1' hb2)
    | (refine wpList_load_row rfl 24 _ rfl w.heap.size rfl _ _ (0, 0) _ hk0.out under_key rfl (by rw [keyA_size, HK.out]; exact info_key) ?_)
    | (refine wpList_load_row rfl 24 _ rfl w.heap.size rfl _ _ (0, 0) _ hB1 under_key rfl (by rw [keyA_size, HK.out]; exact info_key) ?_)
    | (at_builtin; refine appB (W := w) rfl _ _ rfl _ T rfl hown2 _ G rfl hsee2 (by rw [HTL.out, HGL.out]; omega) hbel2 ?_; intro v5 x5 hown5 hg5 hb5; rw [← HE.out] at hown5))
  go_ret
  exact RetB.mk hown5 hb5
set_option maxRecDepth 100000 in
set_option maxHeartbeats 2000000 in
theorem Sealr_any (key bs b : List UInt8) (vs v : Value) (w : World) (hk : key.length = 32) (hs : SeesB w vs bs) (hv : SeesB w v b) (hl1 : bs.length ≤ 20000000000000) (hl : b.length ≤ 20000000000000) :
    Calls Tryz.prog 60 #[.agg (keyA key), vs, v] w (RetB (sealL key bs b) w) := by
  have HK := Lib.hid hk
  obtain ⟨a0, c0, rfl, hac0, hc0⟩ := sees_form hv
  obtain ⟨a1, c1, rfl, hac1, hc1⟩ := sees_form hs
  have HE := Lib.hid (show sealL key bs b = turnL key b ++ tagL key bs (turnL key b) from rfl)
  have hTL := length_turnL key b
  generalize hT : turnL key b = T at *
  have HT := Lib.hid hT; clear hT
  have hGL := length_tagL key bs T
  generalize hG : tagL key bs T = G at *
  have HG := Lib.hid hG; clear hG
  have hk0 := Lib.hid (show KD w.heap.size key (w.alloc (.cells (keyA key) 24)) from Blk.new _ _ _)
  have hb0 := Lib.hid (show Below w.heap.size w (w.alloc (.cells (keyA key) 24)) by go_grown)
  have HTL := Lib.hid hTL; have HGL := Lib.hid hGL; clear hTL hGL hk
  go_enter Tryz.func60, Tryz.ntmps60
  go_wp2_with (first
    | (go_at_call 99; refine (stream_any key b _ _ HK.out (hv.below hb0.out (by decide)) (by omega)).mono ?_; rintro e x1 ⟨v1, rfl, hown1, hb1⟩; rw [HT.out] at hown1; obtain ⟨a3, c3, rfl, hc3, hc3'⟩ := owns_form hown1
       have hbel1 := hb0.out.trans (hb1.mono hb0.out.size)
       have hB1 := hk0.out.below hb1
       have hown1' := owns_mono hown1 hb0.out.size)
    | (go_at_call 100; refine (tag_any key bs T _ _ _ HK.out (hs.below hbel1 (by decide)) (sees_of_owns hown1) hl1 (by rw [HTL.out]; omega)).mono ?_; rintro e x2 ⟨v2, rfl, hs2, hb2⟩; rw [HG.out] at hs2
       have hsee2 := sees_of_owns hs2
       obtain ⟨a4, c4, rfl, hc4, hc4'⟩ := sees_form hsee2
       have hbel2 := hbel1.trans (hb2.mono hbel1.size)
       have hown2 := owns_below hown1' hb2)
    | (refine wpList_load_row rfl 24 _ rfl w.heap.size rfl _ _ (0, 0) _ hk0.out under_key rfl (by rw [keyA_size, HK.out]; exact info_key) ?_)
    | (refine wpList_load_row rfl 24 _ rfl w.heap.size rfl _ _ (0, 0) _ hB1 under_key rfl (by rw [keyA_size, HK.out]; exact info_key) ?_)
    | (at_builtin; refine appB (W := w) rfl _ _ rfl _ T rfl hown2 _ G rfl hsee2 (by rw [HTL.out, HGL.out]; omega) hbel2 ?_; intro v5 x5 hown5 hg5 hb5; rw [← HE.out] at hown5))
  go_ret
  exact RetB.mk hown5 hb5
end Go.Proofs.YtbgnfioggmkdeaaGreatDoor
namespace Go.Proofs.YtbgnfioggmkdeaaGreatDoor
set_option linter.unusedVariables false
set_option linter.unusedSimpArgs false
open Go Go.RowKit

def hopS : ByteArray := ⟨#[104, 111, 112]⟩
def hopK (s : Int) : List UInt8 := keyD (put64 s.toNat) hopS.data.toList
theorem length_hopK (s : Int) : (hopK s).length = 32 := length_keyD _ _

set_option maxRecDepth 100000 in
set_option maxHeartbeats 1000000 in
theorem HopKey_any (s : Int) (w : World) (hs : in64 s) :
    Calls Tryz.prog 191 #[.int .u64 s] w fun e w' => e = .returned (.agg (keyA (hopK s))) ∧ Below w.heap.size w w' := by
  obtain ⟨p0, p1⟩ := hs
  have hR0 : Blk (w.alloc (.cells (keyA (List.replicate 32 0)) 24)) w.heap.size (keyA (List.replicate 32 0)) 24 := Blk.new _ _ _
  have hbel0 : Below w.heap.size w (w.alloc (.cells (keyA (List.replicate 32 0)) 24)) := by go_grown
  rw [keyA_zero] at hR0 hbel0
  rw [← keyA_zero] at hR0
  have HR0 := Lib.hid hR0; have HB0 := Lib.hid hbel0
  clear hR0 hbel0
  have HE := Lib.hid (show hopK s = keyD (put64 s.toNat) hopS.data.toList from rfl)
  have HL := Lib.hid (length_hopK s)
  generalize hopK s = E at *
  go_enter Tryz.func191, Tryz.ntmps191
  go_wp2_with (first
    | (go_at_call 69; refine (Bytes_any _ _ (by omega) (by omega)).mono ?_; rintro e w1 ⟨v1, rfl, hown1, hb1⟩; have hR1 := HR0.out.below hb1; have hbel1 := HB0.out.trans (hb1.mono HB0.out.size))
    | (go_at_call 116; refine (Key_any _ (put64 s.toNat) hopS _ (sees_of_owns hown1) (by rw [length_put64]; decide) (by decide)).mono ?_; rintro e w2 ⟨rfl, hb2⟩; rw [← HE.out]; have hR2 := hR1.below hb2; have hbel2 := hbel1.trans (hb2.mono hbel1.size))
    | (refine wpList_store_row rfl 24 _ _ rfl w.heap.size (keyA E) _ _ rfl rfl hR2 (by rw [keyA_size, keyA_size, HL.out, List.length_replicate]) (by rw [keyA_size, HL.out]; exact info_key) (keyA_one _) ?_; intro w3 hg3 hs3 hR3))
  refine bodyPost_ret (results_cell_row Tryz.results191 _ _ w.heap.size _ _ (0, 0) _ rfl hR3 under_key rfl (by rw [keyA_size, HL.out]; exact info_key)) rfl ⟨rfl, hbel2.grown hg3 hbel2.size (fun k hk => by cases hk; exact Nat.le_refl _)⟩
set_option maxRecDepth 100000 in
set_option maxHeartbeats 1000000 in
theorem HopKeyr_any (s : Int) (w : World) (hs : in64 s) :
    Calls Tryz.prog 129 #[.int .u64 s] w fun e w' => e = .returned (.agg (keyA (hopK s))) ∧ Below w.heap.size w w' := by
  obtain ⟨p0, p1⟩ := hs
  have hR0 : Blk (w.alloc (.cells (keyA (List.replicate 32 0)) 24)) w.heap.size (keyA (List.replicate 32 0)) 24 := Blk.new _ _ _
  have hbel0 : Below w.heap.size w (w.alloc (.cells (keyA (List.replicate 32 0)) 24)) := by go_grown
  rw [keyA_zero] at hR0 hbel0
  rw [← keyA_zero] at hR0
  have HR0 := Lib.hid hR0; have HB0 := Lib.hid hbel0
  clear hR0 hbel0
  have HE := Lib.hid (show hopK s = keyD (put64 s.toNat) hopS.data.toList from rfl)
  have HL := Lib.hid (length_hopK s)
  generalize hopK s = E at *
  go_enter Tryz.func129, Tryz.ntmps129
  go_wp2_with (first
    | (go_at_call 83; refine (Bytesr_any _ _ (by omega) (by omega)).mono ?_; rintro e w1 ⟨v1, rfl, hown1, hb1⟩; have hR1 := HR0.out.below hb1; have hbel1 := HB0.out.trans (hb1.mono HB0.out.size))
    | (go_at_call 82; refine (Keyr_any _ (put64 s.toNat) hopS _ (sees_of_owns hown1) (by rw [length_put64]; decide) (by decide)).mono ?_; rintro e w2 ⟨rfl, hb2⟩; rw [← HE.out]; have hR2 := hR1.below hb2; have hbel2 := hbel1.trans (hb2.mono hbel1.size))
    | (refine wpList_store_row rfl 24 _ _ rfl w.heap.size (keyA E) _ _ rfl rfl hR2 (by rw [keyA_size, keyA_size, HL.out, List.length_replicate]) (by rw [keyA_size, HL.out]; exact info_key) (keyA_one _) ?_; intro w3 hg3 hs3 hR3))
  refine bodyPost_ret (results_cell_row Tryz.results129 _ _ w.heap.size _ _ (0, 0) _ rfl hR3 under_key rfl (by rw [keyA_size, HL.out]; exact info_key)) rfl ⟨rfl, hbel2.grown hg3 hbel2.size (fun k hk => by cases hk; exact Nat.le_refl _)⟩

/-- A place as a number of 64 bits. -/
def u64of (n : Int) : Int := IntKind.u64.wrap n
theorem u64of_nat (n : Nat) (h : n < 18446744073709551616) : u64of n = n := by unfold u64of; rw [IntKind.wrap_u64]; omega
theorem in64_u64of (n : Int) : in64 (u64of n) := by unfold u64of; rw [IntKind.wrap_u64]; exact ⟨by omega, by omega⟩
set_option maxHeartbeats 1000000 in
theorem Beside_any (n : Nat) (w : World) (hn : n ≤ 9223372036854775807) :
    Calls Tryz.prog 192 #[.int .i64 n] w (RetB (put64 n) w) := by
  go_enter Tryz.func192, Tryz.ntmps192
  go_wp2_with (go_at_call 110; refine (Put64_any _ _ [] _ (Sees.nil _ _) (by omega) (by omega) (by simp)).mono ?_; rintro e w1 ⟨v1, rfl, hown1, hb1⟩; rw [List.nil_append, Int.toNat_natCast] at hown1)
  go_ret
  exact RetB.mk hown1 hb1
set_option maxHeartbeats 1000000 in
theorem place_any (n : Nat) (w : World) (hn : n ≤ 9223372036854775807) :
    Calls Tryz.prog 130 #[.int .i64 n] w (RetB (put64 n) w) := by
  go_enter Tryz.func130, Tryz.ntmps130
  go_wp2_with (go_at_call 91; refine (Put64r_any _ _ [] _ (Sees.nil _ _) (by omega) (by omega) (by simp)).mono ?_; rintro e w1 ⟨v1, rfl, hown1, hb1⟩; rw [List.nil_append, Int.toNat_natCast] at hown1)
  go_ret
  exact RetB.mk hown1 hb1
end Go.Proofs.YtbgnfioggmkdeaaGreatDoor
namespace Go.Proofs.YtbgnfioggmkdeaaGreatDoor
set_option linter.unusedVariables false
set_option linter.unusedSimpArgs false
open Go Go.RowKit

structure Pub where
  (base blind mix inner c1 s1 c2 s2 c3 s3 : Int)
def Pub.cells (p : Pub) : List Value := [.int .u64 p.base, .int .u64 p.blind, .int .u64 p.mix, .int .u64 p.inner, .int .u64 p.c1, .int .u64 p.s1, .int .u64 p.c2, .int .u64 p.s2, .int .u64 p.c3, .int .u64 p.s3]
def Pub.ok (p : Pub) : Prop := in64 p.base ∧ in64 p.blind ∧ in64 p.mix ∧ in64 p.inner ∧ in64 p.c1 ∧ in64 p.s1 ∧ in64 p.c2 ∧ in64 p.s2 ∧ in64 p.c3 ∧ in64 p.s3
theorem Pub.length_cells (p : Pub) : p.cells.length = 10 := rfl
abbrev SeesP (w : World) (v : Value) (ps : List Pub) : Prop := Sees w 10 v ps.length (ps.flatMap Pub.cells)
theorem flatMap_at {α β : Type} {f : α → List β} {k : Nat} (hk : ∀ a, (f a).length = k) : ∀ (l : List α) (i j : Nat) (a : α), l[i]? = some a → j < k → (l.flatMap f)[i * k + j]? = (f a)[j]?
  | [], i, j, a, h, _ => by simp at h
  | x :: l, 0, j, a, h, hj => by
    cases h
    rw [Nat.zero_mul, Nat.zero_add, List.flatMap_cons, List.getElem?_append_left (by rw [hk]; exact hj)]
  | x :: l, i + 1, j, a, h, hj => by
    rw [List.flatMap_cons, List.getElem?_append_right (by rw [hk, Nat.succ_mul]; omega), hk, show (i + 1) * k + j - k = i * k + j from by rw [Nat.succ_mul]; omega]
    exact flatMap_at hk l i j a (by simpa using h) hj
theorem seesP_open {w : World} {v : Value} {ps : List Pub} (h : SeesP w v ps) (hn : 0 < ps.length) : ∃ b o c, v = .slice (some ⟨b, o, none⟩) ps.length c ∧ ps.length ≤ c ∧ c ≤ 9223372036854775807 ∧
    ∀ (i j : Nat) (p : Pub) (u : Value), ps[i]? = some p → p.cells[j]? = some u → w.cell? ⟨b, o + (i * 10 + j), none⟩ = some u := by
  obtain ⟨hl, a, c, rfl, hc, hm, hnc, hb⟩ := h
  obtain ⟨b, o, rfl, hcell⟩ := hb hn
  refine ⟨b, o, c, rfl, hc, by unfold maxLen at hm; omega, fun i j p u hp hu => hcell _ u ?_⟩
  have hj : j < 10 := by have := (List.getElem?_eq_some_iff.1 hu).1; rw [p.length_cells] at this; exact this
  rw [flatMap_at Pub.length_cells ps i j p hp hj]; exact hu

def turnK (k : List UInt8) (t : Bool) : List UInt8 := if t then k.set 0 (k.getD 0 0 ^^^ 1) else k
theorem length_turnK (k : List UInt8) (t : Bool) : (turnK k t).length = k.length := by unfold turnK; split <;> simp
/-- The box behind the last n places; at: the place whose key is turned. -/
def spoilL (ps : List Pub) (x : Int) (inside : List UInt8) (at_ : Int) : Nat → List UInt8
  | 0 => inside
  | n + 1 => sealL (turnK (hopK (timesP (((ps[ps.length - 1 - n]?).map Pub.mix).getD 0) x)) (decide (((ps.length - 1 - n : Nat) : Int) = at_))) (put64 (ps.length - 1 - n)) (spoilL ps x inside at_ n)
theorem length_spoilL (ps : List Pub) (x : Int) (inside : List UInt8) (at_ : Int) (n : Nat) : (spoilL ps x inside at_ n).length = inside.length + 16 * n := by
  induction n with
  | zero => simp [spoilL]
  | succ n ih => rw [spoilL, length_sealL, ih]; omega
def boxL (ps : List Pub) (x : Int) (inside : List UInt8) (at_ : Int) : List UInt8 := spoilL ps x inside at_ ps.length
theorem length_boxL (ps : List Pub) (x : Int) (inside : List UInt8) (at_ : Int) : (boxL ps x inside at_).length = inside.length + 16 * ps.length := length_spoilL _ _ _ _ _
/-- A call that hands back an entry whose box is the call's own. -/
def RetE (x : Int) (box : List UInt8) (w : World) (e : Ending) (w' : World) : Prop := ∃ v', e = .returned (.agg #[.int .u64 x, v']) ∧ OwnB w' w.heap.size v' box ∧ Below w.heap.size w w'
def SpRel (w : World) (ps : List Pub) (x : Int) (inside : List UInt8) (at_ : Int) (box i : Value) (wr : World) : Prop :=
  ∃ n : Nat, n ≤ ps.length ∧ i = .int .i64 ((ps.length : Int) - 1 - n) ∧ OwnB wr w.heap.size box (spoilL ps x inside at_ n) ∧ Blk wr w.heap.size #[.int .u64 0, .slice none 0 0] 46 ∧ Below w.heap.size w wr
theorem info_entry : (Tryz.prog.info? 46).map (·.size) = some 2 := by kernel_rfl

theorem keyA_set (l : List UInt8) (i : Nat) (x : UInt8) : (keyA l).setIfInBounds i (BV x) = keyA (l.set i x) := by
  unfold keyA; rw [List.setIfInBounds_toArray, List.map_set]
abbrev KE (B : Nat) (key : List UInt8) (u : World) : Prop := Blk u B (keyA key) 24
theorem stabKE (B : Nat) (key : List UInt8) : Stab (KE B key) := Stab.blk _ _ _

set_option maxRecDepth 100000 in
set_option maxHeartbeats 2000000 in
theorem Spoiled_any (ps : List Pub) (x at_ : Int) (inside : List UInt8) (vl v : Value) (w : World) (hps : SeesP w vl ps) (hok : ∀ p ∈ ps, p.ok) (hx : in64 x) (hv : SeesB w v inside)
    (hl : inside.length ≤ 10000000000000) (hpl : ps.length ≤ 100000000) (hat : -9223372036854775808 ≤ at_ ∧ at_ ≤ 9223372036854775807) :
    Calls Tryz.prog 169 #[vl, .int .u64 x, v, .int .i64 at_] w (RetE (timesP 37 x) (boxL ps x inside at_) w) := by
  obtain ⟨x0, x1⟩ := hx; obtain ⟨at0, at1⟩ := hat
  obtain ⟨a0, c0, rfl, hac0, hc0⟩ := sees_form hv
  have HP := Lib.hid hps
  obtain ⟨a1, c1, rfl, hac1, hc1⟩ := sees_form hps
  clear hps
  have hR0 := Lib.hid (Blk.new w #[.int .u64 0, .slice none 0 0] 46)
  have hb0 := Lib.hid (show Below w.heap.size w (w.alloc (.cells #[.int .u64 0, .slice none 0 0] 46)) by go_grown)
  have HOK := Lib.hid hok; clear hok
  obtain ⟨B0, hB0⟩ : ∃ B0, B0 = w.heap.size + 1 := ⟨_, rfl⟩
  go_enter Tryz.func169, Tryz.ntmps169
  go_wp2_with (at_builtin; refine appB (W := w) rfl _ _ rfl (.slice none 0 0) [] rfl (ownB_nil _ _) _ inside rfl (hv.below hb0.out (by decide)) (by simp only [List.length_nil]; omega) hb0.out ?_; intro v1 w1 hown1 hgr1 hb1; rw [List.nil_append] at hown1; have hR1 := hR0.out.grownBy hgr1 (fun e => by cases e); clear hgr1)
  go_loopw [9, 10, 11] (fun box i _ wr => SpRel w ps x inside at_ box i wr) (fun _ i _ _ => (intOf i + 1).toNat)
  case atStart => exact ⟨0, by omega, by go_num, hown1, hR1, hb1⟩
  case round =>
    clear hown1 hR1 hb1
    obtain ⟨n, hn, rfl, hown, hR, hbel⟩ := hrel
    obtain ⟨a2, c2, rfl, hac2, hc2⟩ := owns_form hown
    have hlen := length_spoilL ps x inside at_ n
    by_cases hlt : n < ps.length
    · obtain ⟨P, hPe⟩ : ∃ P : Nat, P + n + 1 = ps.length := ⟨ps.length - 1 - n, by omega⟩
      have hP1 : ps.length - 1 - n = P := by omega
      rw [show (ps.length : Int) - 1 - n = (P : Int) from by omega]
      have hPl : P < ps.length := by omega
      obtain ⟨b, o, c, hve, hcl, hcm, hcell⟩ := seesP_open (HP.out.below hbel (by decide)) (by omega)
      obtain ⟨rfl, rfl⟩ : a1 = some ⟨b, o, none⟩ ∧ c1 = c := by injection hve with e1 _ e3; exact ⟨e1, e3⟩
      have hcm2 : wr.cell? ⟨b, o + P * 10 + 2, none⟩ = some (.int .u64 ps[P].mix) := by rw [Nat.add_assoc]; exact hcell P 2 ps[P] _ (List.getElem?_eq_getElem hPl) rfl
      clear hcell hve
      obtain ⟨m0, m1⟩ : in64 ps[P].mix := (HOK.out _ (List.getElem_mem hPl)).2.2.1
      have hsp : spoilL ps x inside at_ (n + 1) = sealL (turnK (hopK (timesP ps[P].mix x)) (decide ((P : Int) = at_))) (put64 P) (spoilL ps x inside at_ n) := by
        rw [spoilL, hP1, List.getElem?_eq_getElem hPl]; rfl
      have HSP := Lib.hid hsp; clear hsp
      generalize ps[P].mix = mx at *
      obtain ⟨t0, t1⟩ := timesP_pos mx x
      have hKL := length_hopK (timesP mx x)
      generalize hKe : hopK (timesP mx x) = K at *
      have HKe := Lib.hid hKe; have HKL := Lib.hid hKL
      clear hKe hKL
      generalize hBX : spoilL ps x inside at_ n = bx at *
      clear hBX
      have HLEN := Lib.hid hlen; clear hlen
      have hb8 : Hid (bx.length ≤ 20000000000000) := Lib.hid (by rw [HLEN.out]; omega)
      have hcx := fun h0 : UInt8 => (show bits .xor .u8 (h0.toNat : Int) 1 = ((h0 ^^^ 1).toNat : Int) from xor_u8 h0 1)
      by_cases hat : (P : Int) = at_
      · have hbe : ((P : Int) == at_) = true := by rw [beq_iff_eq]; exact hat
        have HK2 := Lib.hid (show turnK K (decide ((P : Int) = at_)) = K.set 0 (K.getD 0 0 ^^^ 1) by unfold turnK; rw [decide_eq_true hat]; rfl)
        clear hat
        go_wp2_with (first
          | (go_at_call 128; refine (Times_any _ _ _ (by omega) (by omega) (by omega) (by omega)).mono ?_; rintro e w' ⟨rfl, rfl⟩)
          | (go_at_call 191; refine (HopKey_any _ _ ⟨by omega, by omega⟩).mono ?_; rintro e x5 ⟨rfl, hb5⟩; rw [HKe.out]; have e5 : Ext _ x5 := hb5)
          | (refine wpList_allocB rfl _ rfl _ run_allocKey ?_; intro x6 B hh hB e6)
          | (refine wpList_store_row rfl 24 _ _ rfl B (keyA K) _ _ rfl rfl hh (by rw [keyA_size, keyA_size, HKL.out]; rfl) (by rw [keyA_size, HKL.out]; exact info_key) (keyA_one _) ?_; intro x7 hg7 hs7 hR7
             have hup7 : Below wr.heap.size wr x7 := (e5.tr e6 : Below _ _ _).grown hg7 (e5.tr e6).size (fun k hk => by cases hk; exact Nat.le_trans e5.size hB)
             have hc7 : x7.cell? ⟨B, 0, none⟩ = some (BV (K.getD 0 0)) := by rw [hR7.cell, keyA, List.getElem?_toArray, List.getElem?_map, List.getD_eq_getElem?_getD, List.getElem?_eq_getElem (by rw [HKL.out]; decide)]; rfl
             have hf7 := hR7.free 0
             clear hg7 hs7))
        have hB' : wr.heap.size ≤ B := Nat.le_trans e5.size hB
        have hR8 := hR7.set 0 (BV (K.getD 0 0 ^^^ 1))
        rw [keyA_set, ← HK2.out] at hR8
        have hup8 := Below.setCell hup7 (p := ⟨B, 0, none⟩) hB' (BV (K.getD 0 0 ^^^ 1))
        have hKL2 := length_turnK K (decide ((P : Int) = at_))
        rw [HKL.out] at hKL2
        generalize turnK K (decide ((P : Int) = at_)) = K2 at *
        have HKL2 := Lib.hid hKL2; clear hKL2
        have hstab := stabKE B K2
        have hk := HoldT.drew hstab (show HoldT (KE B K2) wr _ from ⟨hR8, hup8⟩)
        try change Code.wp _ _ _ (Act.mk _ _) _
        haveI hne_ : Nonempty (InC (KE B K2)) := ⟨⟨_, (hk).1⟩⟩
        refine wp_region_tr (C := fun w_ => ∃ e_ : InC (KE B K2), w_ = e_.u) (.step [0, 1, 3] (.alt 2 (.step [] (.alt 4 (.fin [5]) .nil)) .nil)) (by kernel_rfl) (by kernel_rfl) (fun _ _ _ _ hd_ h_ => ⟨hd_.symm.trans h_.1, h_.2⟩) ⟨⟨World.drew _, (hk).1⟩, rfl⟩ ?_
        have hk_ := hk
        repeat' (first
          | ((with_reducible refine wpTr_fin ?_)
             simp only [pickOps, List.flatMap_cons, List.flatMap_nil, List.drop_succ_cons, List.drop_zero, List.take_succ_cons, List.take_zero, List.cons_append, List.nil_append, List.append_nil]
             repeat (first | ((refine wpQuiet_load_row rfl 24 _ rfl B rfl _ (keyA K2) (0, 0) _ (fun w_ hw_ => by obtain ⟨e_, rfl⟩ := hw_; exact e_.has) under_key rfl (by rw [keyA_size, HKL2.out]; exact info_key) ?_; simp only [Act.put, List.setIfInBounds_toArray, List.set_cons_succ, List.set_cons_zero])) | go_big_quiet_step (exact rfl))
             refine wpQuiet_nil ?_)
          | ((with_reducible refine wpTr_step ?_); simp only [pickOps, List.flatMap_cons, List.flatMap_nil, List.drop_succ_cons, List.drop_zero, List.take_succ_cons, List.take_zero, List.cons_append, List.nil_append, List.append_nil]; repeat (first | ((refine wpQuiet_load_row rfl 24 _ rfl B rfl _ (keyA K2) (0, 0) _ (fun w_ hw_ => by obtain ⟨e_, rfl⟩ := hw_; exact e_.has) under_key rfl (by rw [keyA_size, HKL2.out]; exact info_key) ?_; simp only [Act.put, List.setIfInBounds_toArray, List.set_cons_succ, List.set_cons_zero])) | go_big_quiet_step (exact rfl))
             refine wpQuiet_nil ?_)
          | (with_reducible refine wpTr_one ?_)
          | (with_reducible refine wpTr_alt ?_ ?_)
          | (simp only [pickOps, List.flatMap_cons, List.flatMap_nil, List.drop_succ_cons, List.drop_zero, List.take_succ_cons, List.take_zero, List.cons_append, List.nil_append, List.append_nil]
             go_wp2_with (first
          | (go_at_call 192; refine (Beside_any P _ (by omega)).mono ?_; rintro e y1 ⟨v4, rfl, hown4, hb4⟩; obtain ⟨a4, c4, rfl, hac4, hc4⟩ := owns_form hown4; have hk4 := HoldT.step hstab hk_ hb4)
          | (go_at_call 119; refine (Seal_any K2 (put64 P) bx _ _ _ HKL2.out (sees_of_owns hown4) ((sees_of_owns hown).below hk_.up (by decide)) (by rw [length_put64]; decide) hb8.out).mono ?_; rintro e y2 ⟨v5, rfl, hown5, hb5⟩; rw [← HSP.out] at hown5; obtain ⟨a5, c5, rfl, hac5, hc5⟩ := owns_form hown5; have hk5 := HoldT.step hstab hk_ hb5))
             refine phPost_hold (by first | with_reducible assumption | exact HoldT.alloc hstab (by with_reducible assumption) _ | exact HoldT.alloc hstab (HoldT.alloc hstab (by with_reducible assumption) _) _) ?_
             intro hk_))
        go_wp2_with fail
        exact ⟨⟨n + 1, by omega, congrArg (Value.int .i64) (by omega), owns_mono hown5 (Nat.le_trans hbel.size hk4.up.size), hR.below hk_.up, hbel.trans (hk_.up.mono hbel.size)⟩, by simp only [intOf]; omega⟩
      · have hbe : ((P : Int) == at_) = false := by rw [beq_eq_false_iff_ne]; exact hat
        have HK2 := Lib.hid (show turnK K (decide ((P : Int) = at_)) = K by unfold turnK; rw [decide_eq_false hat]; rfl)
        clear hat
        go_wp2_with (first
          | (go_at_call 128; refine (Times_any _ _ _ (by omega) (by omega) (by omega) (by omega)).mono ?_; rintro e w' ⟨rfl, rfl⟩)
          | (go_at_call 191; refine (HopKey_any _ _ ⟨by omega, by omega⟩).mono ?_; rintro e x5 ⟨rfl, hb5⟩; rw [HKe.out]; have e5 : Ext _ x5 := hb5)
          | (refine wpList_allocB rfl _ rfl _ run_allocKey ?_; intro x6 B hh hB e6)
          | (refine wpList_store_row rfl 24 _ _ rfl B (keyA K) _ _ rfl rfl hh (by rw [keyA_size, keyA_size, HKL.out]; rfl) (by rw [keyA_size, HKL.out]; exact info_key) (keyA_one _) ?_; intro x7 hg7 hs7 hR8
             have hup8 : Below wr.heap.size wr x7 := (e5.tr e6 : Below _ _ _).grown hg7 (e5.tr e6).size (fun k hk => by cases hk; exact Nat.le_trans e5.size hB)
             clear hg7 hs7))
        have hB' : wr.heap.size ≤ B := Nat.le_trans e5.size hB
        rw [← HK2.out] at hR8
        have hKL2 := length_turnK K (decide ((P : Int) = at_))
        rw [HKL.out] at hKL2
        generalize turnK K (decide ((P : Int) = at_)) = K2 at *
        have HKL2 := Lib.hid hKL2; clear hKL2
        have hstab := stabKE B K2
        have hk := HoldT.drew hstab (show HoldT (KE B K2) wr _ from ⟨hR8, hup8⟩)
        try change Code.wp _ _ _ (Act.mk _ _) _
        haveI hne_ : Nonempty (InC (KE B K2)) := ⟨⟨_, (hk).1⟩⟩
        refine wp_region_tr (C := fun w_ => ∃ e_ : InC (KE B K2), w_ = e_.u) (.step [0, 1, 3] (.alt 2 (.step [] (.alt 4 (.fin [5]) .nil)) .nil)) (by kernel_rfl) (by kernel_rfl) (fun _ _ _ _ hd_ h_ => ⟨hd_.symm.trans h_.1, h_.2⟩) ⟨⟨World.drew _, (hk).1⟩, rfl⟩ ?_
        have hk_ := hk
        repeat' (first
          | ((with_reducible refine wpTr_fin ?_)
             simp only [pickOps, List.flatMap_cons, List.flatMap_nil, List.drop_succ_cons, List.drop_zero, List.take_succ_cons, List.take_zero, List.cons_append, List.nil_append, List.append_nil]
             repeat (first | ((refine wpQuiet_load_row rfl 24 _ rfl B rfl _ (keyA K2) (0, 0) _ (fun w_ hw_ => by obtain ⟨e_, rfl⟩ := hw_; exact e_.has) under_key rfl (by rw [keyA_size, HKL2.out]; exact info_key) ?_; simp only [Act.put, List.setIfInBounds_toArray, List.set_cons_succ, List.set_cons_zero])) | go_big_quiet_step (exact rfl))
             refine wpQuiet_nil ?_)
          | ((with_reducible refine wpTr_step ?_); simp only [pickOps, List.flatMap_cons, List.flatMap_nil, List.drop_succ_cons, List.drop_zero, List.take_succ_cons, List.take_zero, List.cons_append, List.nil_append, List.append_nil]; repeat (first | ((refine wpQuiet_load_row rfl 24 _ rfl B rfl _ (keyA K2) (0, 0) _ (fun w_ hw_ => by obtain ⟨e_, rfl⟩ := hw_; exact e_.has) under_key rfl (by rw [keyA_size, HKL2.out]; exact info_key) ?_; simp only [Act.put, List.setIfInBounds_toArray, List.set_cons_succ, List.set_cons_zero])) | go_big_quiet_step (exact rfl))
             refine wpQuiet_nil ?_)
          | (with_reducible refine wpTr_one ?_)
          | (with_reducible refine wpTr_alt ?_ ?_)
          | (simp only [pickOps, List.flatMap_cons, List.flatMap_nil, List.drop_succ_cons, List.drop_zero, List.take_succ_cons, List.take_zero, List.cons_append, List.nil_append, List.append_nil]
             go_wp2_with (first
          | (go_at_call 192; refine (Beside_any P _ (by omega)).mono ?_; rintro e y1 ⟨v4, rfl, hown4, hb4⟩; obtain ⟨a4, c4, rfl, hac4, hc4⟩ := owns_form hown4; have hk4 := HoldT.step hstab hk_ hb4)
          | (go_at_call 119; refine (Seal_any K2 (put64 P) bx _ _ _ HKL2.out (sees_of_owns hown4) ((sees_of_owns hown).below hk_.up (by decide)) (by rw [length_put64]; decide) hb8.out).mono ?_; rintro e y2 ⟨v5, rfl, hown5, hb5⟩; rw [← HSP.out] at hown5; obtain ⟨a5, c5, rfl, hac5, hc5⟩ := owns_form hown5; have hk5 := HoldT.step hstab hk_ hb5))
             refine phPost_hold (by first | with_reducible assumption | exact HoldT.alloc hstab (by with_reducible assumption) _ | exact HoldT.alloc hstab (HoldT.alloc hstab (by with_reducible assumption) _) _) ?_
             intro hk_))
        go_wp2_with fail
        exact ⟨⟨n + 1, by omega, congrArg (Value.int .i64) (by omega), owns_mono hown5 (Nat.le_trans hbel.size hk4.up.size), hR.below hk_.up, hbel.trans (hk_.up.mono hbel.size)⟩, by simp only [intOf]; omega⟩
    · obtain rfl : n = ps.length := by omega
      rw [show (ps.length : Int) - 1 - ps.length = -1 from by omega]
      go_wp2_with (first
        | (go_at_call 79; refine (Base_any _ _ (by omega) (by omega)).mono ?_; rintro e w' ⟨rfl, rfl⟩)
        | (refine wpList_store_row rfl 46 _ _ rfl w.heap.size #[.int .u64 (timesP 37 x), .slice a2 _ c2] _ _ rfl rfl hR rfl (by exact info_entry) (fun u hu => by simp at hu; rcases hu with rfl | rfl <;> rfl) ?_; intro w7 hg7 hs7 hR7))
      refine bodyPost_ret (results_cell_row Tryz.results169 _ _ w.heap.size _ _ (0, 0) _ rfl hR7 Tryz.underlying46 rfl info_entry) rfl ⟨_, rfl, ?_, hbel.grown hg7 hbel.size (fun k hk => by cases hk; exact Nat.le_refl _)⟩
      rw [← hlen]
      refine hown.kept hg7 (Or.inr (fun e => ?_))
      rcases hown.2 with ⟨h', _⟩ | ⟨g', cap, cur, h', _, hh', _⟩
      · rw [h'] at e; cases e
      · rw [h'] at e
        have : g' = w.heap.size := Option.some.inj e
        subst this
        unfold Blk at hR
        rw [hR] at hh'
        injection hh' with e1
        injection e1 with _ e2 _
        exact absurd e2 (by decide)
set_option maxRecDepth 100000 in
set_option maxHeartbeats 2000000 in
theorem Spoil_any (ps : List Pub) (x at_ : Int) (inside : List UInt8) (vl v : Value) (w : World) (hps : SeesP w vl ps) (hok : ∀ p ∈ ps, p.ok) (hx : in64 x) (hv : SeesB w v inside)
    (hl : inside.length ≤ 10000000000000) (hpl : ps.length ≤ 100000000) (hat : -9223372036854775808 ≤ at_ ∧ at_ ≤ 9223372036854775807) :
    Calls Tryz.prog 145 #[vl, .int .u64 x, v, .int .i64 at_] w (RetE (timesP 37 x) (boxL ps x inside at_) w) := by
  obtain ⟨x0, x1⟩ := hx; obtain ⟨at0, at1⟩ := hat
  obtain ⟨a0, c0, rfl, hac0, hc0⟩ := sees_form hv
  have HP := Lib.hid hps
  obtain ⟨a1, c1, rfl, hac1, hc1⟩ := sees_form hps
  clear hps
  have hR0 := Lib.hid (Blk.new w #[.int .u64 0, .slice none 0 0] 46)
  have hb0 := Lib.hid (show Below w.heap.size w (w.alloc (.cells #[.int .u64 0, .slice none 0 0] 46)) by go_grown)
  have HOK := Lib.hid hok; clear hok
  obtain ⟨B0, hB0⟩ : ∃ B0, B0 = w.heap.size + 1 := ⟨_, rfl⟩
  go_enter Tryz.func145, Tryz.ntmps145
  go_wp2_with (at_builtin; refine appB (W := w) rfl _ _ rfl (.slice none 0 0) [] rfl (ownB_nil _ _) _ inside rfl (hv.below hb0.out (by decide)) (by simp only [List.length_nil]; omega) hb0.out ?_; intro v1 w1 hown1 hgr1 hb1; rw [List.nil_append] at hown1; have hR1 := hR0.out.grownBy hgr1 (fun e => by cases e); clear hgr1)
  go_loopw [9, 10, 11] (fun box i _ wr => SpRel w ps x inside at_ box i wr) (fun _ i _ _ => (intOf i + 1).toNat)
  case atStart => exact ⟨0, by omega, by go_num, hown1, hR1, hb1⟩
  case round =>
    clear hown1 hR1 hb1
    obtain ⟨n, hn, rfl, hown, hR, hbel⟩ := hrel
    obtain ⟨a2, c2, rfl, hac2, hc2⟩ := owns_form hown
    have hlen := length_spoilL ps x inside at_ n
    by_cases hlt : n < ps.length
    · obtain ⟨P, hPe⟩ : ∃ P : Nat, P + n + 1 = ps.length := ⟨ps.length - 1 - n, by omega⟩
      have hP1 : ps.length - 1 - n = P := by omega
      rw [show (ps.length : Int) - 1 - n = (P : Int) from by omega]
      have hPl : P < ps.length := by omega
      obtain ⟨b, o, c, hve, hcl, hcm, hcell⟩ := seesP_open (HP.out.below hbel (by decide)) (by omega)
      obtain ⟨rfl, rfl⟩ : a1 = some ⟨b, o, none⟩ ∧ c1 = c := by injection hve with e1 _ e3; exact ⟨e1, e3⟩
      have hcm2 : wr.cell? ⟨b, o + P * 10 + 2, none⟩ = some (.int .u64 ps[P].mix) := by rw [Nat.add_assoc]; exact hcell P 2 ps[P] _ (List.getElem?_eq_getElem hPl) rfl
      clear hcell hve
      obtain ⟨m0, m1⟩ : in64 ps[P].mix := (HOK.out _ (List.getElem_mem hPl)).2.2.1
      have hsp : spoilL ps x inside at_ (n + 1) = sealL (turnK (hopK (timesP ps[P].mix x)) (decide ((P : Int) = at_))) (put64 P) (spoilL ps x inside at_ n) := by
        rw [spoilL, hP1, List.getElem?_eq_getElem hPl]; rfl
      have HSP := Lib.hid hsp; clear hsp
      generalize ps[P].mix = mx at *
      obtain ⟨t0, t1⟩ := timesP_pos mx x
      have hKL := length_hopK (timesP mx x)
      generalize hKe : hopK (timesP mx x) = K at *
      have HKe := Lib.hid hKe; have HKL := Lib.hid hKL
      clear hKe hKL
      generalize hBX : spoilL ps x inside at_ n = bx at *
      clear hBX
      have HLEN := Lib.hid hlen; clear hlen
      have hb8 : Hid (bx.length ≤ 20000000000000) := Lib.hid (by rw [HLEN.out]; omega)
      have hcx := fun h0 : UInt8 => (show bits .xor .u8 (h0.toNat : Int) 1 = ((h0 ^^^ 1).toNat : Int) from xor_u8 h0 1)
      by_cases hat : (P : Int) = at_
      · have hbe : ((P : Int) == at_) = true := by rw [beq_iff_eq]; exact hat
        have HK2 := Lib.hid (show turnK K (decide ((P : Int) = at_)) = K.set 0 (K.getD 0 0 ^^^ 1) by unfold turnK; rw [decide_eq_true hat]; rfl)
        clear hat
        go_wp2_with (first
          | (go_at_call 46; refine (Timesr_any _ _ _ (by omega) (by omega) (by omega) (by omega)).mono ?_; rintro e w' ⟨rfl, rfl⟩)
          | (go_at_call 129; refine (HopKeyr_any _ _ ⟨by omega, by omega⟩).mono ?_; rintro e x5 ⟨rfl, hb5⟩; rw [HKe.out]; have e5 : Ext _ x5 := hb5)
          | (refine wpList_allocB rfl _ rfl _ run_allocKey ?_; intro x6 B hh hB e6)
          | (refine wpList_store_row rfl 24 _ _ rfl B (keyA K) _ _ rfl rfl hh (by rw [keyA_size, keyA_size, HKL.out]; rfl) (by rw [keyA_size, HKL.out]; exact info_key) (keyA_one _) ?_; intro x7 hg7 hs7 hR7
             have hup7 : Below wr.heap.size wr x7 := (e5.tr e6 : Below _ _ _).grown hg7 (e5.tr e6).size (fun k hk => by cases hk; exact Nat.le_trans e5.size hB)
             have hc7 : x7.cell? ⟨B, 0, none⟩ = some (BV (K.getD 0 0)) := by rw [hR7.cell, keyA, List.getElem?_toArray, List.getElem?_map, List.getD_eq_getElem?_getD, List.getElem?_eq_getElem (by rw [HKL.out]; decide)]; rfl
             have hf7 := hR7.free 0
             clear hg7 hs7))
        have hB' : wr.heap.size ≤ B := Nat.le_trans e5.size hB
        have hR8 := hR7.set 0 (BV (K.getD 0 0 ^^^ 1))
        rw [keyA_set, ← HK2.out] at hR8
        have hup8 := Below.setCell hup7 (p := ⟨B, 0, none⟩) hB' (BV (K.getD 0 0 ^^^ 1))
        have hKL2 := length_turnK K (decide ((P : Int) = at_))
        rw [HKL.out] at hKL2
        generalize turnK K (decide ((P : Int) = at_)) = K2 at *
        have HKL2 := Lib.hid hKL2; clear hKL2
        have hstab := stabKE B K2
        have hk := HoldT.drew hstab (show HoldT (KE B K2) wr _ from ⟨hR8, hup8⟩)
        try change Code.wp _ _ _ (Act.mk _ _) _
        haveI hne_ : Nonempty (InC (KE B K2)) := ⟨⟨_, (hk).1⟩⟩
        refine wp_region_tr (C := fun w_ => ∃ e_ : InC (KE B K2), w_ = e_.u) (.step [0, 1, 3] (.alt 2 (.step [] (.alt 4 (.fin [5]) .nil)) .nil)) (by kernel_rfl) (by kernel_rfl) (fun _ _ _ _ hd_ h_ => ⟨hd_.symm.trans h_.1, h_.2⟩) ⟨⟨World.drew _, (hk).1⟩, rfl⟩ ?_
        have hk_ := hk
        repeat' (first
          | ((with_reducible refine wpTr_fin ?_)
             simp only [pickOps, List.flatMap_cons, List.flatMap_nil, List.drop_succ_cons, List.drop_zero, List.take_succ_cons, List.take_zero, List.cons_append, List.nil_append, List.append_nil]
             repeat (first | ((refine wpQuiet_load_row rfl 24 _ rfl B rfl _ (keyA K2) (0, 0) _ (fun w_ hw_ => by obtain ⟨e_, rfl⟩ := hw_; exact e_.has) under_key rfl (by rw [keyA_size, HKL2.out]; exact info_key) ?_; simp only [Act.put, List.setIfInBounds_toArray, List.set_cons_succ, List.set_cons_zero])) | go_big_quiet_step (exact rfl))
             refine wpQuiet_nil ?_)
          | ((with_reducible refine wpTr_step ?_); simp only [pickOps, List.flatMap_cons, List.flatMap_nil, List.drop_succ_cons, List.drop_zero, List.take_succ_cons, List.take_zero, List.cons_append, List.nil_append, List.append_nil]; repeat (first | ((refine wpQuiet_load_row rfl 24 _ rfl B rfl _ (keyA K2) (0, 0) _ (fun w_ hw_ => by obtain ⟨e_, rfl⟩ := hw_; exact e_.has) under_key rfl (by rw [keyA_size, HKL2.out]; exact info_key) ?_; simp only [Act.put, List.setIfInBounds_toArray, List.set_cons_succ, List.set_cons_zero])) | go_big_quiet_step (exact rfl))
             refine wpQuiet_nil ?_)
          | (with_reducible refine wpTr_one ?_)
          | (with_reducible refine wpTr_alt ?_ ?_)
          | (simp only [pickOps, List.flatMap_cons, List.flatMap_nil, List.drop_succ_cons, List.drop_zero, List.take_succ_cons, List.take_zero, List.cons_append, List.nil_append, List.append_nil]
             go_wp2_with (first
          | (go_at_call 130; refine (place_any P _ (by omega)).mono ?_; rintro e y1 ⟨v4, rfl, hown4, hb4⟩; obtain ⟨a4, c4, rfl, hac4, hc4⟩ := owns_form hown4; have hk4 := HoldT.step hstab hk_ hb4)
          | (go_at_call 60; refine (Sealr_any K2 (put64 P) bx _ _ _ HKL2.out (sees_of_owns hown4) ((sees_of_owns hown).below hk_.up (by decide)) (by rw [length_put64]; decide) hb8.out).mono ?_; rintro e y2 ⟨v5, rfl, hown5, hb5⟩; rw [← HSP.out] at hown5; obtain ⟨a5, c5, rfl, hac5, hc5⟩ := owns_form hown5; have hk5 := HoldT.step hstab hk_ hb5))
             refine phPost_hold (by first | with_reducible assumption | exact HoldT.alloc hstab (by with_reducible assumption) _ | exact HoldT.alloc hstab (HoldT.alloc hstab (by with_reducible assumption) _) _) ?_
             intro hk_))
        go_wp2_with fail
        exact ⟨⟨n + 1, by omega, congrArg (Value.int .i64) (by omega), owns_mono hown5 (Nat.le_trans hbel.size hk4.up.size), hR.below hk_.up, hbel.trans (hk_.up.mono hbel.size)⟩, by simp only [intOf]; omega⟩
      · have hbe : ((P : Int) == at_) = false := by rw [beq_eq_false_iff_ne]; exact hat
        have HK2 := Lib.hid (show turnK K (decide ((P : Int) = at_)) = K by unfold turnK; rw [decide_eq_false hat]; rfl)
        clear hat
        go_wp2_with (first
          | (go_at_call 46; refine (Timesr_any _ _ _ (by omega) (by omega) (by omega) (by omega)).mono ?_; rintro e w' ⟨rfl, rfl⟩)
          | (go_at_call 129; refine (HopKeyr_any _ _ ⟨by omega, by omega⟩).mono ?_; rintro e x5 ⟨rfl, hb5⟩; rw [HKe.out]; have e5 : Ext _ x5 := hb5)
          | (refine wpList_allocB rfl _ rfl _ run_allocKey ?_; intro x6 B hh hB e6)
          | (refine wpList_store_row rfl 24 _ _ rfl B (keyA K) _ _ rfl rfl hh (by rw [keyA_size, keyA_size, HKL.out]; rfl) (by rw [keyA_size, HKL.out]; exact info_key) (keyA_one _) ?_; intro x7 hg7 hs7 hR8
             have hup8 : Below wr.heap.size wr x7 := (e5.tr e6 : Below _ _ _).grown hg7 (e5.tr e6).size (fun k hk => by cases hk; exact Nat.le_trans e5.size hB)
             clear hg7 hs7))
        have hB' : wr.heap.size ≤ B := Nat.le_trans e5.size hB
        rw [← HK2.out] at hR8
        have hKL2 := length_turnK K (decide ((P : Int) = at_))
        rw [HKL.out] at hKL2
        generalize turnK K (decide ((P : Int) = at_)) = K2 at *
        have HKL2 := Lib.hid hKL2; clear hKL2
        have hstab := stabKE B K2
        have hk := HoldT.drew hstab (show HoldT (KE B K2) wr _ from ⟨hR8, hup8⟩)
        try change Code.wp _ _ _ (Act.mk _ _) _
        haveI hne_ : Nonempty (InC (KE B K2)) := ⟨⟨_, (hk).1⟩⟩
        refine wp_region_tr (C := fun w_ => ∃ e_ : InC (KE B K2), w_ = e_.u) (.step [0, 1, 3] (.alt 2 (.step [] (.alt 4 (.fin [5]) .nil)) .nil)) (by kernel_rfl) (by kernel_rfl) (fun _ _ _ _ hd_ h_ => ⟨hd_.symm.trans h_.1, h_.2⟩) ⟨⟨World.drew _, (hk).1⟩, rfl⟩ ?_
        have hk_ := hk
        repeat' (first
          | ((with_reducible refine wpTr_fin ?_)
             simp only [pickOps, List.flatMap_cons, List.flatMap_nil, List.drop_succ_cons, List.drop_zero, List.take_succ_cons, List.take_zero, List.cons_append, List.nil_append, List.append_nil]
             repeat (first | ((refine wpQuiet_load_row rfl 24 _ rfl B rfl _ (keyA K2) (0, 0) _ (fun w_ hw_ => by obtain ⟨e_, rfl⟩ := hw_; exact e_.has) under_key rfl (by rw [keyA_size, HKL2.out]; exact info_key) ?_; simp only [Act.put, List.setIfInBounds_toArray, List.set_cons_succ, List.set_cons_zero])) | go_big_quiet_step (exact rfl))
             refine wpQuiet_nil ?_)
          | ((with_reducible refine wpTr_step ?_); simp only [pickOps, List.flatMap_cons, List.flatMap_nil, List.drop_succ_cons, List.drop_zero, List.take_succ_cons, List.take_zero, List.cons_append, List.nil_append, List.append_nil]; repeat (first | ((refine wpQuiet_load_row rfl 24 _ rfl B rfl _ (keyA K2) (0, 0) _ (fun w_ hw_ => by obtain ⟨e_, rfl⟩ := hw_; exact e_.has) under_key rfl (by rw [keyA_size, HKL2.out]; exact info_key) ?_; simp only [Act.put, List.setIfInBounds_toArray, List.set_cons_succ, List.set_cons_zero])) | go_big_quiet_step (exact rfl))
             refine wpQuiet_nil ?_)
          | (with_reducible refine wpTr_one ?_)
          | (with_reducible refine wpTr_alt ?_ ?_)
          | (simp only [pickOps, List.flatMap_cons, List.flatMap_nil, List.drop_succ_cons, List.drop_zero, List.take_succ_cons, List.take_zero, List.cons_append, List.nil_append, List.append_nil]
             go_wp2_with (first
          | (go_at_call 130; refine (place_any P _ (by omega)).mono ?_; rintro e y1 ⟨v4, rfl, hown4, hb4⟩; obtain ⟨a4, c4, rfl, hac4, hc4⟩ := owns_form hown4; have hk4 := HoldT.step hstab hk_ hb4)
          | (go_at_call 60; refine (Sealr_any K2 (put64 P) bx _ _ _ HKL2.out (sees_of_owns hown4) ((sees_of_owns hown).below hk_.up (by decide)) (by rw [length_put64]; decide) hb8.out).mono ?_; rintro e y2 ⟨v5, rfl, hown5, hb5⟩; rw [← HSP.out] at hown5; obtain ⟨a5, c5, rfl, hac5, hc5⟩ := owns_form hown5; have hk5 := HoldT.step hstab hk_ hb5))
             refine phPost_hold (by first | with_reducible assumption | exact HoldT.alloc hstab (by with_reducible assumption) _ | exact HoldT.alloc hstab (HoldT.alloc hstab (by with_reducible assumption) _) _) ?_
             intro hk_))
        go_wp2_with fail
        exact ⟨⟨n + 1, by omega, congrArg (Value.int .i64) (by omega), owns_mono hown5 (Nat.le_trans hbel.size hk4.up.size), hR.below hk_.up, hbel.trans (hk_.up.mono hbel.size)⟩, by simp only [intOf]; omega⟩
    · obtain rfl : n = ps.length := by omega
      rw [show (ps.length : Int) - 1 - ps.length = -1 from by omega]
      go_wp2_with (first
        | (go_at_call 19; refine (Baser_any _ _ (by omega) (by omega)).mono ?_; rintro e w' ⟨rfl, rfl⟩)
        | (refine wpList_store_row rfl 46 _ _ rfl w.heap.size #[.int .u64 (timesP 37 x), .slice a2 _ c2] _ _ rfl rfl hR rfl (by exact info_entry) (fun u hu => by simp at hu; rcases hu with rfl | rfl <;> rfl) ?_; intro w7 hg7 hs7 hR7))
      refine bodyPost_ret (results_cell_row Tryz.results145 _ _ w.heap.size _ _ (0, 0) _ rfl hR7 Tryz.underlying46 rfl info_entry) rfl ⟨_, rfl, ?_, hbel.grown hg7 hbel.size (fun k hk => by cases hk; exact Nat.le_refl _)⟩
      rw [← hlen]
      refine hown.kept hg7 (Or.inr (fun e => ?_))
      rcases hown.2 with ⟨h', _⟩ | ⟨g', cap, cur, h', _, hh', _⟩
      · rw [h'] at e; cases e
      · rw [h'] at e
        have : g' = w.heap.size := Option.some.inj e
        subst this
        unfold Blk at hR
        rw [hR] at hh'
        injection hh' with e1
        injection e1 with _ e2 _
        exact absurd e2 (by decide)
end Go.Proofs.YtbgnfioggmkdeaaGreatDoor
