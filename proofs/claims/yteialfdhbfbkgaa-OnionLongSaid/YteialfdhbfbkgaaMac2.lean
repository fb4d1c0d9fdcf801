/-
  Sums with a key: the first program.
-/
import Derived.Test.YteialfdhbfbkgaaMac1
import Derived.Test.YteialfdhbfbkgaaSha6
import Derived.Test.YteialfdhbfbkgaaSched
namespace Go.Proofs.Yteialfdhbfbkgaa
set_option linter.unusedVariables false
set_option linter.unusedSimpArgs false
open Go Go.RowKit

theorem keyA_zero64 : keyA (List.replicate 64 0) = #[.int .u8 0, .int .u8 0, .int .u8 0, .int .u8 0, .int .u8 0, .int .u8 0, .int .u8 0, .int .u8 0, .int .u8 0, .int .u8 0, .int .u8 0, .int .u8 0, .int .u8 0, .int .u8 0, .int .u8 0, .int .u8 0, .int .u8 0, .int .u8 0, .int .u8 0, .int .u8 0, .int .u8 0, .int .u8 0, .int .u8 0, .int .u8 0, .int .u8 0, .int .u8 0, .int .u8 0, .int .u8 0, .int .u8 0, .int .u8 0, .int .u8 0, .int .u8 0, .int .u8 0, .int .u8 0, .int .u8 0, .int .u8 0, .int .u8 0, .int .u8 0, .int .u8 0, .int .u8 0, .int .u8 0, .int .u8 0, .int .u8 0, .int .u8 0, .int .u8 0, .int .u8 0, .int .u8 0, .int .u8 0, .int .u8 0, .int .u8 0, .int .u8 0, .int .u8 0, .int .u8 0, .int .u8 0, .int .u8 0, .int .u8 0, .int .u8 0, .int .u8 0, .int .u8 0, .int .u8 0, .int .u8 0, .int .u8 0, .int .u8 0, .int .u8 0] := by rfl
/-- A key's block, and the sum of bytes with a key. -/
def macK (l : List UInt8) : List UInt8 := (if 64 < l.length then sha l else l) ++ List.replicate (64 - (if 64 < l.length then sha l else l).length) 0
def mac (k b : List UInt8) : List UInt8 := sha (maskL 92 (macK k) ++ sha (maskL 54 (macK k) ++ b))
theorem length_macK (l : List UInt8) : (macK l).length = 64 := by
  unfold macK
  by_cases h : 64 < l.length
  · simp [h, length_sha]
  · simp [h]; omega
theorem length_mac (k b : List UInt8) : (mac k b).length = 32 := length_sha _
theorem grownBy_setRow (w : World) (g : Nat) (cs : Array Value) : w.grownBy (w.setRow g cs) (some g) :=
  ⟨rfl, rfl, rfl, by simp [World.setRow], fun k _ hne => setRow_other w g k cs (fun e => hne (by rw [e]))⟩
/-- copy(k[:], x) on bytes: a whole block, what is copied not longer. -/
theorem copyB {w : World} {ops : Array Oper} {rest : List Oper} {o : Oper} {a : Act} {Q : Exit → Act → World → Prop} (hgd : o.guard = none) (d s : Operand)
    (ho : o.op = .call { callee := .builtin .copy, args := #[d, s], argTypes := #[25, 25] }) (g n c : Nat) (cur l : List UInt8) (t : TypeId) (v : Value)
    (hd : a.eval d = .slice (some ⟨g, 0, none⟩) n c) (hg : Blk w g (keyA cur) t) (hcur : cur.length = n) (hs : a.eval s = v) (hv : SeesB w v l) (hl : l.length ≤ n)
    (h : ∀ w', w.grownBy w' (some g) → w'.heap.size = w.heap.size → Blk w' g (keyA (l ++ cur.drop l.length)) t → wpList Try.prog ops Q rest (a.put o.dst (goInt l.length)) w') : wpList Try.prog ops Q (o :: rest) a w := by
  have hsz : (Try.prog.info? 5).map (·.size) = some 1 := by kernel_rfl
  obtain ⟨hl1, av, cv, rfl, hcv, hm, hnc, hb⟩ := hv
  by_cases h0 : l.length = 0
  · obtain rfl : l = [] := List.eq_nil_of_length_eq_zero h0
    refine wpList_copy_nothing hgd d s _ _ ho 5 Try.underlying25 hsz _ _ _ _ _ _ hd hs (by simp) ?_
    have := h w (grownBy_refl _ _) rfl (by simpa using hg)
    simpa using this
  · obtain ⟨b, off, rfl, hcell⟩ := hb (by omega)
    have hlen : (l.map BV).length = l.length := by simp
    refine wpList_copy_own hgd d s _ _ ho 5 Try.underlying25 hsz g 0 n c ⟨b, off, none⟩ l.length cv hd hs (keyA cur) t hg (l.map BV) (by rw [hlen]; exact (Nat.min_eq_left hl).symm) (fun j u hj => ?_) (by rw [hlen, keyA_size]; omega) (one_BV l) ?_
    · rw [addr_add]; exact hcell j u hj
    · have hset := setRow_heap w g (keyA cur) (((keyA cur).toList.take 0 ++ (l.map BV ++ (keyA cur).toList.drop (0 + (l.map BV).length))).toArray) t (0, 0) hg
      have e : ((keyA cur).toList.take 0 ++ (l.map BV ++ (keyA cur).toList.drop (0 + (l.map BV).length))).toArray = keyA (l ++ cur.drop l.length) := by
        simp [keyA, List.map_drop]
      have := h _ (grownBy_setRow w g _) (by simp [World.setRow]) (by unfold Blk; rw [← e]; exact hset)
      rwa [hlen] at *


set_option maxRecDepth 100000 in
set_option maxHeartbeats 2000000 in
theorem MacOf_any (w : World) (vk vb : Value) (key b : List UInt8) (hkv : SeesB w vk key) (hbv : SeesB w vb b) (hk1 : key.length ≤ 70368744170000) (hb1 : b.length ≤ 70368744170000) :
    Calls Try.prog 65 #[vk, vb] w fun e w' => e = .returned (.agg (keyA (mac key b))) ∧ Below w.heap.size w w' := by
  obtain ⟨a0, c0, rfl, hac0, hc0⟩ := sees_form hkv
  obtain ⟨a1, c1, rfl, hac1, hc1⟩ := sees_form hbv
  have HK := Lib.hid (length_macK key)
  have hR0 : Blk ((w.alloc (.cells (keyA (List.replicate 32 0)) 23)).alloc (.cells (keyA (List.replicate 64 0)) 91)) w.heap.size (keyA (List.replicate 32 0)) 23 := (Blk.new w _ _).alloc _
  have hK0 : Blk ((w.alloc (.cells (keyA (List.replicate 32 0)) 23)).alloc (.cells (keyA (List.replicate 64 0)) 91)) (w.heap.size + 1) (keyA (List.replicate 64 0)) 91 := Blk.new2 w _ _ _
  have hbel0 : Below w.heap.size w ((w.alloc (.cells (keyA (List.replicate 32 0)) 23)).alloc (.cells (keyA (List.replicate 64 0)) 91)) := by go_grown
  rw [keyA_zero, keyA_zero64] at hR0 hK0 hbel0
  rw [← keyA_zero] at hR0
  have HR0 := Lib.hid hR0; have HK0 := Lib.hid hK0; have HB0 := Lib.hid hbel0
  clear hR0 hK0 hbel0
  by_cases h64 : 64 < key.length
  · have HM := Lib.hid (show macK key = sha key ++ List.drop (sha key).length (List.replicate 64 0) by unfold macK; rw [if_pos h64, length_sha]; rfl)
    generalize hKe : macK key = K at HK HM
    have HE := Lib.hid hKe; clear hKe
    go_enter Try.func65, Try.ntmps65
    go_wp2_with (first
      | (go_at_call 72; refine (Sum_any _ _ key (hkv.below HB0.out (by decide)) (by omega)).mono ?_; rintro e w1 ⟨rfl, hb1⟩)
      | (refine wpList_store_row rfl 23 _ _ rfl w1.heap.size (keyA (sha key)) _ _ rfl rfl (Blk.new _ _ _) (by rw [keyA_size, length_sha]; rfl) (by rw [keyA_size, length_sha]; exact info_key) (keyA_one _) ?_; intro w2 hg2 hs2 hR2))
    have hb2 := HB0.out.trans (hb1.mono (by simp only [World.size_alloc]; omega))
    have hR2' := ((HR0.out.below hb1).alloc (.cells #[.int .u8 0, .int .u8 0, .int .u8 0, .int .u8 0, .int .u8 0, .int .u8 0, .int .u8 0, .int .u8 0, .int .u8 0, .int .u8 0, .int .u8 0, .int .u8 0, .int .u8 0, .int .u8 0, .int .u8 0, .int .u8 0, .int .u8 0, .int .u8 0, .int .u8 0, .int .u8 0, .int .u8 0, .int .u8 0, .int .u8 0, .int .u8 0, .int .u8 0, .int .u8 0, .int .u8 0, .int .u8 0, .int .u8 0, .int .u8 0, .int .u8 0, .int .u8 0] 23)).grownBy hg2 (some_ne (by have := (HR0.out.below hb1).lt; omega))
    have hK2 := ((HK0.out.below hb1).alloc (.cells #[.int .u8 0, .int .u8 0, .int .u8 0, .int .u8 0, .int .u8 0, .int .u8 0, .int .u8 0, .int .u8 0, .int .u8 0, .int .u8 0, .int .u8 0, .int .u8 0, .int .u8 0, .int .u8 0, .int .u8 0, .int .u8 0, .int .u8 0, .int .u8 0, .int .u8 0, .int .u8 0, .int .u8 0, .int .u8 0, .int .u8 0, .int .u8 0, .int .u8 0, .int .u8 0, .int .u8 0, .int .u8 0, .int .u8 0, .int .u8 0, .int .u8 0, .int .u8 0] 23)).grownBy hg2 (some_ne (by have := (HK0.out.below hb1).lt; omega))
    have hbel2 := (hb2.alloc hb2.size (.cells #[.int .u8 0, .int .u8 0, .int .u8 0, .int .u8 0, .int .u8 0, .int .u8 0, .int .u8 0, .int .u8 0, .int .u8 0, .int .u8 0, .int .u8 0, .int .u8 0, .int .u8 0, .int .u8 0, .int .u8 0, .int .u8 0, .int .u8 0, .int .u8 0, .int .u8 0, .int .u8 0, .int .u8 0, .int .u8 0, .int .u8 0, .int .u8 0, .int .u8 0, .int .u8 0, .int .u8 0, .int .u8 0, .int .u8 0, .int .u8 0, .int .u8 0, .int .u8 0] 23)).grown hg2 (by simp only [World.size_alloc]; exact Nat.le_succ_of_le hb2.size) (fun k hk => by cases hk; exact hb2.size)
    have hsum : SeesB w2 (.slice (some ⟨w1.heap.size, 0, none⟩) 32 32) (sha key) := by
      have h := sees_block hR2 1 (sha key).length (by rw [keyA_size, Nat.mul_one]) (by rw [length_sha]; decide)
      rw [length_sha] at h
      unfold SeesB; rw [length_sha]
      rwa [keyA, List.toList_toArray] at h
    clear hg2 hs2 hR2 hb1 hb2
    generalize w1.heap.size = B1 at *
    have hR2 := hR2'.drew
    change Code.wp _ _ _ (Act.mk _ _) _
    try change Code.wp _ _ _ (Act.mk _ _) _
    haveI hne_ : Nonempty (InC (fun u => Blk u w.heap.size (keyA (List.replicate 32 0)) 23)) := ⟨⟨_, hR2⟩⟩
    refine wp_region_ph (C := fun w_ => ∃ e_ : InC (fun u => Blk u w.heap.size (keyA (List.replicate 32 0)) 23), w_ = e_.u) [([0, 1], 2)] [] (by kernel_rfl) (by kernel_rfl) (fun _ _ _ _ hd_ h_ => ⟨hd_.symm.trans h_.1, h_.2⟩) ⟨⟨World.drew _, hR2⟩, rfl⟩ ?_
    first | refine wpPh_cons ?_ | refine wpPh_nil ?_
    simp only [pickOps, List.flatMap_cons, List.flatMap_nil, List.drop_succ_cons, List.drop_zero, List.take_succ_cons, List.take_zero, List.cons_append, List.nil_append, List.append_nil]
    iterate 2 (go_big_quiet_step (exact rfl))
    refine wpQuiet_nil ?_
    go_wp2_with (refine copyB rfl _ _ rfl (w.heap.size + 1) 64 64 (List.replicate 64 0) (sha key) _ _ rfl (by rw [keyA_zero64]; exact hK2) (List.length_replicate ..) rfl hsum.drew (by rw [length_sha]; decide) ?_; intro u hgu hsu hK)
    rw [← HM.out] at hK
    have hR := hR2.grownBy hgu (some_ne (by omega))
    have hbel := hbel2.drew.grown hgu hbel2.size (fun k hk => by cases hk; omega)
    clear hgu hsu hsum hK2 hR2' hbel2
    refine phPost_normal ⟨⟨⟨_, hR⟩, rfl⟩, ?_⟩
    refine wpPh_nil ?_
    simp only [pickOps, List.flatMap_nil]
    refine wpQuiet_nil ?_
    go_wp2_with (first
      | (refine wpList_load_row rfl 91 _ rfl (w.heap.size + 1) rfl _ _ (0, 0) _ hK Try.underlying91 rfl (by rw [keyA_size, HK.out]; exact info_blk) ?_)
      | (go_at_call 90; refine (masked_any _ K 54 HK.out).mono ?_; rintro e w5 ⟨v5, rfl, hown5, hb5⟩; obtain ⟨a5, c5, rfl, hac5, hc5⟩ := owns_form hown5)
      | (at_builtin; refine appB (W := u) rfl _ _ rfl _ (maskL 54 K) rfl hown5 _ b rfl ((hbv.below hbel (by decide)).below hb5 (by decide)) (by rw [length_maskL, HK.out]; omega) hb5 ?_; intro v6 w6 hown6 hgr6 hb6)
      | (go_at_call 72; refine (Sum_any _ _ (maskL 54 K ++ b) (sees_of_owns hown6) (by rw [List.length_append, length_maskL, HK.out]; omega)).mono ?_; rintro e w7 ⟨rfl, hb7⟩; have hbu7 := hb6.trans (hb7.mono hb6.size))
      | (refine wpList_store_row rfl 23 _ _ rfl w7.heap.size (keyA (sha (maskL 54 K ++ b))) _ _ rfl rfl (Blk.new _ _ _) (by rw [keyA_size, length_sha]; rfl) (by rw [keyA_size, length_sha]; exact info_key) (keyA_one _) ?_; intro w8 hg8 hs8 hR8))
    have hbu8 : Below u.heap.size u w8 := (hbu7.alloc hbu7.size _).grown hg8 (by simp only [World.size_alloc]; exact Nat.le_succ_of_le hbu7.size) (fun k hk => by cases hk; exact hbu7.size)
    have hK8 := hK.below hbu8
    have hR0 := hR.below hbu8
    have hbel8 : Below w.heap.size w w8 := hbel.trans (hbu8.mono hbel.size)
    have hin : SeesB w8 (.slice (some ⟨w7.heap.size, 0, none⟩) 32 32) (sha (maskL 54 K ++ b)) := by
      have h := sees_block hR8 1 (sha (maskL 54 K ++ b)).length (by rw [keyA_size, Nat.mul_one]) (by rw [length_sha]; decide)
      rw [length_sha] at h
      unfold SeesB; rw [length_sha]
      rwa [keyA, List.toList_toArray] at h
    have h32 := Lib.hid (length_sha (maskL 54 K ++ b))
    have hF := Lib.hid (show mac key b = sha (maskL 92 K ++ sha (maskL 54 K ++ b)) by rw [← HE.out]; rfl)
    clear hg8 hs8 hR8 hb5 hown5 hgr6 hown6 hb6 hb7 hbu7 hK hR hbel hac5 hc5 hbu8
    generalize w7.heap.size = B7 at *
    generalize sha (maskL 54 K ++ b) = S at *
    have hk : Blk w8.drew (w.heap.size + 1) (keyA K) 91 := hK8
    try change Code.wp _ _ _ (Act.mk _ _) _
    haveI hne_ : Nonempty (InC (fun u => Blk u (w.heap.size + 1) (keyA K) 91)) := ⟨⟨_, hk⟩⟩
    refine wp_region_ph (C := fun w_ => ∃ e_ : InC (fun u => Blk u (w.heap.size + 1) (keyA K) 91), w_ = e_.u) [([2, 0], 1), ([], 3), ([], 4), ([], 5)] [] (by kernel_rfl) (by kernel_rfl) (fun _ _ _ _ hd_ h_ => ⟨hd_.symm.trans h_.1, h_.2⟩) ⟨⟨World.drew _, hk⟩, rfl⟩ ?_
    first | refine wpPh_cons ?_ | refine wpPh_nil ?_
    simp only [pickOps, List.flatMap_cons, List.flatMap_nil, List.drop_succ_cons, List.drop_zero, List.take_succ_cons, List.take_zero, List.cons_append, List.nil_append, List.append_nil]
    iterate 2 (first | (refine wpQuiet_load_row rfl 91 _ rfl (w.heap.size + 1) rfl _ (keyA K) (0, 0) _ (fun w_ hw_ => by obtain ⟨e_, rfl⟩ := hw_; exact e_.has) Try.underlying91 rfl (by rw [keyA_size, HK.out]; exact info_blk) ?_) | go_big_quiet_step (exact rfl))
    refine wpQuiet_nil ?_
    go_wp2_with (go_at_call 90; refine (masked_any _ K 92 HK.out).mono ?_; rintro e w9 ⟨v9, rfl, hown9, hb9⟩; obtain ⟨a9, c9, rfl, hac9, hc9⟩ := owns_form hown9)
    refine phPost_normal ⟨⟨⟨_, hk.below hb9⟩, rfl⟩, ?_⟩
    first | refine wpPh_cons ?_ | refine wpPh_nil ?_
    simp only [pickOps, List.flatMap_cons, List.flatMap_nil, List.drop_succ_cons, List.drop_zero, List.take_succ_cons, List.take_zero, List.cons_append, List.nil_append, List.append_nil]
    refine wpQuiet_nil ?_
    go_wp2_with (at_builtin; refine appB (W := w8.drew) rfl _ _ rfl _ (maskL 92 K) rfl hown9 _ S rfl ((hin.drew).below hb9 (by decide)) (by rw [length_maskL, HK.out, h32.out]; omega) hb9 ?_; intro v10 w10 hown10 hgr10 hb10)
    refine phPost_normal ⟨⟨⟨_, hk.below hb10⟩, rfl⟩, ?_⟩
    first | refine wpPh_cons ?_ | refine wpPh_nil ?_
    simp only [pickOps, List.flatMap_cons, List.flatMap_nil, List.drop_succ_cons, List.drop_zero, List.take_succ_cons, List.take_zero, List.cons_append, List.nil_append, List.append_nil]
    refine wpQuiet_nil ?_
    go_wp2_with (go_at_call 72; refine (Sum_any _ _ (maskL 92 K ++ S) (sees_of_owns hown10) (by rw [List.length_append, length_maskL, HK.out, h32.out]; omega)).mono ?_; rintro e w11 ⟨rfl, hb11⟩; have hb12 : Below w8.drew.heap.size w8.drew w11 := hb10.trans (hb11.mono hb10.size))
    refine phPost_normal ⟨⟨⟨_, hk.below hb12⟩, rfl⟩, ?_⟩
    first | refine wpPh_cons ?_ | refine wpPh_nil ?_
    simp only [pickOps, List.flatMap_cons, List.flatMap_nil, List.drop_succ_cons, List.drop_zero, List.take_succ_cons, List.take_zero, List.cons_append, List.nil_append, List.append_nil]
    refine wpQuiet_nil ?_
    have hR12 := Blk.below (w := w8.drew) hR0 hb12
    go_wp2_with (refine wpList_store_row rfl 23 _ _ rfl w.heap.size (keyA (sha (maskL 92 K ++ S))) _ _ rfl rfl hR12 (by rw [keyA_size, keyA_size, length_sha, List.length_replicate]) (by rw [keyA_size, length_sha]; exact info_key) (keyA_one _) ?_; intro w13 hg13 hs13 hR13)
    refine phPost_normal ⟨⟨⟨_, (hk.below hb12).grownBy hg13 (some_ne (by omega))⟩, rfl⟩, ?_⟩
    first | refine wpPh_cons ?_ | refine wpPh_nil ?_
    simp only [pickOps, List.flatMap_cons, List.flatMap_nil, List.drop_succ_cons, List.drop_zero, List.take_succ_cons, List.take_zero, List.cons_append, List.nil_append, List.append_nil]
    refine wpQuiet_nil ?_
    go_wp2_with fail
    refine bodyPost_ret (results_cell_row Try.results65 _ _ w.heap.size _ _ (0, 0) _ rfl hR13 under_key rfl (by rw [keyA_size, length_sha]; exact info_key)) rfl ⟨by rw [hF.out], ?_⟩
    have hbel9 : Below w.heap.size w w11 := hbel8.drew.trans (hb12.mono hbel8.size)
    exact hbel9.grown hg13 hbel9.size (fun k hk => by cases hk; exact Nat.le_refl _)
  · have HM := Lib.hid (show macK key = key ++ List.drop key.length (List.replicate 64 0) by unfold macK; rw [if_neg h64, List.drop_replicate])
    generalize hKe : macK key = K at HK HM
    have HE := Lib.hid hKe; clear hKe
    go_enter Try.func65, Try.ntmps65
    go_wp2_with (first
      | (refine copyB rfl _ _ rfl (w.heap.size + 1) 64 64 (List.replicate 64 0) key _ _ rfl (by rw [keyA_zero64]; exact HK0.out) (List.length_replicate ..) rfl (hkv.below HB0.out (by decide)) (by omega) ?_; intro u hgu hsu hK; rw [← HM.out] at hK; have hR := HR0.out.grownBy hgu (some_ne (by omega)); have hbel := HB0.out.grown hgu HB0.out.size (fun k hk => by cases hk; omega); clear hgu hsu)
      | (refine wpList_load_row rfl 91 _ rfl (w.heap.size + 1) rfl _ _ (0, 0) _ hK Try.underlying91 rfl (by rw [keyA_size, HK.out]; exact info_blk) ?_)
      | (go_at_call 90; refine (masked_any _ K 54 HK.out).mono ?_; rintro e w5 ⟨v5, rfl, hown5, hb5⟩; obtain ⟨a5, c5, rfl, hac5, hc5⟩ := owns_form hown5)
      | (at_builtin; refine appB (W := u) rfl _ _ rfl _ (maskL 54 K) rfl hown5 _ b rfl ((hbv.below hbel (by decide)).below hb5 (by decide)) (by rw [length_maskL, HK.out]; omega) hb5 ?_; intro v6 w6 hown6 hgr6 hb6)
      | (go_at_call 72; refine (Sum_any _ _ (maskL 54 K ++ b) (sees_of_owns hown6) (by rw [List.length_append, length_maskL, HK.out]; omega)).mono ?_; rintro e w7 ⟨rfl, hb7⟩; have hbu7 := hb6.trans (hb7.mono hb6.size))
      | (refine wpList_store_row rfl 23 _ _ rfl w7.heap.size (keyA (sha (maskL 54 K ++ b))) _ _ rfl rfl (Blk.new _ _ _) (by rw [keyA_size, length_sha]; rfl) (by rw [keyA_size, length_sha]; exact info_key) (keyA_one _) ?_; intro w8 hg8 hs8 hR8))
    have hbu8 : Below u.heap.size u w8 := (hbu7.alloc hbu7.size _).grown hg8 (by simp only [World.size_alloc]; exact Nat.le_succ_of_le hbu7.size) (fun k hk => by cases hk; exact hbu7.size)
    have hK8 := hK.below hbu8
    have hR0 := hR.below hbu8
    have hbel8 : Below w.heap.size w w8 := hbel.trans (hbu8.mono hbel.size)
    have hin : SeesB w8 (.slice (some ⟨w7.heap.size, 0, none⟩) 32 32) (sha (maskL 54 K ++ b)) := by
      have h := sees_block hR8 1 (sha (maskL 54 K ++ b)).length (by rw [keyA_size, Nat.mul_one]) (by rw [length_sha]; decide)
      rw [length_sha] at h
      unfold SeesB; rw [length_sha]
      rwa [keyA, List.toList_toArray] at h
    have h32 := Lib.hid (length_sha (maskL 54 K ++ b))
    have hF := Lib.hid (show mac key b = sha (maskL 92 K ++ sha (maskL 54 K ++ b)) by rw [← HE.out]; rfl)
    clear hg8 hs8 hR8 hb5 hown5 hgr6 hown6 hb6 hb7 hbu7 hK hR hbel hac5 hc5 hbu8
    generalize w7.heap.size = B7 at *
    generalize sha (maskL 54 K ++ b) = S at *
    have hk : Blk w8.drew (w.heap.size + 1) (keyA K) 91 := hK8
    try change Code.wp _ _ _ (Act.mk _ _) _
    haveI hne_ : Nonempty (InC (fun u => Blk u (w.heap.size + 1) (keyA K) 91)) := ⟨⟨_, hk⟩⟩
    refine wp_region_ph (C := fun w_ => ∃ e_ : InC (fun u => Blk u (w.heap.size + 1) (keyA K) 91), w_ = e_.u) [([2, 0], 1), ([], 3), ([], 4), ([], 5)] [] (by kernel_rfl) (by kernel_rfl) (fun _ _ _ _ hd_ h_ => ⟨hd_.symm.trans h_.1, h_.2⟩) ⟨⟨World.drew _, hk⟩, rfl⟩ ?_
    first | refine wpPh_cons ?_ | refine wpPh_nil ?_
    simp only [pickOps, List.flatMap_cons, List.flatMap_nil, List.drop_succ_cons, List.drop_zero, List.take_succ_cons, List.take_zero, List.cons_append, List.nil_append, List.append_nil]
    iterate 2 (first | (refine wpQuiet_load_row rfl 91 _ rfl (w.heap.size + 1) rfl _ (keyA K) (0, 0) _ (fun w_ hw_ => by obtain ⟨e_, rfl⟩ := hw_; exact e_.has) Try.underlying91 rfl (by rw [keyA_size, HK.out]; exact info_blk) ?_) | go_big_quiet_step (exact rfl))
    refine wpQuiet_nil ?_
    go_wp2_with (go_at_call 90; refine (masked_any _ K 92 HK.out).mono ?_; rintro e w9 ⟨v9, rfl, hown9, hb9⟩; obtain ⟨a9, c9, rfl, hac9, hc9⟩ := owns_form hown9)
    refine phPost_normal ⟨⟨⟨_, hk.below hb9⟩, rfl⟩, ?_⟩
    first | refine wpPh_cons ?_ | refine wpPh_nil ?_
    simp only [pickOps, List.flatMap_cons, List.flatMap_nil, List.drop_succ_cons, List.drop_zero, List.take_succ_cons, List.take_zero, List.cons_append, List.nil_append, List.append_nil]
    refine wpQuiet_nil ?_
    go_wp2_with (at_builtin; refine appB (W := w8.drew) rfl _ _ rfl _ (maskL 92 K) rfl hown9 _ S rfl ((hin.drew).below hb9 (by decide)) (by rw [length_maskL, HK.out, h32.out]; omega) hb9 ?_; intro v10 w10 hown10 hgr10 hb10)
    refine phPost_normal ⟨⟨⟨_, hk.below hb10⟩, rfl⟩, ?_⟩
    first | refine wpPh_cons ?_ | refine wpPh_nil ?_
    simp only [pickOps, List.flatMap_cons, List.flatMap_nil, List.drop_succ_cons, List.drop_zero, List.take_succ_cons, List.take_zero, List.cons_append, List.nil_append, List.append_nil]
    refine wpQuiet_nil ?_
    go_wp2_with (go_at_call 72; refine (Sum_any _ _ (maskL 92 K ++ S) (sees_of_owns hown10) (by rw [List.length_append, length_maskL, HK.out, h32.out]; omega)).mono ?_; rintro e w11 ⟨rfl, hb11⟩; have hb12 : Below w8.drew.heap.size w8.drew w11 := hb10.trans (hb11.mono hb10.size))
    refine phPost_normal ⟨⟨⟨_, hk.below hb12⟩, rfl⟩, ?_⟩
    first | refine wpPh_cons ?_ | refine wpPh_nil ?_
    simp only [pickOps, List.flatMap_cons, List.flatMap_nil, List.drop_succ_cons, List.drop_zero, List.take_succ_cons, List.take_zero, List.cons_append, List.nil_append, List.append_nil]
    refine wpQuiet_nil ?_
    have hR12 := Blk.below (w := w8.drew) hR0 hb12
    go_wp2_with (refine wpList_store_row rfl 23 _ _ rfl w.heap.size (keyA (sha (maskL 92 K ++ S))) _ _ rfl rfl hR12 (by rw [keyA_size, keyA_size, length_sha, List.length_replicate]) (by rw [keyA_size, length_sha]; exact info_key) (keyA_one _) ?_; intro w13 hg13 hs13 hR13)
    refine phPost_normal ⟨⟨⟨_, (hk.below hb12).grownBy hg13 (some_ne (by omega))⟩, rfl⟩, ?_⟩
    first | refine wpPh_cons ?_ | refine wpPh_nil ?_
    simp only [pickOps, List.flatMap_cons, List.flatMap_nil, List.drop_succ_cons, List.drop_zero, List.take_succ_cons, List.take_zero, List.cons_append, List.nil_append, List.append_nil]
    refine wpQuiet_nil ?_
    go_wp2_with fail
    refine bodyPost_ret (results_cell_row Try.results65 _ _ w.heap.size _ _ (0, 0) _ rfl hR13 under_key rfl (by rw [keyA_size, length_sha]; exact info_key)) rfl ⟨by rw [hF.out], ?_⟩
    have hbel9 : Below w.heap.size w w11 := hbel8.drew.trans (hb12.mono hbel8.size)
    exact hbel9.grown hg13 hbel9.size (fun k hk => by cases hk; exact Nat.le_refl _)
end Go.Proofs.Yteialfdhbfbkgaa
