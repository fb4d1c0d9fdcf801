/-
  A pass of a hop: Open, product and ordered of the program.
-/
import Derived.Test.YtmbgcjfmfkddpaaGreatHop3
import Derived.Test.YtmbgcjfmfkddpaaGreatPinv
namespace Go.Proofs.YtmbgcjfmfkddpaaGreat
set_option linter.unusedVariables false
set_option linter.unusedSimpArgs false
open Go Go.RowKit
set_option maxRecDepth 100000 in
set_option maxHeartbeats 2000000 in
theorem HOpen_any (bl mi inn at_ x : Int) (box : List UInt8) (v : Value) (w : World) (hbl : in64 bl) (hmi : in64 mi) (hx : in64 x) (hv : SeesB w v box) (hl : box.length ≤ 20000000000000) :
    Calls Tryz.prog 28 #[.agg (SecC bl mi inn), .int .i64 at_, .agg #[.int .u64 x, v]] w (RetOE (openE bl mi at_ x box) w) := by
  obtain ⟨a0, c0, rfl, -, -⟩ := sees_form hv
  obtain ⟨x0, x1⟩ := hx
  have hR0 : Blk (((w.alloc (.cells (SecC bl mi inn) 41)).alloc (.cells #[.int .u64 x, .slice a0 box.length c0] 36)).alloc (.cells #[.int .u64 0, .slice none 0 0] 36)) (w.heap.size + 1 + 1) #[.int .u64 0, .slice none 0 0] 36 := Blk.new3 _ _ _ _ _
  have hE0 := (Blk.new2 w (.cells (SecC bl mi inn) 41) #[.int .u64 x, .slice a0 box.length c0] 36).alloc (.cells #[.int .u64 0, .slice none 0 0] 36)
  have hs0 := ((Blk.new w (SecC bl mi inn) 41).alloc (.cells #[.int .u64 x, .slice a0 box.length c0] 36)).alloc (.cells #[.int .u64 0, .slice none 0 0] 36)
  have hb0 := show Below w.heap.size w (((w.alloc (.cells (SecC bl mi inn) 41)).alloc (.cells #[.int .u64 x, .slice a0 box.length c0] 36)).alloc (.cells #[.int .u64 0, .slice none 0 0] 36)) by go_grown
  have hstab := Stab.and (Stab.blk w.heap.size (SecC bl mi inn) 41) (Stab.and (Stab.blk (w.heap.size + 1) #[.int .u64 x, .slice a0 box.length c0] 36) (Stab.blk (w.heap.size + 1 + 1) #[.int .u64 0, .slice none 0 0] 36))
  have hk0 : HoldT (fun u => Blk u w.heap.size (SecC bl mi inn) 41 ∧ Blk u (w.heap.size + 1) #[.int .u64 x, .slice a0 box.length c0] 36 ∧ Blk u (w.heap.size + 1 + 1) #[.int .u64 0, .slice none 0 0] 36) w (((w.alloc (.cells (SecC bl mi inn) 41)).alloc (.cells #[.int .u64 x, .slice a0 box.length c0] 36)).alloc (.cells #[.int .u64 0, .slice none 0 0] 36)) := ⟨⟨hs0, hE0, hR0⟩, hb0⟩
  have HR0 := Lib.hid hR0; have HK0 := Lib.hid hk0; have HB0 := Lib.hid hb0; have HE0 := Lib.hid hE0
  clear hR0 hE0 hs0 hb0 hk0
  have HV := Lib.hid hv; clear hv
  have HMI := Lib.hid hmi; have HBLI := Lib.hid hbl
  obtain ⟨mi0, mi1⟩ := hmi
  obtain ⟨bl0, bl1⟩ := hbl
  by_cases hok : okP x
  · obtain ⟨p0, p1⟩ := timesP_pos x mi
    have hoe : openE bl mi at_ x box = (openL (hopK (timesP x mi)) (besL at_) box).map (fun b => (timesP x bl, b)) := by unfold openE; rw [if_pos hok]
    have hP := fun (s : Int) (hs : in64 s) (w' : World) (u : Value) (h : SeesB w' u box) => By_any s at_ box u w' hs h hl
    generalize hO : openE bl mi at_ x box = O at *
    have HOE := Lib.hid hoe
    have HP := Lib.hid hP; clear hoe hP hO
    have HT1 := Lib.hid (fun w' : World => Times_any x mi w' x0 x1 mi0 mi1)
    have HT2 := Lib.hid (fun w' : World => Times_any x bl w' x0 x1 bl0 bl1)
    generalize timesP x mi = tm at *
    generalize timesP x bl = tb at *
    have HOK := Lib.hid (decide_eq_true hok); clear hok
    have HP2 := Lib.hid (HP.out tm ⟨p0, by omega⟩); clear HP
    have hc0 : ∀ e : InC (fun u => Blk u w.heap.size (SecC bl mi inn) 41 ∧ Blk u (w.heap.size + 1) #[.int .u64 x, .slice a0 box.length c0] 36 ∧ Blk u (w.heap.size + 1 + 1) #[.int .u64 0, .slice none 0 0] 36), e.u.cell? ⟨w.heap.size + 1, 0, none⟩ = some (.int .u64 x) := fun e => by rw [e.has.2.1.cell]; rfl
    have hc1 : ∀ e : InC (fun u => Blk u w.heap.size (SecC bl mi inn) 41 ∧ Blk u (w.heap.size + 1) #[.int .u64 x, .slice a0 box.length c0] 36 ∧ Blk u (w.heap.size + 1 + 1) #[.int .u64 0, .slice none 0 0] 36), e.u.cell? ⟨w.heap.size + 1, 1, none⟩ = some (.slice a0 box.length c0) := fun e => by rw [e.has.2.1.cell]; rfl
    have hc2 : ∀ e : InC (fun u => Blk u w.heap.size (SecC bl mi inn) 41 ∧ Blk u (w.heap.size + 1) #[.int .u64 x, .slice a0 box.length c0] 36 ∧ Blk u (w.heap.size + 1 + 1) #[.int .u64 0, .slice none 0 0] 36), e.u.cell? ⟨w.heap.size, 1, none⟩ = some (.int .u64 mi) := fun e => by rw [e.has.1.cell]; rfl
    go_enter Tryz.func28, Tryz.ntmps28
    go_wp2_with (go_at_call 32; refine (Right_any x _ x0 x1).mono ?_; rintro e w' ⟨rfl, rfl⟩; rw [HOK.out])
    have hk := HoldT.drew hstab HK0.out
    generalize openL (hopK tm) (besL at_) box = op at *
    cases op with
    | none =>
      try change Code.wp _ _ _ (Act.mk _ _) _
      haveI hne_ : Nonempty (InC (fun u => Blk u w.heap.size (SecC bl mi inn) 41 ∧ Blk u (w.heap.size + 1) #[.int .u64 x, .slice a0 box.length c0] 36 ∧ Blk u (w.heap.size + 1 + 1) #[.int .u64 0, .slice none 0 0] 36)) := ⟨⟨_, (hk).1⟩⟩
      refine wp_region_tr (C := fun w_ => ∃ e_ : InC (fun u => Blk u w.heap.size (SecC bl mi inn) 41 ∧ Blk u (w.heap.size + 1) #[.int .u64 x, .slice a0 box.length c0] 36 ∧ Blk u (w.heap.size + 1 + 1) #[.int .u64 0, .slice none 0 0] 36), w_ = e_.u) (.step [0, 1, 2, 3, 5, 6, 7] (.alt 4 (.step [] (.alt 8 (.fin [9, 10, 11, 12, 13]) .nil)) .nil)) (by kernel_rfl) (by kernel_rfl) (fun _ _ _ _ hd_ h_ => ⟨hd_.symm.trans h_.1, h_.2⟩) ⟨⟨World.drew _, (hk).1⟩, rfl⟩ ?_
      have hk_ := hk
      repeat' (first
        | ((with_reducible refine wpTr_fin ?_)
           simp only [pickOps, List.flatMap_cons, List.flatMap_nil, List.drop_succ_cons, List.drop_zero, List.take_succ_cons, List.take_zero, List.cons_append, List.nil_append, List.append_nil]
           repeat (go_big_quiet_step (exact rfl))
           refine wpQuiet_nil ?_)
        | ((with_reducible refine wpTr_step ?_); simp only [pickOps, List.flatMap_cons, List.flatMap_nil, List.drop_succ_cons, List.drop_zero, List.take_succ_cons, List.take_zero, List.cons_append, List.nil_append, List.append_nil]; repeat (go_big_quiet_step (exact rfl))
           refine wpQuiet_nil ?_)
        | (with_reducible refine wpTr_one ?_)
        | (with_reducible refine wpTr_alt ?_ ?_)
        | (simp only [pickOps, List.flatMap_cons, List.flatMap_nil, List.drop_succ_cons, List.drop_zero, List.take_succ_cons, List.take_zero, List.cons_append, List.nil_append, List.append_nil]
           go_wp2_with (first
        | (go_at_call 47; refine (HT1.out _).mono ?_; rintro e w' ⟨rfl, rfl⟩)
        | (go_at_call 46; refine (HP2.out _ _ (HV.out.below hk_.up (by decide))).mono ?_; rintro e x5 ⟨v5, rfl, hown5, hb5⟩; have hk5 := HoldT.step hstab hk_ hb5))
           refine phPost_hold (by first | with_reducible assumption | exact HoldT.alloc hstab (by with_reducible assumption) _ | exact HoldT.alloc hstab (HoldT.alloc hstab (by with_reducible assumption) _) _) ?_
           intro hk_))
      go_wp2_with (refine wpList_store_row rfl 36 _ _ rfl (w.heap.size + 1 + 1) #[.int .u64 0, .slice none 0 0] _ _ rfl rfl hk_.has.2.2 rfl info_entry (by intro v hv; simp at hv; rcases hv with rfl | rfl <;> rfl) ?_; intro x7 hg7 hs7 hR7)
      refine bodyPost_ret (results_row_tmp Tryz.results28 _ _ (w.heap.size + 1 + 1) _ _ _ _ rfl rfl hR7 Tryz.underlying36 rfl info_entry) rfl ?_
      exact ⟨_, by rw [HOE.out]; rfl, by rw [HOE.out]; exact ownB_nil _ _, hk_.up.grown hg7 hk_.up.size (fun k hk => by cases hk; omega)⟩
    | some b =>
      try change Code.wp _ _ _ (Act.mk _ _) _
      haveI hne_ : Nonempty (InC (fun u => Blk u w.heap.size (SecC bl mi inn) 41 ∧ Blk u (w.heap.size + 1) #[.int .u64 x, .slice a0 box.length c0] 36 ∧ Blk u (w.heap.size + 1 + 1) #[.int .u64 0, .slice none 0 0] 36)) := ⟨⟨_, (hk).1⟩⟩
      refine wp_region_tr (C := fun w_ => ∃ e_ : InC (fun u => Blk u w.heap.size (SecC bl mi inn) 41 ∧ Blk u (w.heap.size + 1) #[.int .u64 x, .slice a0 box.length c0] 36 ∧ Blk u (w.heap.size + 1 + 1) #[.int .u64 0, .slice none 0 0] 36), w_ = e_.u) (.step [0, 1, 2, 3, 5, 6, 7] (.alt 4 (.step [] (.alt 8 (.fin [9, 10, 11, 12, 13]) .nil)) .nil)) (by kernel_rfl) (by kernel_rfl) (fun _ _ _ _ hd_ h_ => ⟨hd_.symm.trans h_.1, h_.2⟩) ⟨⟨World.drew _, (hk).1⟩, rfl⟩ ?_
      have hk_ := hk
      repeat' (first
        | ((with_reducible refine wpTr_fin ?_)
           simp only [pickOps, List.flatMap_cons, List.flatMap_nil, List.drop_succ_cons, List.drop_zero, List.take_succ_cons, List.take_zero, List.cons_append, List.nil_append, List.append_nil]
           repeat (go_big_quiet_step (exact rfl))
           refine wpQuiet_nil ?_)
        | ((with_reducible refine wpTr_step ?_); simp only [pickOps, List.flatMap_cons, List.flatMap_nil, List.drop_succ_cons, List.drop_zero, List.take_succ_cons, List.take_zero, List.cons_append, List.nil_append, List.append_nil]; repeat (go_big_quiet_step (exact rfl))
           refine wpQuiet_nil ?_)
        | (with_reducible refine wpTr_one ?_)
        | (with_reducible refine wpTr_alt ?_ ?_)
        | (simp only [pickOps, List.flatMap_cons, List.flatMap_nil, List.drop_succ_cons, List.drop_zero, List.take_succ_cons, List.take_zero, List.cons_append, List.nil_append, List.append_nil]
           go_wp2_with (first
        | (go_at_call 47; refine (HT1.out _).mono ?_; rintro e w' ⟨rfl, rfl⟩)
        | (go_at_call 46; refine (HP2.out _ _ (HV.out.below hk_.up (by decide))).mono ?_; rintro e x5 ⟨v5, rfl, hown5, hb5⟩; have hk5 := HoldT.step hstab hk_ hb5))
           refine phPost_hold (by first | with_reducible assumption | exact HoldT.alloc hstab (by with_reducible assumption) _ | exact HoldT.alloc hstab (HoldT.alloc hstab (by with_reducible assumption) _) _) ?_
           intro hk_))
      simp only [Option.getD_some] at hown5
      obtain ⟨a5, c5, rfl, -, -⟩ := owns_form hown5
      have hd0 : x5.cell? ⟨w.heap.size + 1, 0, none⟩ = some (.int .u64 x) := by rw [hk_.has.2.1.cell]; rfl
      have hd1 : x5.cell? ⟨w.heap.size, 0, none⟩ = some (.int .u64 bl) := by rw [hk_.has.1.cell]; rfl
      go_wp2_with (first
        | (go_at_call 47; refine (HT2.out _).mono ?_; rintro e w' ⟨rfl, rfl⟩)
        | (refine wpList_store_row rfl 36 _ _ rfl (w.heap.size + 1 + 1) #[.int .u64 tb, .slice a5 b.length c5] _ _ rfl rfl hk_.has.2.2 rfl info_entry (by intro v hv; simp at hv; rcases hv with rfl | rfl <;> rfl) ?_; intro x7 hg7 hs7 hR7))
      refine bodyPost_ret (results_row_tmp Tryz.results28 _ _ (w.heap.size + 1 + 1) _ _ _ _ rfl rfl hR7 Tryz.underlying36 rfl info_entry) rfl ?_
      exact ⟨_, by rw [HOE.out]; rfl, by rw [HOE.out]; exact owns_mono (own_grown hown5 hg7 (RowT.blk hk_.has.2.2) (by decide)) HB0.out.size, hk_.up.grown hg7 hk_.up.size (fun k hk => by cases hk; omega)⟩
  · have HOE := Lib.hid (show openE bl mi at_ x box = none by unfold openE; rw [if_neg hok])
    have HOK := Lib.hid (decide_eq_false hok); clear hok
    go_enter Tryz.func28, Tryz.ntmps28
    go_wp2_with (first
      | (go_at_call 32; refine (Right_any x _ x0 x1).mono ?_; rintro e w' ⟨rfl, rfl⟩; rw [HOK.out])
      | (refine wpList_store_row rfl 36 _ _ rfl (w.heap.size + 1 + 1) #[.int .u64 0, .slice none 0 0] _ _ rfl rfl HR0.out rfl info_entry (by intro v hv; simp at hv; rcases hv with rfl | rfl <;> rfl) ?_; intro x7 hg7 hs7 hR7))
    refine bodyPost_ret (results_row_tmp Tryz.results28 _ _ (w.heap.size + 1 + 1) _ _ _ _ rfl rfl hR7 Tryz.underlying36 rfl info_entry) rfl ?_
    exact ⟨_, by rw [HOE.out]; rfl, by rw [HOE.out]; exact ownB_nil _ _, HB0.out.grown hg7 HB0.out.size (fun k hk => by cases hk; omega)⟩
theorem one_ent (x : Int) (a : Option Addr) (n c : Nat) : ∀ v ∈ (#[Value.int .u64 x, Value.slice a n c] : Array Value).toList, v.oneCell' = true := by
  intro v hv; simp at hv; rcases hv with rfl | rfl <;> rfl
set_option maxRecDepth 100000 in
set_option maxHeartbeats 1000000 in
theorem hproduct_any (es : List Ent) (B : Nat) (v : Value) (w : World) (hv : SlR entR B w v es) (he : ∀ e ∈ es, e.ok) (hl : es.length ≤ 1000000000) :
    Calls Tryz.prog 31 #[v] w fun e w' => e = .returned (.int .u64 (prodE es)) ∧ Below w.heap.size w w' := by
  obtain ⟨a, c, rfl, hc, hm⟩ := hv.form
  have HV := Lib.hid hv; clear hv
  have HE := Lib.hid he; clear he
  go_enter Tryz.func31, Tryz.ntmps31
  go_wp2_with fail
  go_loopw [3, 5, 8] (fun x _ i wr => HProdRel w es x i wr) (fun _ _ i _ => es.length - (intOf i).toNat)
  case atStart => exact ⟨0, Nat.zero_le _, rfl, ownU_nil _ _, Ext.refl _⟩
  case round =>
    obtain ⟨k, hk, rfl, hown, hext⟩ := hrel
    have HO := Lib.hid hown; have HX := Lib.hid hext
    obtain ⟨a1, c1, rfl, -, -⟩ := owns_form hown
    clear hown hext
    by_cases hlt : k < es.length
    · obtain ⟨b, o, c', e1, -, -⟩ := HV.out.open (by omega)
      obtain ⟨rfl, rfl⟩ : a = some ⟨b, o, none⟩ ∧ c = c' := by injection e1 with e1 _ e3; exact ⟨e1, e3⟩
      clear e1
      obtain ⟨e, hek⟩ : ∃ e, es[k]? = some e := ⟨_, List.getElem?_eq_getElem hlt⟩
      obtain ⟨ve, hrg, hve⟩ := slE_at (HV.out.ext HX.out) k e hek
      obtain ⟨ae, ce, rfl, -, -⟩ := sees_form hve
      have HRG := Lib.hid hrg
      have HT := Lib.hid (show (es.take k).map Ent.x ++ [e.x] = (es.take (k + 1)).map Ent.x by
        obtain ⟨h1, rfl⟩ := List.getElem?_eq_some_iff.1 hek
        rw [List.take_succ_eq_append_getElem h1, List.map_append]; rfl)
      clear hrg hek hve
      have hlk : ((es.take k).map Ent.x).length = k := by rw [List.length_map, List.length_take]; omega
      have HLK := Lib.hid hlk
      have HOK := Lib.hid (show OwnU wr w.heap.size (.slice a1 k c1) ((es.take k).map Ent.x) by
        have h := HO.out; rw [show Value.slice a1 ((es.take k).map Ent.x).length c1 = Value.slice a1 k c1 from by rw [hlk]] at h; exact h)
      rw [hlk]
      clear hlk
      go_wp2_with (first
        | (refine wpList_load_mid rfl 36 (.tmp 10) rfl b (o + k * 2) rfl _ _ HRG.out Tryz.underlying36 rfl info_entry ?_)
        | (refine wpList_allocB rfl _ rfl _ run_allocEnt ?_; intro x3 B3 hh3 hB3 e3)
        | (refine wpList_store_row rfl 36 _ _ rfl B3 #[.int .u64 e.x, .slice ae e.box.length ce] _ _ rfl rfl hh3 rfl info_entry (one_ent _ _ _ _) ?_; intro x4 hg4 hs4 hR4
           have e4 : Ext wr x4 := ext_rowK e3 hg4 hB3
           have hc4 : x4.cell? ⟨B3, 0, none⟩ = some (.int .u64 e.x) := (by rw [hR4.cell]; rfl)
           clear hs4)
        | (at_builtin; refine appU (W := w) rfl _ _ rfl (.slice a1 k c1) ((es.take k).map Ent.x) rfl (owns_below HOK.out (Ext.tr e4 (Ext.alloc _ _))) _ [e.x] rfl (seesU_lit1 _ _ _) (by rw [HLK.out]; simp only [List.length_cons, List.length_nil]; omega) (Ext.tr HX.out (Ext.tr e4 (Ext.alloc _ _))) ?_; intro v2 w2 hown2 hg2 hb2))
      go_roundw
      case rel => exact ⟨k + 1, by omega, by go_num, by rw [← HT.out]; exact hown2, hb2⟩
      case measure => (simp [intOf] <;> omega)
    · obtain rfl : k = es.length := by omega
      have hto := HO.out
      rw [List.take_length] at hto
      have HP := Lib.hid fun (w' : World) (h : Ext wr w') => Product_any w' _ (es.map Ent.x) (by
        have := (sees_of_owns hto).below h (by decide)
        exact this) (fun x hx => by obtain ⟨e, he, rfl⟩ := List.mem_map.1 hx; exact HE.out e he)
      have HPE := Lib.hid (show prodE es = prodP (es.map Ent.x) 1 from rfl)
      generalize prodP (es.map Ent.x) 1 = PR at *
      have hlk : ((es.take es.length).map Ent.x).length = es.length := by rw [List.take_length, List.length_map]
      rw [List.length_map] at HP
      rw [hlk]
      go_wp2_with (go_at_call 51; refine (HP.out _ (Ext.refl _)).mono ?_; rintro r w3 ⟨rfl, rfl⟩)
      go_ret
      exact ⟨by rw [HPE.out]; rfl, HX.out⟩
def RetO2 (W w : World) (L : List Ent) (e : Ending) (w' : World) : Prop := ∃ v', e = .returned v' ∧ OwR entR 0 W.heap.size w' v' L ∧ Ext w w'
set_option maxRecDepth 100000 in
set_option maxHeartbeats 2000000 in
theorem ordered_any (L : List Ent) (order : List Int) (B : Nat) (vl vo : Value) (W w : World) (hE : Ext W w) (hl : OwR entR 0 W.heap.size w vl L) (ho : SlR intR B w vo order) (hn : L.length ≤ 1000000) (hno : order.length ≤ 9223372036854775807) :
    Calls Tryz.prog 29 #[vl, vo] w (RetO2 W w (orderL L order)) := by
  obtain ⟨al, cl, rfl, -, -⟩ := hl.form
  obtain ⟨ao, co, rfl, -, -⟩ := ho.form
  have HLL := Lib.hid hl; have HOO := Lib.hid ho; have HX0 := Lib.hid hE
  clear hl ho hE
  by_cases hle : order.length = L.length
  · have hq3 : ((order.length : Int) != (L.length : Int)) = false := by rw [hle]; exact bne_self_eq_false _
    have HRO := Lib.hid (PermRight_any order B _ w HOO.out (by omega))
    by_cases hp : permOk order
    · have HPF := Lib.hid (decide_eq_true hp)
      have HGY := Lib.hid fun n k e h1 h2 => orderL_get (L := L) (order := order) (n := n) (k := k) (e := e) ⟨hle, hp⟩ h1 h2
      have HOL := Lib.hid (length_orderL L order)
      have HPP := Lib.hid hp.1
      generalize orderL L order = O at *
      have HLE := Lib.hid hle
      clear hp hle
      go_enter Tryz.func29, Tryz.ntmps29
      go_wp2_with (go_at_call 48; refine HRO.out.mono ?_; rintro r_ w1 ⟨rfl, hb1⟩; rw [HPF.out]; have e1 : Ext w w1 := hb1)
      go_loopw [5, 7, 21] (fun v _ iv wr => ∃ n : Nat, iv = .int .i64 n ∧ n ≤ order.length ∧ OwR entR 0 w.heap.size wr v (O.take n) ∧ Ext w wr) (fun _ _ iv _ => order.length - (intOf iv).toNat)
      case atStart => exact ⟨0, rfl, Nat.zero_le _, OwR.nil _ _ _, e1⟩
      case round =>
        obtain ⟨n, rfl, hnl, hO, hX⟩ := hrel
        obtain ⟨a5, c5, rfl, -, -⟩ := hO.form
        have HO := Lib.hid hO; have HX := Lib.hid hX
        have HTL := Lib.hid (show (O.take n).length = n by rw [List.length_take, HOL.out, ← HLE.out]; omega)
        clear hO hX
        by_cases hlt : n < order.length
        · obtain ⟨b, o, c', e9, -, -⟩ := HOO.out.open (by omega)
          obtain ⟨rfl, rfl⟩ : ao = some ⟨b, o, none⟩ ∧ co = c' := by injection e9 with e1 _ e3; exact ⟨e1, e3⟩
          clear e9
          obtain ⟨x, hxo⟩ : ∃ x, order[n]? = some x := ⟨_, List.getElem?_eq_getElem hlt⟩
          have hxr := HPP.out x (List.mem_of_getElem? hxo)
          obtain ⟨kx, rfl⟩ : ∃ k : Nat, x = k := ⟨x.toNat, by omega⟩
          have hkl : kx < L.length := by have := HLE.out; omega
          obtain ⟨eK, heK⟩ : ∃ e, L[kx]? = some e := ⟨_, List.getElem?_eq_getElem hkl⟩
          have HTK := Lib.hid (take_succ_of (HGY.out n kx eK hxo heK))
          obtain ⟨bl, ol, cl', e9, -, -⟩ := HLL.out.sl.open (by omega)
          obtain ⟨rfl, rfl⟩ : al = some ⟨bl, ol, none⟩ ∧ cl = cl' := by injection e9 with e1 _ e3; exact ⟨e1, e3⟩
          clear e9
          have hcx := slI_at (HOO.out.ext HX.out) n kx hxo
          obtain ⟨vK, hrK, hvK⟩ := slE_atR HLL.out.sl kx eK heK
          obtain ⟨aK, cK, rfl, -, -⟩ := hvK.form
          have HRK := Lib.hid (range_ext hrK HX.out); have HVK := Lib.hid (hvK.ext HX.out)
          clear hrK hvK heK hxo hxr
          generalize O.take n = OT at *
          rw [HTL.out] at HO ⊢
          go_wp2_with (first
            | (refine wpList_load_mid rfl 36 (.tmp 28) rfl bl (ol + kx * 2) rfl _ _ HRK.out Tryz.underlying36 rfl info_entry ?_)
            | (at_builtin; refine appE (W := w) (B := 0) rfl _ _ rfl (Nat.zero_le _) _ OT rfl (HO.out.ext (Ext.alloc _ _)) (.slice (some ⟨wr.heap.size, 0, none⟩) 1 1) [eK] rfl (SlR.lit1 (R := entR) (y := eK) (c := [.int .u64 eK.x, .slice aK eK.box.length cK]) ⟨_, rfl, HVK.out⟩) (by have := HTL.out; have := HLE.out; simp only [List.length_cons, List.length_nil]; omega) (Ext.tr HX.out (Ext.alloc _ _)) ?_; intro v2 w2 hown2 hg2 hb2))
          go_roundw
          case rel => exact ⟨n + 1, rfl, by omega, by rw [← HTK.out]; exact hown2, hb2⟩
          case measure => (simp [intOf] <;> omega)
        · obtain rfl : order.length = n := by omega
          have hto : O.take order.length = O := List.take_of_length_le (by rw [HOL.out, HLE.out]; exact Nat.le_refl _)
          rw [hto] at HO ⊢
          have HO2 := Lib.hid HO.out
          clear hto HO
          go_wp2_with fail
          go_ret
          exact ⟨_, rfl, HO2.out.mono (Nat.le_refl _) (Below.size HX0.out), HX.out⟩
    · have HPF := Lib.hid (decide_eq_false hp)
      have HOE := Lib.hid (show orderL L order = L from by unfold orderL; rw [if_neg (fun h => hp h.2)])
      generalize orderL L order = O at *
      clear hp hle
      go_enter Tryz.func29, Tryz.ntmps29
      go_wp2_with (go_at_call 48; refine HRO.out.mono ?_; rintro r_ w1 ⟨rfl, hb1⟩; rw [HPF.out]; have e1 : Ext w w1 := hb1)
      go_ret
      rw [HOE.out]
      exact ⟨_, rfl, HLL.out.ext e1, e1⟩
  · have HOE := Lib.hid (show orderL L order = L from by unfold orderL; rw [if_neg (fun h => hle h.1)])
    have hq3 : ((order.length : Int) != (L.length : Int)) = true := by rw [bne_iff_ne]; omega
    generalize orderL L order = O at *
    clear hle
    go_enter Tryz.func29, Tryz.ntmps29
    go_wp2_with fail
    go_ret
    rw [HOE.out]
    exact ⟨_, rfl, HLL.out, Ext.refl _⟩
end Go.Proofs.YtmbgcjfmfkddpaaGreat
