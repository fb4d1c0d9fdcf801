/-
  A user's side: made, asked, and whom it talks with.
  A user's side: what it says, stops, and got.
  A user's side: its draws.
  A user's side: the note that it sends.
  Rows of onions and of what they were made of; rows kept where older blocks are written.
-/
import Derived.Test.YtbgnfioggmkdeaaGreatDoorLy
import Derived.Test.YtbgnfioggmkdeaaGreatDoorLx
import Derived.Maps.AppendAt
import Derived.Test.YtbgnfioggmkdeaaGreatDoorMak
import Derived.Test.YtbgnfioggmkdeaaGreatDoorKe
namespace Go.Proofs.YtbgnfioggmkdeaaGreatDoor
set_option linter.unusedVariables false
set_option linter.unusedSimpArgs false
open Go Go.RowKit

/-- Payloads of 32 bytes. -/
def payR : Rp (List UInt8) where
  ty := 23
  sz := 32
  T := []
  rel := fun _ _ cs p => p.length = 32 ∧ cs = p.map BV
  pos := by decide
  len := fun ⟨h1, h2⟩ => by rw [h2, List.length_map, h1]
  one := fun ⟨h1, h2⟩ u hu => by rw [h2] at hu; obtain ⟨b, _, rfl⟩ := List.mem_map.1 hu; rfl
  keep := fun h _ => h
  mono := fun h _ => h
theorem OwR.payKeep {w u : World} {v : Value} {l : List (List UInt8)} (h : OwR payR 0 0 w v l) (hk : ∀ k, v.ownBlock = some k → u.heap[k]? = w.heap[k]?) : OwR payR 0 0 u v l := by
  obtain ⟨chs, ⟨h1, h1'⟩, hl, h2⟩ := h
  refine ⟨chs, ⟨h1, fun i c a hc ha => h1' i c a hc ha⟩, hl, ?_⟩
  rcases h2 with h | ⟨g, cap, cur, rfl, hg, hh, r⟩
  · exact .inl h
  · exact .inr ⟨g, cap, cur, rfl, hg, (hk g rfl).trans hh, r⟩
abbrev agC (s : Int) (m : Nat) (now vg : Value) : Array Value := #[.int .u64 s, .map (some m), now, vg]
abbrev AgB (w : World) (A : Nat) (s : Int) (m : Nat) (now vg : Value) : Prop := Blk w A (agC s m now vg) 94
abbrev peC (p : PeerL) (vs : Value) : Array Value := #[.int .u64 p.pub, vs, .int .i64 p.took, .int .i64 p.sent, .int .i64 p.ahead, .int .i64 p.round, .int .i64 p.taken]
abbrev PeB (w : World) (P : Nat) (p : PeerL) (vs : Value) : Prop := Blk w P (peC p vs) 97
theorem run_boxAg (cs : Array Value) (W : World) : (Instr.box 94 (.agg cs)).run Tryz.prog W = .ok (.pointer (some ⟨W.heap.size, 0, none⟩)) (W.alloc (.cells cs 94)) := by
  simp [go_sem]
theorem run_boxPe (cs : Array Value) (W : World) : (Instr.box 97 (.agg cs)).run Tryz.prog W = .ok (.pointer (some ⟨W.heap.size, 0, none⟩)) (W.alloc (.cells cs 97)) := by
  simp [go_sem]
set_option maxRecDepth 100000 in
theorem New_any (secret : Int) (w : World) (hs : in64 secret) :
    Calls Tryz.prog 10 #[.int .u64 secret] w fun e w' => e = .returned (.pointer (some ⟨w.heap.size + 1, 0, none⟩)) ∧ AgB w' (w.heap.size + 1) (secret % 2305843009213693950) w.heap.size (.pointer none) (.slice none 0 0) ∧ w'.heap[w.heap.size]? = some (.map #[] 0) ∧ w'.heap.size = w.heap.size + 2 ∧ Below w.heap.size w w' := by
  have HR := Lib.hid (fun W => ReduceN_any secret W hs.1 hs.2)
  generalize secret % 2305843009213693950 = s at *
  have hmm : ∀ W : World, (Instr.makeMap 91 none).run Tryz.prog W = .ok (.map (some W.heap.size)) (W.alloc (.map #[] 0)) := fun W => rfl
  go_enter Tryz.func10, Tryz.ntmps10
  go_wp2_with (first
    | (go_at_call 41; refine (HR.out _).mono ?_; rintro e y ⟨rfl, hy⟩; subst y))
  go_ret
  refine ⟨rfl, ?_, ?_, by simp [World.size_alloc], by go_grown⟩
  · have := Blk.new2 w (.map #[] 0) (agC s w.heap.size (.pointer none) (.slice none 0 0)) 94
    exact this
  · rw [heap_alloc_old _ _ (by rw [World.size_alloc]; omega), heap_alloc_new]
set_option maxRecDepth 100000 in
theorem APub_any (A : Nat) (s : Int) (m : Nat) (now vg : Value) (w : World) (hA : AgB w A s m now vg) (hs : in64 s) :
    Calls Tryz.prog 22 #[.pointer (some ⟨A, 0, none⟩)] w fun e w' => e = .returned (.int .u64 (timesP 37 s)) ∧ w' = w := by
  have HR := Lib.hid (fun W => Public_any s W hs.1 hs.2)
  have hc : w.cell? ⟨A, 0, none⟩ = some (.int .u64 s) := by rw [hA.cell]; rfl
  generalize timesP 37 s = T at *
  go_enter Tryz.func22, Tryz.ntmps22
  go_wp2_with (first
    | (go_at_call 48; refine (HR.out _).mono ?_; rintro e y ⟨rfl, hy⟩; subst y))
  go_ret
  exact ⟨rfl, rfl⟩
set_option maxRecDepth 100000 in
theorem AName_any (A : Nat) (s : Int) (m : Nat) (now vg : Value) (w : World) (hA : AgB w A s m now vg) (hs : in64 s) :
    Calls Tryz.prog 37 #[.pointer (some ⟨A, 0, none⟩)] w fun e w' => e = .returned (.agg (keyA (nameL (timesP 37 s)))) ∧ Below w.heap.size w w' := by
  have HP := Lib.hid (fun W (h : AgB W A s m now vg) => APub_any A s m now vg W h hs)
  have HN := Lib.hid (fun W => Name_any (timesP 37 s) W (in64_P (timesP_pos 37 s)))
  have HL := Lib.hid (length_nameL (timesP 37 s))
  generalize nameL (timesP 37 s) = NM at *
  generalize timesP 37 s = T at *
  go_enter Tryz.func37, Tryz.ntmps37
  go_wp2_with (first
    | (refine wpList_allocB rfl _ rfl _ run_allocKey ?_; intro x0 B0 hh0 hB0 e0)
    | (go_at_call 22; refine (HP.out _ (hA.below e0)).mono ?_; rintro e y ⟨rfl, hy⟩; subst y)
    | (go_at_call 43; refine (HN.out _).mono ?_; rintro e y1 ⟨rfl, hb1⟩; have hR1 := hh0.below hb1; have e1 : Ext w y1 := Ext.tr e0 hb1)
    | (refine wpList_store_row rfl 24 _ _ rfl B0 (keyA NM) _ _ rfl rfl hR1 (by rw [keyA_size, keyA_size, HL.out]; rfl) (by rw [keyA_size, HL.out]; exact info_key) (keyA_one _) ?_; intro z hgz hsz hRz))
  refine bodyPost_ret (results_cell_row Tryz.results37 _ _ B0 _ _ (0, 0) _ rfl hRz under_key rfl (by rw [keyA_size, HL.out]; exact info_key)) rfl ⟨rfl, ext_row e1 hgz hB0⟩
/-- From w to u no older block is touched but those of F. -/
structure Mod (F : List Nat) (w u : World) : Prop where
  os : u.os = w.os
  tape : u.tape = w.tape
  output : u.output = w.output
  size : w.heap.size ≤ u.heap.size
  block : ∀ k, k < w.heap.size → k ∉ F → u.heap[k]? = w.heap[k]?
theorem Mod.refl (F : List Nat) (w : World) : Mod F w w := ⟨rfl, rfl, rfl, Nat.le_refl _, fun _ _ _ => rfl⟩
theorem Mod.tr {F G : List Nat} {w u x : World} (h : Mod F w u) (k : Mod G u x) : Mod (F ++ G) w x :=
  ⟨k.os.trans h.os, k.tape.trans h.tape, k.output.trans h.output, Nat.le_trans h.size k.size, fun i hi hn => (k.block i (Nat.lt_of_lt_of_le hi h.size) (fun e => hn (List.mem_append_right _ e))).trans (h.block i hi (fun e => hn (List.mem_append_left _ e)))⟩
theorem Mod.mono {F G : List Nat} {w u : World} (h : Mod F w u) (hs : ∀ k ∈ F, k < w.heap.size → k ∈ G) : Mod G w u := ⟨h.os, h.tape, h.output, h.size, fun k hk hn => h.block k hk (fun e => hn (hs k e hk))⟩
theorem Ext.mod {w u : World} (e : Ext w u) (F : List Nat) : Mod F w u := ⟨e.os, e.tape, e.output, Below.size e, fun k hk _ => Below.block e k hk⟩
theorem Mod.ext {w u : World} (h : Mod [] w u) : Ext w u := ⟨h.os, h.tape, h.output, h.size, fun k hk => h.block k hk (by simp)⟩
theorem Mod.grown {w u : World} {g : Nat} (h : w.grownBy u (some g)) : Mod [g] w u := ⟨h.os, h.tape, h.output, h.size, fun k hk hn => h.block k hk (fun e => hn (by cases e; simp))⟩
theorem Mod.put {w : World} {m : Nat} {o : Obj} : Mod [m] w { w with heap := w.heap.setIfInBounds m o } :=
  ⟨rfl, rfl, rfl, by simp, fun k hk hn => by simp only [Array.getElem?_setIfInBounds]; rw [if_neg (fun e => hn (by simp [e]))]⟩
theorem Mod.blk {F : List Nat} {w u : World} (h : Mod F w u) {g : Nat} {cs : Array Value} {t : TypeId} (hb : Blk w g cs t) (hn : g ∉ F) : Blk u g cs t := (h.block g hb.lt hn).trans hb
theorem Mod.heap {F : List Nat} {w u : World} (h : Mod F w u) {g : Nat} {o : Obj} (hb : w.heap[g]? = some o) (hn : g ∉ F) : u.heap[g]? = some o := (h.block g (Array.getElem?_eq_some_iff.1 hb).1 hn).trans hb
theorem Mod.set (w : World) (A i : Nat) (v : Value) : Mod [A] w (w.setCell ⟨A, i, none⟩ v) := Mod.grown (grownBy_set (grownBy_refl w (some A)) i v)
theorem ext_heap {w u : World} (e : Ext w u) {g : Nat} {o : Obj} (hb : w.heap[g]? = some o) : u.heap[g]? = some o := (e.mod []).heap hb (by simp)
theorem run_buildPe (pub : Int) (W : World) : (Instr.build 97 #[(0, .int .u64 pub), (5, .int .i64 (-1))]).run Tryz.prog W = .ok (.agg (peC (peer0 pub []) (.slice none 0 0))) W := by
  simp [go_sem, peer0]
set_option maxRecDepth 100000 in
set_option maxHeartbeats 2000000 in
theorem Talk0_any (A : Nat) (s : Int) (m : Nat) (now vg : Value) (pub : Int) (w : World) (hA : AgB w A s m now vg) (hm : w.heap[m]? = some (.map #[] 0)) (hs : in64 s) (hp : okP pub) (hp1 : in64 pub) (hne : pub ≠ timesP 37 s) :
    Calls Tryz.prog 11 #[.pointer (some ⟨A, 0, none⟩), .int .u64 pub] w fun e w' => e = .returned (.int .i64 0) ∧ ∃ P, w.heap.size ≤ P ∧ AgB w' A s m (.pointer (some ⟨P, 0, none⟩)) vg ∧ w'.heap[m]? = some (.map #[⟨.agg (keyA (nameL pub)), .pointer (some ⟨P, 0, none⟩), 0⟩] 1) ∧ PeB w' P (peer0 pub []) (.slice none 0 0) ∧ Mod [A, m] w w' := by
  have HRG := Lib.hid (fun W => Right_any pub W hp1.1 hp1.2)
  have HD := Lib.hid (show decide (okP pub) = true by simpa using hp)
  have HPB := Lib.hid (APub_any A s m now vg w hA hs)
  have hnb : (pub == timesP 37 s) = false := by rw [beq_eq_false_iff_ne]; exact hne
  have HNM := Lib.hid (fun W => Name_any pub W hp1)
  have HL := Lib.hid (length_nameL pub)
  have HA := Lib.hid hA; have HM := Lib.hid hm
  have hmA : m ≠ A := fun e => by subst e; unfold AgB Blk at hA; rw [hA] at hm; cases hm
  have hmlt := (Array.getElem?_eq_some_iff.1 hm).1
  have hAlt := hA.lt
  generalize nameL pub = NM at *
  generalize timesP 37 s = T at *
  clear hA hm hne
  go_enter Tryz.func11, Tryz.ntmps11
  go_wp2_with (first
    | (go_at_call 42; refine (HRG.out _).mono ?_; rintro e y ⟨rfl, hy⟩; subst y; rw [HD.out])
    | (go_at_call 22; refine HPB.out.mono ?_; rintro e y ⟨rfl, hy⟩; subst y)
    | (go_at_call 43; refine (HNM.out _).mono ?_; rintro e y1 ⟨rfl, hb1⟩)
    | (refine wpList_store_row rfl 24 _ _ rfl y1.heap.size (keyA NM) _ _ rfl rfl (Blk.new _ _ _) (by rw [keyA_size, HL.out]; rfl) (by rw [keyA_size, HL.out]; exact info_key) (keyA_one _) ?_; intro x hgx hsx hKx))
  have ex : Ext w x := ext_row (Ext.tr hb1 (Ext.alloc _ _)) hgx (Below.size hb1)
  have hAx := HA.out.below ex
  have hMx := ext_heap ex HM.out
  have hKA : y1.heap.size ≠ A := fun e => by have := Below.size hb1; omega
  have hKm : y1.heap.size ≠ m := fun e => by have := Below.size hb1; omega
  have hKw : w.heap.size ≤ y1.heap.size := Below.size hb1
  generalize y1.heap.size = K at *
  have HAx := Lib.hid hAx; have HMx := Lib.hid hMx; have HKx := Lib.hid hKx
  clear hAx hMx hKx hgx hsx hb1
  have hst := stabExt x
  have hk : HoldT (fun u => Ext x u) w x.drew := HoldT.drew hst ⟨Ext.refl _, ex⟩
  try change Code.wp _ _ _ (Act.mk _ _) _
  refine wp_region_runR Ext 7 41 (HoldT (fun u => Ext x u) _) [[], [(0, 17)], [(1, 18)], [(2, 19)], [], [(3, 20), (4, 21)], [(5, 22)]] [(0, 17), (1, 18), (2, 19), (3, 20), (4, 21), (5, 22), (6, 23)] (by kernel_rfl) (by kernel_rfl) (by first | rfl | simp) (hk) ?_
  simp only [List.take_succ_cons, List.take_zero, List.drop_succ_cons, List.drop_zero]
  refine sp_op (Ph.eq _) (fun u hu => by
    refine spArg_nil ?_
    have hcm : u.cell? ⟨A, 1, none⟩ = some (.map (some m)) := (by rw [(HAx.out.below hu.has).cell]; rfl)
    go_wp2_with (fail)
    exact ⟨rfl, hu, Ext.refl _, slot_eq rfl⟩) ?_
  refine sp_op (Ph.eq _) (fun u hu => by
    refine spArg_eq 0 rfl rfl ?_
    refine spArg_nil ?_
    simp only [Act.put, List.setIfInBounds_toArray, List.set_cons_succ, List.set_cons_zero]
    have hcm : u.cell? ⟨A, 1, none⟩ = some (.map (some m)) := (by rw [(HAx.out.below hu.has).cell]; rfl)
    go_wp2_with (fail)
    exact ⟨rfl, hu, Ext.refl _, slot_eq rfl⟩) ?_
  refine sp_op (Ph.eq _) (fun u hu => by
    refine spArg_eq 0 rfl rfl ?_
    refine spArg_nil ?_
    simp only [Act.put, List.setIfInBounds_toArray, List.set_cons_succ, List.set_cons_zero]
    have hcm : u.cell? ⟨A, 1, none⟩ = some (.map (some m)) := (by rw [(HAx.out.below hu.has).cell]; rfl)
    go_wp2_with (fail)
    exact ⟨rfl, hu, Ext.refl _, slot_eq rfl⟩) ?_
  refine sp_op (Ph.eq _) (fun u hu => by
    refine spArg_eq 0 rfl rfl ?_
    refine spArg_nil ?_
    simp only [Act.put, List.setIfInBounds_toArray, List.set_cons_succ, List.set_cons_zero]
    have hcm : u.cell? ⟨A, 1, none⟩ = some (.map (some m)) := (by rw [(HAx.out.below hu.has).cell]; rfl)
    go_wp2_with (fail)
    exact ⟨rfl, hu, Ext.refl _, slot_eq rfl⟩) ?_
  refine sp_op (Ph.eq _) (fun u hu => by
    refine spArg_nil ?_
    have hcm : u.cell? ⟨A, 1, none⟩ = some (.map (some m)) := (by rw [(HAx.out.below hu.has).cell]; rfl)
    go_wp2_with ((refine wpList_load_rowG rfl 24 _ rfl (K) rfl _ _ (0, 0) _ (HKx.out.below hu.has) Tryz.underlying24 rfl (by rw [keyA_size, HL.out]; exact info_key) ?_))
    exact ⟨rfl, hu, Ext.refl _, slot_eq rfl⟩) ?_
  refine sp_op (Ph.eq _) (fun u hu => by
    refine spArg_eq 1 rfl rfl ?_
    refine spArg_eq 0 rfl rfl ?_
    refine spArg_nil ?_
    simp only [Act.put, List.setIfInBounds_toArray, List.set_cons_succ, List.set_cons_zero]
    have hcm : u.cell? ⟨A, 1, none⟩ = some (.map (some m)) := (by rw [(HAx.out.below hu.has).cell]; rfl)
    go_wp2_with ((refine wpList_look rfl 91 _ _ false rfl (.map (some m)) (.agg (keyA NM)) (.pointer none) rfl rfl (run_lookNil m 0 NM HL.out _ (ext_heap hu.has HMx.out)) ?_))
    exact ⟨rfl, hu, Ext.refl _, slot_eq rfl⟩) ?_
  refine sp_op (Ph.eq _) (fun u hu => by
    refine spArg_eq 0 rfl rfl ?_
    refine spArg_nil ?_
    simp only [Act.put, List.setIfInBounds_toArray, List.set_cons_succ, List.set_cons_zero]
    have hcm : u.cell? ⟨A, 1, none⟩ = some (.map (some m)) := (by rw [(HAx.out.below hu.has).cell]; rfl)
    go_wp2_with (fail)
    exact ⟨rfl, hu, Ext.refl _, slot_eq rfl⟩) ?_
  refine sp_end ?_
  intro u hu
  refine spArg_eq 6 rfl rfl ?_
  refine spArg_eq 5 rfl rfl ?_
  refine spArg_eq 4 rfl rfl ?_
  refine spArg_eq 3 rfl rfl ?_
  refine spArg_eq 2 rfl rfl ?_
  refine spArg_eq 1 rfl rfl ?_
  refine spArg_eq 0 rfl rfl ?_
  refine spArg_nil ?_
  simp only [Act.put, List.setIfInBounds_toArray, List.set_cons_succ, List.set_cons_zero]
  go_wp2_with fail
  have hk2 : HoldT (fun u => Ext x u) w u.drew := HoldT.drew hst hu
  try change Code.wp _ _ _ (Act.mk _ _) _
  refine wp_region_runR Ext 8 41 (HoldT (fun u => Ext x u) _) [[], [(0, 24)], [(1, 25)], [(2, 26)], [], [], [(5, 29)], [(6, 30)]] [(0, 24), (1, 25), (2, 26), (3, 27), (4, 28), (5, 29), (6, 30), (7, 31)] (by kernel_rfl) (by kernel_rfl) (by first | rfl | simp) (hk2) ?_
  simp only [List.take_succ_cons, List.take_zero, List.drop_succ_cons, List.drop_zero]
  refine sp_op (Ph.eq _) (fun u hu => by
    refine spArg_nil ?_
    have hcm : u.cell? ⟨A, 1, none⟩ = some (.map (some m)) := (by rw [(HAx.out.below hu.has).cell]; rfl)
    go_wp2_with (fail)
    exact ⟨rfl, hu, Ext.refl _, slot_eq rfl⟩) ?_
  refine sp_op (Ph.eq _) (fun u hu => by
    refine spArg_eq 0 rfl rfl ?_
    refine spArg_nil ?_
    simp only [Act.put, List.setIfInBounds_toArray, List.set_cons_succ, List.set_cons_zero]
    have hcm : u.cell? ⟨A, 1, none⟩ = some (.map (some m)) := (by rw [(HAx.out.below hu.has).cell]; rfl)
    go_wp2_with (fail)
    exact ⟨rfl, hu, Ext.refl _, slot_eq rfl⟩) ?_
  refine sp_op (Ph.eq _) (fun u hu => by
    refine spArg_eq 0 rfl rfl ?_
    refine spArg_nil ?_
    simp only [Act.put, List.setIfInBounds_toArray, List.set_cons_succ, List.set_cons_zero]
    have hcm : u.cell? ⟨A, 1, none⟩ = some (.map (some m)) := (by rw [(HAx.out.below hu.has).cell]; rfl)
    go_wp2_with (fail)
    exact ⟨rfl, hu, Ext.refl _, slot_eq rfl⟩) ?_
  refine sp_op (Ph.eq _) (fun u hu => by
    refine spArg_eq 0 rfl rfl ?_
    refine spArg_nil ?_
    simp only [Act.put, List.setIfInBounds_toArray, List.set_cons_succ, List.set_cons_zero]
    have hcm : u.cell? ⟨A, 1, none⟩ = some (.map (some m)) := (by rw [(HAx.out.below hu.has).cell]; rfl)
    go_wp2_with (fail)
    exact ⟨rfl, hu, Ext.refl _, slot_eq rfl⟩) ?_
  refine sp_op (Ph.eq _) (fun u hu => by
    refine spArg_nil ?_
    have hcm : u.cell? ⟨A, 1, none⟩ = some (.map (some m)) := (by rw [(HAx.out.below hu.has).cell]; rfl)
    go_wp2_with ((refine wpList_load_rowG rfl 24 _ rfl (K) rfl _ _ (0, 0) _ (HKx.out.below hu.has) Tryz.underlying24 rfl (by rw [keyA_size, HL.out]; exact info_key) ?_))
    exact ⟨rfl, hu, Ext.refl _, slot_eq rfl⟩) ?_
  refine sp_op (Ph.eq _) (fun u hu => by
    refine spArg_nil ?_
    have hcm : u.cell? ⟨A, 1, none⟩ = some (.map (some m)) := (by rw [(HAx.out.below hu.has).cell]; rfl)
    go_wp2_with (fail)
    exact ⟨rfl, hu, Ext.refl _, slot_eq rfl⟩) ?_
  refine sp_op (Ph.eq _) (fun u hu => by
    refine spArg_eq 0 rfl rfl ?_
    refine spArg_nil ?_
    simp only [Act.put, List.setIfInBounds_toArray, List.set_cons_succ, List.set_cons_zero]
    have hcm : u.cell? ⟨A, 1, none⟩ = some (.map (some m)) := (by rw [(HAx.out.below hu.has).cell]; rfl)
    go_wp2_with ((refine wpList_build2 rfl 97 0 5 _ _ rfl (.int .u64 pub) (.int .i64 (-1)) (.agg (peC (peer0 pub []) (.slice none 0 0))) rfl rfl (run_buildPe pub _) ?_))
    exact ⟨rfl, hu, Ext.refl _, slot_eq rfl⟩) ?_
  refine sp_op (Ph.blk x.heap.size (peC (peer0 pub []) (.slice none 0 0)) 97) (fun u hu => by
    refine spArg_eq 0 rfl rfl ?_
    refine spArg_nil ?_
    simp only [Act.put, List.setIfInBounds_toArray, List.set_cons_succ, List.set_cons_zero]
    have hcm : u.cell? ⟨A, 1, none⟩ = some (.map (some m)) := (by rw [(HAx.out.below hu.has).cell]; rfl)
    go_wp2_with ((refine wpList_boxB rfl 97 _ rfl (peC (peer0 pub []) (.slice none 0 0)) rfl (run_boxPe _ _) ?_; intro x7 P hhP hPB e7))
    exact ⟨rfl, HoldT.step hst hu e7, e7, slot_of rfl ⟨P, rfl, Nat.le_trans (Below.size hu.has) hPB, hhP⟩⟩) ?_
  refine sp_end ?_
  intro u hu
  refine spArg_eq 7 rfl rfl ?_
  refine spArg_eq 6 rfl rfl ?_
  refine spArg_eq 5 rfl rfl ?_
  refine spArg_eq 4 rfl rfl ?_
  refine spArg_eq 3 rfl rfl ?_
  refine spArg_eq 2 rfl rfl ?_
  refine spArg_eq 1 rfl rfl ?_
  refine spArg_in (φ := Ph.blk x.heap.size (peC (peer0 pub []) (.slice none 0 0)) 97) 0 rfl rfl ?_; intro v7 h7
  obtain ⟨P, rfl, hP0, hP⟩ := h7
  refine spArg_nil ?_
  simp only [Act.put, List.setIfInBounds_toArray, List.set_cons_succ, List.set_cons_zero]
  have hMu := ext_heap hu.has HMx.out
  have hAu := HAx.out.below hu.has
  have hKu := HKx.out.below hu.has
  have hxw : w.heap.size ≤ x.heap.size := Below.size ex
  have hPm : P ≠ m := by omega
  have hPA : P ≠ A := by omega
  go_wp2_with (refine wpList_upd rfl 91 _ _ _ rfl rfl (.map (some m)) (.agg (keyA NM)) (.pointer (some ⟨P, 0, none⟩)) _ rfl rfl rfl (run_updNil m 0 NM _ HL.out _ hMu) ?_)
  obtain ⟨y, hy⟩ : ∃ y : World, { u with heap := u.heap.setIfInBounds m (.map #[⟨.agg (keyA NM), .pointer (some ⟨P, 0, none⟩), 0⟩] (0 + 1)) } = y := ⟨_, rfl⟩
  have hyM : Mod [m] u y := by rw [← hy]; exact Mod.put
  have hMy : y.heap[m]? = some (.map #[⟨.agg (keyA NM), .pointer (some ⟨P, 0, none⟩), 0⟩] 1) := by rw [← hy]; exact (MapKept.heap_set hMu).1
  have hAy := hyM.blk hAu (by simp; exact fun e => hmA e.symm)
  have hKy := hyM.blk hKu (by simp; exact hKm)
  have hPy := hyM.blk hP (by simp; exact hPm)
  have hwy : Mod [m] w y := (Mod.tr ((show Ext w u from hu.up).mod []) hyM).mono (fun k hk _ => by simpa using hk)
  have hPw : w.heap.size ≤ P := Nat.le_trans hxw hP0
  show Code.wp _ _ _ _ { u with heap := u.heap.setIfInBounds m (.map #[⟨.agg (keyA NM), .pointer (some ⟨P, 0, none⟩), 0⟩] (0 + 1)) }
  rw [hy]
  clear hy hyM hMu hAu hKu hP
  have HAy := Lib.hid hAy; have HMy := Lib.hid hMy; have HKy := Lib.hid hKy
  clear hAy hMy hKy
  have hst6 := stabExt y
  have hk6 : HoldT (fun u => Ext y u) y y.drew := HoldT.drew hst6 ⟨Ext.refl _, Ext.refl _⟩
  try change Code.wp _ _ _ (Act.mk _ _) _
  refine wp_region_runR Ext 9 41 (HoldT (fun u => Ext y u) _) [[], [], [(1, 33)], [(2, 34)], [(3, 35)], [], [(4, 36), (5, 37)], [(0, 32)], [(7, 39)]] [(0, 32), (1, 33), (2, 34), (3, 35), (4, 36), (5, 37), (6, 38), (7, 39), (8, 40)] (by kernel_rfl) (by kernel_rfl) (by first | rfl | simp) (hk6) ?_
  simp only [List.take_succ_cons, List.take_zero, List.drop_succ_cons, List.drop_zero]
  refine sp_op (Ph.eq _) (fun u hu => by
    refine spArg_nil ?_
    have hcm : u.cell? ⟨A, 1, none⟩ = some (.map (some m)) := (by rw [(HAy.out.below hu.has).cell]; rfl)
    go_wp2_with (fail)
    exact ⟨rfl, hu, Ext.refl _, slot_eq rfl⟩) ?_
  refine sp_op (Ph.eq _) (fun u hu => by
    refine spArg_nil ?_
    have hcm : u.cell? ⟨A, 1, none⟩ = some (.map (some m)) := (by rw [(HAy.out.below hu.has).cell]; rfl)
    go_wp2_with (fail)
    exact ⟨rfl, hu, Ext.refl _, slot_eq rfl⟩) ?_
  refine sp_op (Ph.eq _) (fun u hu => by
    refine spArg_eq 0 rfl rfl ?_
    refine spArg_nil ?_
    simp only [Act.put, List.setIfInBounds_toArray, List.set_cons_succ, List.set_cons_zero]
    have hcm : u.cell? ⟨A, 1, none⟩ = some (.map (some m)) := (by rw [(HAy.out.below hu.has).cell]; rfl)
    go_wp2_with (fail)
    exact ⟨rfl, hu, Ext.refl _, slot_eq rfl⟩) ?_
  refine sp_op (Ph.eq _) (fun u hu => by
    refine spArg_eq 0 rfl rfl ?_
    refine spArg_nil ?_
    simp only [Act.put, List.setIfInBounds_toArray, List.set_cons_succ, List.set_cons_zero]
    have hcm : u.cell? ⟨A, 1, none⟩ = some (.map (some m)) := (by rw [(HAy.out.below hu.has).cell]; rfl)
    go_wp2_with (fail)
    exact ⟨rfl, hu, Ext.refl _, slot_eq rfl⟩) ?_
  refine sp_op (Ph.eq _) (fun u hu => by
    refine spArg_eq 0 rfl rfl ?_
    refine spArg_nil ?_
    simp only [Act.put, List.setIfInBounds_toArray, List.set_cons_succ, List.set_cons_zero]
    have hcm : u.cell? ⟨A, 1, none⟩ = some (.map (some m)) := (by rw [(HAy.out.below hu.has).cell]; rfl)
    go_wp2_with (fail)
    exact ⟨rfl, hu, Ext.refl _, slot_eq rfl⟩) ?_
  refine sp_op (Ph.eq _) (fun u hu => by
    refine spArg_nil ?_
    have hcm : u.cell? ⟨A, 1, none⟩ = some (.map (some m)) := (by rw [(HAy.out.below hu.has).cell]; rfl)
    go_wp2_with ((refine wpList_load_rowG rfl 24 _ rfl (K) rfl _ _ (0, 0) _ (HKy.out.below hu.has) Tryz.underlying24 rfl (by rw [keyA_size, HL.out]; exact info_key) ?_))
    exact ⟨rfl, hu, Ext.refl _, slot_eq rfl⟩) ?_
  refine sp_op (Ph.eq _) (fun u hu => by
    refine spArg_eq 1 rfl rfl ?_
    refine spArg_eq 0 rfl rfl ?_
    refine spArg_nil ?_
    simp only [Act.put, List.setIfInBounds_toArray, List.set_cons_succ, List.set_cons_zero]
    have hcm : u.cell? ⟨A, 1, none⟩ = some (.map (some m)) := (by rw [(HAy.out.below hu.has).cell]; rfl)
    go_wp2_with ((refine wpList_look rfl 91 _ _ false rfl (.map (some m)) (.agg (keyA NM)) (.pointer (some ⟨P, 0, none⟩)) rfl rfl (run_lookOne m 1 0 NM _ HL.out _ (ext_heap hu.has HMy.out)) ?_))
    exact ⟨rfl, hu, Ext.refl _, slot_eq rfl⟩) ?_
  refine sp_op (Ph.eq _) (fun u hu => by
    refine spArg_eq 6 rfl rfl ?_
    refine spArg_nil ?_
    simp only [Act.put, List.setIfInBounds_toArray, List.set_cons_succ, List.set_cons_zero]
    have hcm : u.cell? ⟨A, 1, none⟩ = some (.map (some m)) := (by rw [(HAy.out.below hu.has).cell]; rfl)
    go_wp2_with (fail)
    exact ⟨rfl, hu, Ext.refl _, slot_eq rfl⟩) ?_
  refine sp_op (Ph.eq _) (fun u hu => by
    refine spArg_eq 0 rfl rfl ?_
    refine spArg_nil ?_
    simp only [Act.put, List.setIfInBounds_toArray, List.set_cons_succ, List.set_cons_zero]
    have hcm : u.cell? ⟨A, 1, none⟩ = some (.map (some m)) := (by rw [(HAy.out.below hu.has).cell]; rfl)
    go_wp2_with (fail)
    exact ⟨rfl, hu, Ext.refl _, slot_eq rfl⟩) ?_
  refine sp_end ?_
  intro u hu
  refine spArg_eq 8 rfl rfl ?_
  refine spArg_eq 7 rfl rfl ?_
  refine spArg_eq 6 rfl rfl ?_
  refine spArg_eq 5 rfl rfl ?_
  refine spArg_eq 4 rfl rfl ?_
  refine spArg_eq 3 rfl rfl ?_
  refine spArg_eq 2 rfl rfl ?_
  refine spArg_eq 1 rfl rfl ?_
  refine spArg_eq 0 rfl rfl ?_
  refine spArg_nil ?_
  simp only [Act.put, List.setIfInBounds_toArray, List.set_cons_succ, List.set_cons_zero]
  have hAz := HAy.out.below hu.has
  have hcn : u.cell? ⟨A, 2, none⟩ = some now := by rw [hAz.cell]; rfl
  have hfn := hAz.free 2
  go_wp2_with fail
  go_ret
  have hMs := Mod.set u A 2 (.pointer (some ⟨P, 0, none⟩))
  have hAs : AgB (u.setCell ⟨A, 2, none⟩ (.pointer (some ⟨P, 0, none⟩))) A s m (.pointer (some ⟨P, 0, none⟩)) vg := hAz.set 2 _
  have hMz := hMs.heap (ext_heap hu.has HMy.out) (by simp; exact hmA)
  have hyz := Mod.tr ((show Ext y u from hu.has).mod []) hMs
  exact ⟨rfl, P, hPw, hAs, hMz, hMs.blk (hPy.below hu.has) (by simp; exact hPA), (Mod.tr hwy hyz).mono (fun k hk _ => by simp at hk ⊢; omega)⟩
set_option maxRecDepth 100000 in
set_option maxHeartbeats 2000000 in
theorem Talk1_any (A : Nat) (s : Int) (m P : Nat) (now vg : Value) (pub : Int) (w : World) (hA : AgB w A s m now vg) (hm : w.heap[m]? = some (.map #[⟨.agg (keyA (nameL pub)), .pointer (some ⟨P, 0, none⟩), 0⟩] 1)) (hs : in64 s) (hp : okP pub) (hp1 : in64 pub) (hne : pub ≠ timesP 37 s) :
    Calls Tryz.prog 11 #[.pointer (some ⟨A, 0, none⟩), .int .u64 pub] w fun e w' => e = .returned (.int .i64 0) ∧ AgB w' A s m (.pointer (some ⟨P, 0, none⟩)) vg ∧ Mod [A] w w' := by
  have HRG := Lib.hid (fun W => Right_any pub W hp1.1 hp1.2)
  have HD := Lib.hid (show decide (okP pub) = true by simpa using hp)
  have HPB := Lib.hid (APub_any A s m now vg w hA hs)
  have hnb : (pub == timesP 37 s) = false := by rw [beq_eq_false_iff_ne]; exact hne
  have HNM := Lib.hid (fun W => Name_any pub W hp1)
  have HL := Lib.hid (length_nameL pub)
  have HA := Lib.hid hA; have HM := Lib.hid hm
  have hmA : m ≠ A := fun e => by subst e; unfold AgB Blk at hA; rw [hA] at hm; cases hm
  have hmlt := (Array.getElem?_eq_some_iff.1 hm).1
  have hAlt := hA.lt
  generalize nameL pub = NM at *
  generalize timesP 37 s = T at *
  clear hA hm hne
  go_enter Tryz.func11, Tryz.ntmps11
  go_wp2_with (first
    | (go_at_call 42; refine (HRG.out _).mono ?_; rintro e y ⟨rfl, hy⟩; subst y; rw [HD.out])
    | (go_at_call 22; refine HPB.out.mono ?_; rintro e y ⟨rfl, hy⟩; subst y)
    | (go_at_call 43; refine (HNM.out _).mono ?_; rintro e y1 ⟨rfl, hb1⟩)
    | (refine wpList_store_row rfl 24 _ _ rfl y1.heap.size (keyA NM) _ _ rfl rfl (Blk.new _ _ _) (by rw [keyA_size, HL.out]; rfl) (by rw [keyA_size, HL.out]; exact info_key) (keyA_one _) ?_; intro x hgx hsx hKx))
  have ex : Ext w x := ext_row (Ext.tr hb1 (Ext.alloc _ _)) hgx (Below.size hb1)
  have hAx := HA.out.below ex
  have hMx := ext_heap ex HM.out
  have hKA : y1.heap.size ≠ A := fun e => by have := Below.size hb1; omega
  have hKm : y1.heap.size ≠ m := fun e => by have := Below.size hb1; omega
  have hKw : w.heap.size ≤ y1.heap.size := Below.size hb1
  generalize y1.heap.size = K at *
  have HAx := Lib.hid hAx; have HMx := Lib.hid hMx; have HKx := Lib.hid hKx
  clear hAx hMx hKx hgx hsx hb1
  have hst := stabExt x
  have hk : HoldT (fun u => Ext x u) w x.drew := HoldT.drew hst ⟨Ext.refl _, ex⟩
  try change Code.wp _ _ _ (Act.mk _ _) _
  refine wp_region_runR Ext 7 41 (HoldT (fun u => Ext x u) _) [[], [(0, 17)], [(1, 18)], [(2, 19)], [], [(3, 20), (4, 21)], [(5, 22)]] [(0, 17), (1, 18), (2, 19), (3, 20), (4, 21), (5, 22), (6, 23)] (by kernel_rfl) (by kernel_rfl) (by first | rfl | simp) (hk) ?_
  simp only [List.take_succ_cons, List.take_zero, List.drop_succ_cons, List.drop_zero]
  refine sp_op (Ph.eq _) (fun u hu => by
    refine spArg_nil ?_
    have hcm : u.cell? ⟨A, 1, none⟩ = some (.map (some m)) := (by rw [(HAx.out.below hu.has).cell]; rfl)
    go_wp2_with (fail)
    exact ⟨rfl, hu, Ext.refl _, slot_eq rfl⟩) ?_
  refine sp_op (Ph.eq _) (fun u hu => by
    refine spArg_eq 0 rfl rfl ?_
    refine spArg_nil ?_
    simp only [Act.put, List.setIfInBounds_toArray, List.set_cons_succ, List.set_cons_zero]
    have hcm : u.cell? ⟨A, 1, none⟩ = some (.map (some m)) := (by rw [(HAx.out.below hu.has).cell]; rfl)
    go_wp2_with (fail)
    exact ⟨rfl, hu, Ext.refl _, slot_eq rfl⟩) ?_
  refine sp_op (Ph.eq _) (fun u hu => by
    refine spArg_eq 0 rfl rfl ?_
    refine spArg_nil ?_
    simp only [Act.put, List.setIfInBounds_toArray, List.set_cons_succ, List.set_cons_zero]
    have hcm : u.cell? ⟨A, 1, none⟩ = some (.map (some m)) := (by rw [(HAx.out.below hu.has).cell]; rfl)
    go_wp2_with (fail)
    exact ⟨rfl, hu, Ext.refl _, slot_eq rfl⟩) ?_
  refine sp_op (Ph.eq _) (fun u hu => by
    refine spArg_eq 0 rfl rfl ?_
    refine spArg_nil ?_
    simp only [Act.put, List.setIfInBounds_toArray, List.set_cons_succ, List.set_cons_zero]
    have hcm : u.cell? ⟨A, 1, none⟩ = some (.map (some m)) := (by rw [(HAx.out.below hu.has).cell]; rfl)
    go_wp2_with (fail)
    exact ⟨rfl, hu, Ext.refl _, slot_eq rfl⟩) ?_
  refine sp_op (Ph.eq _) (fun u hu => by
    refine spArg_nil ?_
    have hcm : u.cell? ⟨A, 1, none⟩ = some (.map (some m)) := (by rw [(HAx.out.below hu.has).cell]; rfl)
    go_wp2_with ((refine wpList_load_rowG rfl 24 _ rfl (K) rfl _ _ (0, 0) _ (HKx.out.below hu.has) Tryz.underlying24 rfl (by rw [keyA_size, HL.out]; exact info_key) ?_))
    exact ⟨rfl, hu, Ext.refl _, slot_eq rfl⟩) ?_
  refine sp_op (Ph.eq _) (fun u hu => by
    refine spArg_eq 1 rfl rfl ?_
    refine spArg_eq 0 rfl rfl ?_
    refine spArg_nil ?_
    simp only [Act.put, List.setIfInBounds_toArray, List.set_cons_succ, List.set_cons_zero]
    have hcm : u.cell? ⟨A, 1, none⟩ = some (.map (some m)) := (by rw [(HAx.out.below hu.has).cell]; rfl)
    go_wp2_with ((refine wpList_look rfl 91 _ _ false rfl (.map (some m)) (.agg (keyA NM)) (.pointer (some ⟨P, 0, none⟩)) rfl rfl (run_lookOne m 1 0 NM _ HL.out _ (ext_heap hu.has HMx.out)) ?_))
    exact ⟨rfl, hu, Ext.refl _, slot_eq rfl⟩) ?_
  refine sp_op (Ph.eq _) (fun u hu => by
    refine spArg_eq 0 rfl rfl ?_
    refine spArg_nil ?_
    simp only [Act.put, List.setIfInBounds_toArray, List.set_cons_succ, List.set_cons_zero]
    have hcm : u.cell? ⟨A, 1, none⟩ = some (.map (some m)) := (by rw [(HAx.out.below hu.has).cell]; rfl)
    go_wp2_with (fail)
    exact ⟨rfl, hu, Ext.refl _, slot_eq rfl⟩) ?_
  refine sp_end ?_
  intro u hu
  refine spArg_eq 6 rfl rfl ?_
  refine spArg_eq 5 rfl rfl ?_
  refine spArg_eq 4 rfl rfl ?_
  refine spArg_eq 3 rfl rfl ?_
  refine spArg_eq 2 rfl rfl ?_
  refine spArg_eq 1 rfl rfl ?_
  refine spArg_eq 0 rfl rfl ?_
  refine spArg_nil ?_
  simp only [Act.put, List.setIfInBounds_toArray, List.set_cons_succ, List.set_cons_zero]
  obtain ⟨y, rfl⟩ : ∃ y, y = u := ⟨_, rfl⟩
  go_wp2_with fail
  have huy := hu
  have hAy := HAx.out.below hu.has
  have hMy := ext_heap hu.has HMx.out
  have hKy := HKx.out.below hu.has
  have hwy := (show Ext w y from hu.up).mod []
  clear hu
  have HAy := Lib.hid hAy; have HMy := Lib.hid hMy; have HKy := Lib.hid hKy
  clear hAy hMy hKy
  have hst6 := stabExt y
  have hk6 : HoldT (fun u => Ext y u) y y.drew := HoldT.drew hst6 ⟨Ext.refl _, Ext.refl _⟩
  try change Code.wp _ _ _ (Act.mk _ _) _
  refine wp_region_runR Ext 9 41 (HoldT (fun u => Ext y u) _) [[], [], [(1, 33)], [(2, 34)], [(3, 35)], [], [(4, 36), (5, 37)], [(0, 32)], [(7, 39)]] [(0, 32), (1, 33), (2, 34), (3, 35), (4, 36), (5, 37), (6, 38), (7, 39), (8, 40)] (by kernel_rfl) (by kernel_rfl) (by first | rfl | simp) (hk6) ?_
  simp only [List.take_succ_cons, List.take_zero, List.drop_succ_cons, List.drop_zero]
  refine sp_op (Ph.eq _) (fun u hu => by
    refine spArg_nil ?_
    have hcm : u.cell? ⟨A, 1, none⟩ = some (.map (some m)) := (by rw [(HAy.out.below hu.has).cell]; rfl)
    go_wp2_with (fail)
    exact ⟨rfl, hu, Ext.refl _, slot_eq rfl⟩) ?_
  refine sp_op (Ph.eq _) (fun u hu => by
    refine spArg_nil ?_
    have hcm : u.cell? ⟨A, 1, none⟩ = some (.map (some m)) := (by rw [(HAy.out.below hu.has).cell]; rfl)
    go_wp2_with (fail)
    exact ⟨rfl, hu, Ext.refl _, slot_eq rfl⟩) ?_
  refine sp_op (Ph.eq _) (fun u hu => by
    refine spArg_eq 0 rfl rfl ?_
    refine spArg_nil ?_
    simp only [Act.put, List.setIfInBounds_toArray, List.set_cons_succ, List.set_cons_zero]
    have hcm : u.cell? ⟨A, 1, none⟩ = some (.map (some m)) := (by rw [(HAy.out.below hu.has).cell]; rfl)
    go_wp2_with (fail)
    exact ⟨rfl, hu, Ext.refl _, slot_eq rfl⟩) ?_
  refine sp_op (Ph.eq _) (fun u hu => by
    refine spArg_eq 0 rfl rfl ?_
    refine spArg_nil ?_
    simp only [Act.put, List.setIfInBounds_toArray, List.set_cons_succ, List.set_cons_zero]
    have hcm : u.cell? ⟨A, 1, none⟩ = some (.map (some m)) := (by rw [(HAy.out.below hu.has).cell]; rfl)
    go_wp2_with (fail)
    exact ⟨rfl, hu, Ext.refl _, slot_eq rfl⟩) ?_
  refine sp_op (Ph.eq _) (fun u hu => by
    refine spArg_eq 0 rfl rfl ?_
    refine spArg_nil ?_
    simp only [Act.put, List.setIfInBounds_toArray, List.set_cons_succ, List.set_cons_zero]
    have hcm : u.cell? ⟨A, 1, none⟩ = some (.map (some m)) := (by rw [(HAy.out.below hu.has).cell]; rfl)
    go_wp2_with (fail)
    exact ⟨rfl, hu, Ext.refl _, slot_eq rfl⟩) ?_
  refine sp_op (Ph.eq _) (fun u hu => by
    refine spArg_nil ?_
    have hcm : u.cell? ⟨A, 1, none⟩ = some (.map (some m)) := (by rw [(HAy.out.below hu.has).cell]; rfl)
    go_wp2_with ((refine wpList_load_rowG rfl 24 _ rfl (K) rfl _ _ (0, 0) _ (HKy.out.below hu.has) Tryz.underlying24 rfl (by rw [keyA_size, HL.out]; exact info_key) ?_))
    exact ⟨rfl, hu, Ext.refl _, slot_eq rfl⟩) ?_
  refine sp_op (Ph.eq _) (fun u hu => by
    refine spArg_eq 1 rfl rfl ?_
    refine spArg_eq 0 rfl rfl ?_
    refine spArg_nil ?_
    simp only [Act.put, List.setIfInBounds_toArray, List.set_cons_succ, List.set_cons_zero]
    have hcm : u.cell? ⟨A, 1, none⟩ = some (.map (some m)) := (by rw [(HAy.out.below hu.has).cell]; rfl)
    go_wp2_with ((refine wpList_look rfl 91 _ _ false rfl (.map (some m)) (.agg (keyA NM)) (.pointer (some ⟨P, 0, none⟩)) rfl rfl (run_lookOne m 1 0 NM _ HL.out _ (ext_heap hu.has HMy.out)) ?_))
    exact ⟨rfl, hu, Ext.refl _, slot_eq rfl⟩) ?_
  refine sp_op (Ph.eq _) (fun u hu => by
    refine spArg_eq 6 rfl rfl ?_
    refine spArg_nil ?_
    simp only [Act.put, List.setIfInBounds_toArray, List.set_cons_succ, List.set_cons_zero]
    have hcm : u.cell? ⟨A, 1, none⟩ = some (.map (some m)) := (by rw [(HAy.out.below hu.has).cell]; rfl)
    go_wp2_with (fail)
    exact ⟨rfl, hu, Ext.refl _, slot_eq rfl⟩) ?_
  refine sp_op (Ph.eq _) (fun u hu => by
    refine spArg_eq 0 rfl rfl ?_
    refine spArg_nil ?_
    simp only [Act.put, List.setIfInBounds_toArray, List.set_cons_succ, List.set_cons_zero]
    have hcm : u.cell? ⟨A, 1, none⟩ = some (.map (some m)) := (by rw [(HAy.out.below hu.has).cell]; rfl)
    go_wp2_with (fail)
    exact ⟨rfl, hu, Ext.refl _, slot_eq rfl⟩) ?_
  refine sp_end ?_
  intro u hu
  refine spArg_eq 8 rfl rfl ?_
  refine spArg_eq 7 rfl rfl ?_
  refine spArg_eq 6 rfl rfl ?_
  refine spArg_eq 5 rfl rfl ?_
  refine spArg_eq 4 rfl rfl ?_
  refine spArg_eq 3 rfl rfl ?_
  refine spArg_eq 2 rfl rfl ?_
  refine spArg_eq 1 rfl rfl ?_
  refine spArg_eq 0 rfl rfl ?_
  refine spArg_nil ?_
  simp only [Act.put, List.setIfInBounds_toArray, List.set_cons_succ, List.set_cons_zero]
  have hAz := HAy.out.below hu.has
  have hcn : u.cell? ⟨A, 2, none⟩ = some now := by rw [hAz.cell]; rfl
  have hfn := hAz.free 2
  go_wp2_with fail
  go_ret
  have hMs := Mod.set u A 2 (.pointer (some ⟨P, 0, none⟩))
  have hAs : AgB (u.setCell ⟨A, 2, none⟩ (.pointer (some ⟨P, 0, none⟩))) A s m (.pointer (some ⟨P, 0, none⟩)) vg := hAz.set 2 _
  have hMz := hMs.heap (ext_heap hu.has HMy.out) (by simp; exact hmA)
  have hyz := Mod.tr ((show Ext y u from hu.has).mod []) hMs
  exact ⟨rfl, hAs, (Mod.tr hwy hyz).mono (fun k hk _ => by simp at hk ⊢; omega)⟩
end Go.Proofs.YtbgnfioggmkdeaaGreatDoor
namespace Go.Proofs.YtbgnfioggmkdeaaGreatDoor
set_option linter.unusedVariables false
set_option linter.unusedSimpArgs false
open Go Go.RowKit

theorem payC (p : List UInt8) : (keyA p).toList = p.map BV := by simp [keyA]
theorem one_pay (p : List UInt8) : ∀ u ∈ (keyA p).toList, u.oneCell' = true := keyA_one p
theorem info_pay : (Tryz.prog.info? 23).map (fun i => (i.zero, i.size, i.bytes)) = some (some (.agg (keyA zpay)), 32, 32) := by kernel_rfl
theorem info_pay1 : (Tryz.prog.info? 23).map (·.size) = some 32 := by kernel_rfl
theorem u_pay : Tryz.prog.underlying 23 = some (.array 32 5) := Tryz.underlying23
theorem run_boxPay (cs : Array Value) (W : World) : (Instr.box 23 (.agg cs)).run Tryz.prog W = .ok (.pointer (some ⟨W.heap.size, 0, none⟩)) (W.alloc (.cells cs 23)) := by
  simp [go_sem]
theorem run_litPay (p : List UInt8) (h : p.length = 32) (W : World) : (Instr.buildSlice 54 1 #[(0, .agg (keyA p))]).run Tryz.prog W = .ok (.slice (some ⟨W.heap.size, 0, none⟩) 1 1) (W.alloc (.cells (keyA p) 23)) := by
  have hs : (keyA p).size = 32 := by rw [keyA_size, h]
  have hf := fill_key p h
  simp [go_sem, hs]
  rw [hf _ (by simp)]
  simp [keyA]
/-- A literal slice of one payload. -/
theorem wpList_slitP {ops : Array Oper} {rest : List Oper} {o : Oper} {a : Act} {w : World} {Q : Exit → Act → World → Prop} (hgd : o.guard = none) (x : Operand) (ho : o.op = .buildSlice 54 1 #[(0, x)])
    (p : List UInt8) (hp : p.length = 32) (hx : a.eval x = .agg (keyA p))
    (h : ∀ w' B, SlR payR 0 w' (.slice (some ⟨B, 0, none⟩) 1 1) [p] → Ext w w' → wpList Tryz.prog ops Q rest (a.put o.dst (.slice (some ⟨B, 0, none⟩) 1 1)) w') : wpList Tryz.prog ops Q (o :: rest) a w := by
  refine wpList_plain hgd fun K hK => ?_
  unfold Oper.wp
  simp only [execOp, ho, List.map_toArray, List.map_cons, List.map_nil, hx, Sem.run_bind, run_litPay p hp, Result.andThen_ok, Sem.run_pure]
  exact hK _ _ (h _ _ (SlR.lit1 (R := payR) (y := p) (c := p.map BV) ⟨hp, rfl⟩) (Ext.alloc _ _))
/-- A world without memory: all is newer than it. -/
def wEmp (w : World) : World := { w with heap := #[] }
theorem below_emp {w u : World} (h1 : u.os = w.os) (h2 : u.tape = w.tape) (h3 : u.output = w.output) : Below 0 (wEmp w) u := ⟨h1, h2, h3, Nat.zero_le _, fun k hk => absurd hk (by omega)⟩
theorem appPay {w0 w : World} {ops : Array Oper} {rest : List Oper} {o : Oper} {a : Act} {Q : Exit → Act → World → Prop} (hgd : o.guard = none) (s x : Operand)
    (ho : o.op = .call { callee := .builtin .append, args := #[s, x], argTypes := #[54, 54] })
    (v : Value) (l : List (List UInt8)) (hs : a.eval s = v) (hown : OwR payR 0 0 w v l) (B : Nat) (p : List UInt8) (hx : a.eval x = .slice (some ⟨B, 0, none⟩) 1 1) (hsee : SlR payR 0 w (.slice (some ⟨B, 0, none⟩) 1 1) [p])
    (hl : l.length ≤ 1000000) (hW : Below 0 (wEmp w0) w)
    (h : ∀ v' w', OwR payR 0 0 w' v' (l ++ [p]) → w.grownBy w' v.ownBlock → Below 0 (wEmp w0) w' → (v'.ownBlock = v.ownBlock ∨ v'.ownBlock = some w.heap.size) → wpList Tryz.prog ops Q rest (a.put o.dst v') w') : wpList Tryz.prog ops Q (o :: rest) a w := by
  obtain ⟨i, hi, hz, hsize, hby⟩ := info_parts info_pay
  obtain ⟨chs, h1, h2⟩ := hown
  obtain ⟨chs', h1', ⟨hl', a', c', he', _, _, _, hcell⟩, _⟩ := hsee
  cases he'
  obtain ⟨b, o', hbo, hc⟩ := hcell (by simp)
  cases hbo
  refine wpList_append_own_at w hgd s x 54 ho 0 23 i (.agg (keyA zpay)) 32 32 Tryz.underlying54 hi hz hsize hby rfl (by decide) v _ _ hs h2 ⟨B, 0, none⟩ 1 1 chs'.flatten hx hl' (fun j u hj => ?_) h1'.one (by unfold maxLen; omega) (by omega) (Nat.zero_le _) (fun v' w' g1 g2 _ g4 => ?_)
  · rw [addr_add]; exact hc j u hj
  · refine h v' w' ⟨chs ++ chs', ⟨by have := h1.1; have := h1'.1; simp at this ⊢; omega, (h1.append h1').2⟩, ?_⟩ g2 (hW.grown g2 hW.size (fun k _ => Nat.zero_le _)) g4
    rw [List.length_append, List.flatten_append]; exact g1
set_option maxRecDepth 100000 in
theorem Stop_any (A : Nat) (s : Int) (m : Nat) (now vg : Value) (w : World) (hA : AgB w A s m now vg) :
    Calls Tryz.prog 20 #[.pointer (some ⟨A, 0, none⟩)] w fun e w' => e = .returned (.tuple #[]) ∧ AgB w' A s m (.pointer none) vg ∧ Mod [A] w w' := by
  have hc : w.cell? ⟨A, 2, none⟩ = some now := by rw [hA.cell]; rfl
  have hf := hA.free 2
  go_enter Tryz.func20, Tryz.ntmps20
  go_wp2_with fail
  go_end0
  exact ⟨rfl, hA.set 2 _, Mod.set _ _ _ _⟩
set_option maxRecDepth 100000 in
theorem Say0_any (A : Nat) (s : Int) (m : Nat) (vg : Value) (p : List UInt8) (w : World) (hA : AgB w A s m (.pointer none) vg) (hp : p.length = 32) :
    Calls Tryz.prog 12 #[.pointer (some ⟨A, 0, none⟩), .agg (keyA p)] w fun e w' => e = .returned (.int .i64 8) ∧ Ext w w' := by
  have HA := Lib.hid hA
  go_enter Tryz.func12, Tryz.ntmps12
  go_wp2_with (first
    | (refine wpList_boxB rfl 23 _ rfl (keyA p) rfl (run_boxPay _ _) ?_; intro x0 B0 hh0 hB0 e0; have hc : x0.cell? ⟨A, 2, none⟩ = some (.pointer none) := (by rw [(HA.out.below e0).cell]; rfl)))
  go_ret
  exact ⟨rfl, e0⟩
set_option maxRecDepth 100000 in
theorem Say1_any (A : Nat) (s : Int) (m P : Nat) (vg vs : Value) (q : PeerL) (p : List UInt8) (w : World) (hA : AgB w A s m (.pointer (some ⟨P, 0, none⟩)) vg) (hP : PeB w P q vs) (hs : OwR payR 0 0 w vs q.said) (hp : p.length = 32) (hl : 1000 ≤ q.said.length) :
    Calls Tryz.prog 12 #[.pointer (some ⟨A, 0, none⟩), .agg (keyA p)] w fun e w' => e = .returned (.int .i64 7) ∧ Ext w w' := by
  have HA := Lib.hid hA; have HP := Lib.hid hP
  obtain ⟨a1, c1, rfl, -, -⟩ := hs.form
  go_enter Tryz.func12, Tryz.ntmps12
  go_wp2_with (first
    | (refine wpList_boxB rfl 23 _ rfl (keyA p) rfl (run_boxPay _ _) ?_; intro x0 B0 hh0 hB0 e0; have hc : x0.cell? ⟨A, 2, none⟩ = some (.pointer (some ⟨P, 0, none⟩)) := (by rw [(HA.out.below e0).cell]; rfl); have hc1 : x0.cell? ⟨P, 1, none⟩ = some (.slice a1 q.said.length c1) := (by rw [(HP.out.below e0).cell]; rfl)))
  go_ret
  exact ⟨rfl, e0⟩
/-- What is kept while a payload is put behind others. -/
def SayS (w : World) (A : Nat) (s : Int) (m P B0 : Nat) (vg : Value) (G : List Nat) (p : List UInt8) (u : World) : Prop :=
  AgB u A s m (.pointer (some ⟨P, 0, none⟩)) vg ∧ Blk u B0 (keyA p) 23 ∧ Mod (P :: G) w u
theorem sayStab (w : World) (A : Nat) (s : Int) (m P B0 : Nat) (vg : Value) (G : List Nat) (p : List UInt8) : Stab (SayS w A s m P B0 vg G p) := fun u u' ⟨h1, h3, h4⟩ hb =>
  ⟨h1.below hb, h3.below hb, (Mod.tr h4 ((show Ext u u' from hb).mod [])).mono (fun k hk _ => by simpa using hk)⟩
theorem Mod.app {F : List Nat} {w u x : World} {v : Value} (h : Mod F w u) (hg : u.grownBy x v.ownBlock) (hs : ∀ k, v.ownBlock = some k → k < w.heap.size → k ∈ F) : Mod F w x :=
  ⟨hg.os.trans h.os, hg.tape.trans h.tape, hg.output.trans h.output, Nat.le_trans h.size hg.size, fun k hk hn => (hg.block k (Nat.lt_of_lt_of_le hk h.size) (fun e => hn (hs k e.symm hk))).trans (h.block k hk hn)⟩
theorem pay_ne {w : World} {v : Value} {l : List (List UInt8)} {g : Nat} {cs : Array Value} {t : TypeId} (h : OwR payR 0 0 w v l) (hb : Blk w g cs t) (ht : t ≠ 23) : some g ≠ v.ownBlock := fun e => by
  obtain ⟨chs, _, _, h2⟩ := h
  rcases h2 with ⟨rfl, _⟩ | ⟨g', cap, cur, rfl, hg, hh, r⟩
  · cases e
  · cases e; unfold Blk at hb; rw [hb] at hh; injection hh with h3; injection h3 with _ h4 _; exact ht h4
set_option maxRecDepth 100000 in
set_option maxHeartbeats 2000000 in
theorem Say_any (A : Nat) (s : Int) (m P : Nat) (vg vs : Value) (q : PeerL) (p : List UInt8) (w : World) (hA : AgB w A s m (.pointer (some ⟨P, 0, none⟩)) vg) (hP : PeB w P q vs) (hs : OwR payR 0 0 w vs q.said) (hp : p.length = 32) (hl : q.said.length < 1000) :
    Calls Tryz.prog 12 #[.pointer (some ⟨A, 0, none⟩), .agg (keyA p)] w fun e w' => e = .returned (.int .i64 0) ∧ AgB w' A s m (.pointer (some ⟨P, 0, none⟩)) vg ∧
      ∃ vs', PeB w' P ⟨q.pub, q.said ++ [p], q.took, q.sent, q.ahead, q.round, q.taken⟩ vs' ∧ OwR payR 0 0 w' vs' (q.said ++ [p]) ∧ (∀ k, vs'.ownBlock = some k → vs.ownBlock = some k ∨ w.heap.size ≤ k) ∧ Mod (P :: vs.ownBlock.toList) w w' := by
  obtain ⟨a1, c1, rfl, -, -⟩ := hs.form
  have HA := Lib.hid hA; have HP := Lib.hid hP; have HPL := Lib.hid hp; have HS := Lib.hid hs
  go_enter Tryz.func12, Tryz.ntmps12
  go_wp2_with (first
    | (refine wpList_boxB rfl 23 _ rfl (keyA p) rfl (run_boxPay _ _) ?_; intro x B0 hh0 hB0 e0; have hc : x.cell? ⟨A, 2, none⟩ = some (.pointer (some ⟨P, 0, none⟩)) := (by rw [(HA.out.below e0).cell]; rfl); have hc1 : x.cell? ⟨P, 1, none⟩ = some (.slice a1 q.said.length c1) := (by rw [(hP.below e0).cell]; rfl)))
  have hstab := sayStab w A s m P B0 vg (Value.ownBlock (.slice a1 q.said.length c1)).toList p
  have hk : HoldT (SayS w A s m P B0 vg (Value.ownBlock (.slice a1 q.said.length c1)).toList p) (wEmp w) x.drew := HoldT.drew hstab ⟨⟨HA.out.below e0, hh0, e0.mod _⟩, below_emp e0.os e0.tape e0.output⟩
  have hown0 : OwR payR 0 0 x.drew (.slice a1 q.said.length c1) q.said := (HS.out.ext e0).payKeep (fun _ _ => rfl)
  have hP0 : PeB x.drew P q (.slice a1 q.said.length c1) := (HP.out.below e0).drew
  have hq1 : ∀ e : InC (SayS w A s m P B0 vg (Value.ownBlock (.slice a1 q.said.length c1)).toList p), e.u.cell? ⟨A, 2, none⟩ = some (.pointer (some ⟨P, 0, none⟩)) := fun e => by rw [e.has.1.cell]; rfl
  clear hc hc1 hA hs
  have hcp : x.cell? ⟨P, 1, none⟩ = some (.slice a1 q.said.length c1) := by rw [(HP.out.below e0).cell]; rfl
  have HG := Lib.hid (show ∀ k, Value.ownBlock (.slice a1 q.said.length c1) = some k → k ∈ (Value.ownBlock (.slice a1 q.said.length c1)).toList from fun k hk => by rw [hk]; simp)
  have hAP : A ≠ P := fun e => by subst e; have h1 := HA.out; have h2 := HP.out; unfold AgB Blk at h1; unfold PeB Blk at h2; rw [h1] at h2; cases h2
  have hBP : B0 ≠ P := fun e => by have := HP.out.lt; omega
  have hBG : some B0 ≠ Value.ownBlock (.slice a1 q.said.length c1) := fun e => by have := (HS.out.lt B0 e.symm).2; omega
  generalize hG : (Value.ownBlock (.slice a1 q.said.length c1)).toList = G at *
  have HGE := Lib.hid hG; clear hG
  try change Code.wp _ _ _ (Act.mk _ _) _
  haveI hne_ : Nonempty (InC (SayS w A s m P B0 vg G p)) := ⟨⟨_, (hk).1⟩⟩
  refine wp_region_tr (C := fun w_ => ∃ e_ : InC (SayS w A s m P B0 vg G p), w_ = e_.u) (.step [0, 1, 2, 3, 4, 5, 6, 7, 8, 9, 11] (.alt 10 (.step [] (.alt 12 (.step [] (.alt 13 (.step [14, 15] (.alt 16 (.fin []) .nil)) .nil)) .nil)) (.alt 12 (.step [] (.alt 10 (.step [] (.alt 13 (.step [14, 15] (.alt 16 (.fin []) .nil)) .nil)) .nil)) .nil))) (by kernel_rfl) (by kernel_rfl) (fun _ _ _ _ hd_ h_ => ⟨hd_.symm.trans h_.1, h_.2⟩) ⟨⟨World.drew _, (hk).1⟩, rfl⟩ ?_
  have hk_ := hk
  repeat' (first
    | ((with_reducible refine wpTr_fin ?_)
       simp only [pickOps, List.flatMap_cons, List.flatMap_nil, List.drop_succ_cons, List.drop_zero, List.take_succ_cons, List.take_zero, List.cons_append, List.nil_append, List.append_nil]
       repeat (first | ((refine wpQuiet_load_row rfl 23 _ rfl B0 rfl _ (keyA p) (0, 0) _ (fun w_ hw_ => by obtain ⟨e_, rfl⟩ := hw_; exact e_.has.2.1) u_pay rfl (by rw [keyA_size, HPL.out]; exact info_pay1) ?_; simp only [Act.put, List.setIfInBounds_toArray, List.set_cons_succ, List.set_cons_zero])) | go_big_quiet_step (exact rfl))
       refine wpQuiet_nil ?_)
    | ((with_reducible refine wpTr_step ?_); simp only [pickOps, List.flatMap_cons, List.flatMap_nil, List.drop_succ_cons, List.drop_zero, List.take_succ_cons, List.take_zero, List.cons_append, List.nil_append, List.append_nil]; repeat (first | ((refine wpQuiet_load_row rfl 23 _ rfl B0 rfl _ (keyA p) (0, 0) _ (fun w_ hw_ => by obtain ⟨e_, rfl⟩ := hw_; exact e_.has.2.1) u_pay rfl (by rw [keyA_size, HPL.out]; exact info_pay1) ?_; simp only [Act.put, List.setIfInBounds_toArray, List.set_cons_succ, List.set_cons_zero])) | go_big_quiet_step (exact rfl))
       refine wpQuiet_nil ?_)
    | (with_reducible refine wpTr_one ?_)
    | (with_reducible refine wpTr_alt ?_ ?_)
    | (simp only [pickOps, List.flatMap_cons, List.flatMap_nil, List.drop_succ_cons, List.drop_zero, List.take_succ_cons, List.take_zero, List.cons_append, List.nil_append, List.append_nil]
       go_wp2_with (first
    | (refine wpList_slitP rfl _ rfl p HPL.out rfl ?_; intro x12 B12 hl12 e12; have hk12 := HoldT.step hstab hk_ e12; have hcp12 : x12.cell? ⟨P, 1, none⟩ = some (.slice a1 q.said.length c1) := (by rw [(hP0.below e12).cell]; rfl))
    | (at_builtin; refine appPay (w0 := w) rfl _ _ rfl (.slice a1 q.said.length c1) q.said rfl (hown0.ext) B12 p rfl hl12 (by omega) hk_.up ?_; intro v13 w13 hown13 hg13 hb13 hat13
       have hP13 : PeB w13 P q (.slice a1 q.said.length c1) := (hP0.below e12).grownBy hg13 (pay_ne (hown0.ext) (hP0.below e12) (by decide))
       have hk13 : HoldT (SayS w A s m P B0 vg G p) (wEmp w) w13 := ⟨⟨hk_.has.1.grownBy hg13 (pay_ne (hown0.ext) hk_.has.1 (by decide)), hk_.has.2.1.grownBy hg13 hBG, hk_.has.2.2.app hg13 (fun k hk _ => List.mem_cons_of_mem _ (HG.out k hk))⟩, hb13⟩
       have hsz12 := hk_.has.2.2.size
       obtain ⟨a13, c13, hv13, -, -⟩ := hown13.form
       rw [List.length_append, show [p].length = 1 from rfl] at hv13
       subst hv13
       have hcp13 : w13.cell? ⟨P, 1, none⟩ = some (.slice a1 q.said.length c1) := (by rw [hP13.cell]; rfl)
       have hfp13 := hP13.free 1
       have hk16 : HoldT (SayS w A s m P B0 vg G p) (wEmp w) (w13.setCell ⟨P, 1, none⟩ (.slice a13 (q.said.length + 1) c13)) := ⟨⟨hk13.has.1.setCell _ _ hAP, hk13.has.2.1.setCell _ _ hBP, (Mod.tr hk13.has.2.2 (Mod.set _ _ _ _)).mono (fun k hk _ => (List.mem_append.1 hk).elim id (fun h => by rw [List.mem_singleton] at h; subst h; exact List.mem_cons_self ..))⟩, below_emp (by rw [(Mod.set w13 P 1 (.slice a13 (q.said.length + 1) c13)).os]; exact hk13.has.2.2.os) (by rw [(Mod.set w13 P 1 (.slice a13 (q.said.length + 1) c13)).tape]; exact hk13.has.2.2.tape) (by rw [(Mod.set w13 P 1 (.slice a13 (q.said.length + 1) c13)).output]; exact hk13.has.2.2.output)⟩))
       refine phPost_hold (by first | with_reducible assumption | exact HoldT.alloc hstab (by with_reducible assumption) _ | exact HoldT.alloc hstab (HoldT.alloc hstab (by with_reducible assumption) _) _) ?_
       intro hk_))
  all_goals (
    go_wp2_with fail
    go_ret
    refine ⟨rfl, hk_.has.1, _, hP13.set 1 _, hown13.payKeep (fun k hk => heap_setCell_other _ _ k _ (fun e => pay_ne hown13 hP13 (by decide) (by rw [hk]; exact congrArg some e.symm))), fun k hk => ?_, by have h := hk_.has.2.2; rw [← HGE.out] at h; exact h⟩
    rw [hk] at hat13
    exact hat13.imp Eq.symm (fun e => by cases e; exact hsz12))
end Go.Proofs.YtbgnfioggmkdeaaGreatDoor
namespace Go.Proofs.YtbgnfioggmkdeaaGreatDoor
set_option linter.unusedVariables false
set_option linter.unusedSimpArgs false
open Go Go.RowKit

def drawsS : List UInt8 := [100, 114, 97, 119, 115]
def onionS : List UInt8 := [111, 110, 105, 111, 110]
def drawK (s : Int) : List UInt8 := keyD (put64 s.toNat) drawsS
/-- What is drawn for an onion. -/
def drawW (s round j i : Int) : Int := wordN (drawK s) (namesL onionS [round, j]) i % 2305843009213693950
theorem drawW_in (s round j i : Int) : in64 (drawW s round j i) := by
  unfold drawW
  exact ⟨Int.emod_nonneg _ (by decide), Int.lt_trans (Int.emod_lt_of_pos _ (by decide)) (by decide)⟩
theorem seesI_lit2 (w : World) (x y : Int) : SeesI (w.alloc (.cells #[IV x, IV y] 3)) (.slice (some ⟨w.heap.size, 0, none⟩) 2 2) [x, y] := by
  have := sees_new w 1 #[IV x, IV y] 3 2 rfl (by decide); exact this
theorem Ext.gb {w u : World} (e : Ext w u) (r : Option Nat) : w.grownBy u r := ⟨e.os, e.tape, e.output, Below.size e, fun k hk _ => Below.block e k hk⟩
set_option maxRecDepth 100000 in
set_option maxHeartbeats 1000000 in
theorem Draws_any (A : Nat) (s : Int) (m : Nat) (now vg : Value) (round j : Int) (w : World) (hA : AgB w A s m now vg) (hs : in64 s) (hr : inI round) (hj : inI j) (hit : ∀ n ∈ [round, j], ItoaOk w n) :
    Calls Tryz.prog 71 #[.pointer (some ⟨A, 0, none⟩), .int .i64 round, .int .i64 j] w fun e w' => e = .returned (.tuple #[.int .u64 (drawW s round j 0), .int .u64 (drawW s round j 1), .int .u64 (drawW s round j 2)]) ∧ Ext w w' := by
  have HP1 := Lib.hid (fun W => Put64_any W (.slice none 0 0) [] s (Sees.nil _ _) hs.1 hs.2 (by simp))
  have HIT := Lib.hid hit
  have HIN := Lib.hid (show ∀ n ∈ [round, j], inI n by intro n hn; simp at hn; rcases hn with rfl | rfl <;> assumption)
  have hc : w.cell? ⟨A, 0, none⟩ = some (.int .u64 s) := by rw [hA.cell]; rfl
  have HK := Lib.hid (show (drawK s).length = 32 from length_keyD _ _)
  have hnl := length_namesL onionS [round, j] HIN.out
  have HKE := Lib.hid (show keyD (put64 s.toNat) drawsS = drawK s from rfl)
  have HW0 := Lib.hid (show wordN (drawK s) (namesL onionS [round, j]) 0 % 2305843009213693950 = drawW s round j 0 from rfl)
  have HW1 := Lib.hid (show wordN (drawK s) (namesL onionS [round, j]) 1 % 2305843009213693950 = drawW s round j 1 from rfl)
  have HW2 := Lib.hid (show wordN (drawK s) (namesL onionS [round, j]) 2 % 2305843009213693950 = drawW s round j 2 from rfl)
  have HNM := Lib.hid fun (u : World) (v : Value) (hv : SeesI u v [round, j]) (he : Ext w u) => Named_any onionS [round, j] v u hv HIN.out (fun n hn => (HIT.out n hn).mono he) (by decide) (by show 2 ≤ 100; decide)
  obtain ⟨nm, hnm⟩ : ∃ nm, namesL onionS [round, j] = nm := ⟨_, rfl⟩
  have HN := Lib.hid hnm
  rw [hnm] at hnl HW0 HW1 HW2 HNM
  have HNL := Lib.hid (Nat.le_trans hnl (show 5 + 21 * 2 ≤ 10000 by decide))
  clear hnm hnl
  have z0 := wordN_in (drawK s) nm 0
  have z1 := wordN_in (drawK s) nm 1
  have z2 := wordN_in (drawK s) nm 2
  have HB0 := Lib.hid fun (g : Nat) (u : World) (h : BB g (drawK s) nm 0 u) => BWord_any g (drawK s) nm 0 u h HK.out HNL.out (by decide) (by decide)
  have HB1 := Lib.hid fun (g : Nat) (u : World) (h : BB g (drawK s) nm 1 u) => BWord_any g (drawK s) nm 1 u h HK.out HNL.out (by decide) (by decide)
  have HB2 := Lib.hid fun (g : Nat) (u : World) (h : BB g (drawK s) nm 2 u) => BWord_any g (drawK s) nm 2 u h HK.out HNL.out (by decide) (by decide)
  have HBN := Lib.hid fun (u : World) => BNew_any (drawK s) nm u HK.out
  generalize drawK s = K at *
  generalize drawW s round j 0 = d0 at *
  generalize drawW s round j 1 = d1 at *
  generalize drawW s round j 2 = d2 at *
  have HX0 := Lib.hid fun W => ReduceN_any (wordN K nm 0) W z0.1 z0.2
  have HX1 := Lib.hid fun W => ReduceN_any (wordN K nm 1) W z1.1 z1.2
  have HX2 := Lib.hid fun W => ReduceN_any (wordN K nm 2) W z2.1 z2.2
  rw [HW0.out] at HX0; rw [HW1.out] at HX1; rw [HW2.out] at HX2
  generalize wordN K nm 0 = u0 at *
  generalize wordN K nm 1 = u1 at *
  generalize wordN K nm 2 = u2 at *
  clear hit hA
  go_enter Tryz.func71, Tryz.ntmps71
  go_wp2_with (first
    | (go_at_call 110; refine (HP1.out _).mono ?_; rintro r y1 ⟨v1, rfl, hown1, hb1⟩; rw [List.nil_append] at hown1)
    | (go_at_call 116; refine (Key_any _ (put64 s.toNat) _ _ (sees_of_owns hown1) (by rw [length_put64]; decide) (by decide)).mono ?_; rintro r y2 ⟨rfl, hb2⟩; have e2 : Ext w y2 := Ext.tr hb1 hb2)
    | (go_at_call 117; refine (HNM.out _ _ (seesI_lit2 _ _ _) (Ext.tr e2 (Ext.alloc _ _))).mono ?_; rintro r y3 ⟨rfl, hb3⟩; have e3 : Ext w y3 := Ext.tr (Ext.tr e2 (Ext.alloc _ _)) hb3)
    | (go_at_call 115; (show Calls _ _ #[.agg (keyA (keyD (put64 s.toNat) drawsS)), _] _ _); rw [HKE.out]; refine (HBN.out _).mono ?_; rintro e y4 ⟨g, rfl, hst, hgl, hb4⟩; have e4 : Ext w y4 := Ext.tr e3 hb4; have hgw := Nat.le_trans e3.size hgl)
    | (go_at_call 118; refine (HB2.out g _ hst2).mono ?_; rintro e y7 ⟨rfl, hst3, hg7⟩)
    | (go_at_call 118; refine (HB1.out g _ hst1).mono ?_; rintro e y6 ⟨rfl, hst2, hg6⟩)
    | (go_at_call 118; refine (HB0.out g _ hst).mono ?_; rintro e y5 ⟨rfl, hst1, hg5⟩)
    | (go_at_call 41; refine (HX2.out _).mono ?_; rintro e z7 ⟨rfl, hz7⟩; subst z7)
    | (go_at_call 41; refine (HX1.out _).mono ?_; rintro e z6 ⟨rfl, hz6⟩; subst z6)
    | (go_at_call 41; refine (HX0.out _).mono ?_; rintro e z5 ⟨rfl, hz5⟩; subst z5))
  go_ret3
  have hg := grownBy_tr (grownBy_tr (grownBy_tr (e4.gb (some g)) hg5) hg6) hg7
  exact ⟨rfl, (Mod.grown hg).mono (G := []) (fun k hk hlt => by simp at hk; omega) |>.ext⟩
def grpS (s : Int) (n : Nat) : Nat := groupN (nameL (timesP 37 s)) n
/-- The chains of a user's set. -/
def setS (s : Int) (n : Nat) : List Int := setL (grpS s n) n
/-- At which of them it talks with somebody. -/
def atS (s pub : Int) (n : Nat) : Int := idxI (setS s n) (sharedI (grpS s n) (groupN (nameL pub) n) n)
theorem owI_mono {B B0 B' B0' : Nat} {w : World} {v : Value} {l : List Int} (h : OwR intR B B0 w v l) (hb : B0' ≤ B0) : OwR intR B' B0' w v l := owR_flat (owns_mono (OwR.flat h) hb)
set_option maxRecDepth 100000 in
set_option maxHeartbeats 1000000 in
theorem Plan0_any (A : Nat) (s : Int) (m : Nat) (vg : Value) (n : Nat) (w : World) (hA : AgB w A s m (.pointer none) vg) (hs : in64 s) (h1 : 1 ≤ n) (h2 : n ≤ 1000) :
    Calls Tryz.prog 70 #[.pointer (some ⟨A, 0, none⟩), .int .i64 n] w fun e w' => ∃ v, e = .returned (.tuple #[v, .int .i64 (-1)]) ∧ OwR intR w.heap.size w.heap.size w' v (setS s n) ∧ Ext w w' := by
  have HNM := Lib.hid (fun W (h : AgB W A s m (.pointer none) vg) => AName_any A s m (.pointer none) vg W h hs)
  have HL := Lib.hid (length_nameL (timesP 37 s))
  have HG := Lib.hid (fun W => Group_any (nameL (timesP 37 s)) n W HL.out h1 h2)
  have HGL := Lib.hid (groupN_le (nameL (timesP 37 s)) n)
  have HSE := Lib.hid (fun W => Set_any (groupN (nameL (timesP 37 s)) n) n W h1 h2 HGL.out)
  have HSL := Lib.hid (length_setL HGL.out)
  have hsn := sides_le h1
  have HE := Lib.hid (show setL (groupN (nameL (timesP 37 s)) n) n = setS s n from rfl)
  generalize nameL (timesP 37 s) = NM at *
  generalize groupN NM n = g at *
  generalize setL g n = l at *
  have HA := Lib.hid hA
  go_enter Tryz.func70, Tryz.ntmps70
  go_wp2_with (first
    | (go_at_call 37; refine (HNM.out _ HA.out).mono ?_; rintro r y1 ⟨rfl, hb1⟩; have e1 : Ext w y1 := hb1)
    | (go_at_call 111; refine (HG.out _).mono ?_; rintro r y2 ⟨rfl, hb2⟩; have e2 : Ext w y2 := Ext.tr e1 hb2)
    | (go_at_call 112; refine (HSE.out _).mono ?_; rintro r y3 ⟨v3, rfl, hown3, hb3⟩; have e3 : Ext w y3 := Ext.tr e2 hb3; obtain ⟨a3, c3, rfl, -, -⟩ := hown3.form; have hc3 : y3.cell? ⟨A, 2, none⟩ = some (.pointer none) := (by rw [(HA.out.below e3).cell]; rfl)))
  go_ret2
  exact ⟨_, rfl, by rw [← HE.out]; exact owI_mono hown3 e2.size, e3⟩
set_option maxRecDepth 100000 in
set_option maxHeartbeats 1000000 in
theorem Plan1_any (A : Nat) (s : Int) (m P : Nat) (vg vs : Value) (q : PeerL) (n : Nat) (w : World) (hA : AgB w A s m (.pointer (some ⟨P, 0, none⟩)) vg) (hP : PeB w P q vs) (hq : in64 q.pub) (hs : in64 s) (h1 : 1 ≤ n) (h2 : n ≤ 1000) :
    Calls Tryz.prog 70 #[.pointer (some ⟨A, 0, none⟩), .int .i64 n] w fun e w' => ∃ v, e = .returned (.tuple #[v, .int .i64 (atS s q.pub n)]) ∧ OwR intR w.heap.size w.heap.size w' v (setS s n) ∧ Ext w w' := by
  have HNM := Lib.hid (fun W (h : AgB W A s m (.pointer (some ⟨P, 0, none⟩)) vg) => AName_any A s m (.pointer (some ⟨P, 0, none⟩)) vg W h hs)
  have HL := Lib.hid (length_nameL (timesP 37 s))
  have HG := Lib.hid (fun W => Group_any (nameL (timesP 37 s)) n W HL.out h1 h2)
  have HGL := Lib.hid (groupN_le (nameL (timesP 37 s)) n)
  have HSE := Lib.hid (fun W => Set_any (groupN (nameL (timesP 37 s)) n) n W h1 h2 HGL.out)
  have HSL := Lib.hid (length_setL HGL.out)
  have hsn := sides_le h1
  have HNQ := Lib.hid (fun W => Name_any q.pub W hq)
  have HLQ := Lib.hid (length_nameL q.pub)
  have HGQ := Lib.hid (fun W => Group_any (nameL q.pub) n W HLQ.out h1 h2)
  have HSH := Lib.hid (fun W => Shared_any (groupN (nameL (timesP 37 s)) n) (groupN (nameL q.pub) n) n W h1 h2 HGL.out (groupN_le (nameL q.pub) n))
  have HE := Lib.hid (show setL (groupN (nameL (timesP 37 s)) n) n = setS s n from rfl)
  have HAT := Lib.hid (show idxI (setL (groupN (nameL (timesP 37 s)) n) n) (sharedI (groupN (nameL (timesP 37 s)) n) (groupN (nameL q.pub) n) n) = atS s q.pub n from rfl)
  have HA := Lib.hid hA
  have HP := Lib.hid (fun (u : World) (e : Ext w u) => (show u.cell? ⟨P, 0, none⟩ = some (.int .u64 q.pub) from by rw [(hP.below e).cell]; rfl))
  clear hP
  generalize nameL (timesP 37 s) = NM at *
  generalize nameL q.pub = NQ at *
  generalize groupN NM n = g at *
  generalize groupN NQ n = g2 at *
  generalize sharedI g g2 n = sh at *
  generalize setL g n = l at *
  generalize q.pub = pq at *
  go_enter Tryz.func70, Tryz.ntmps70
  go_wp2_with (first
    | (go_at_call 37; refine (HNM.out _ HA.out).mono ?_; rintro r y1 ⟨rfl, hb1⟩; have e1 : Ext w y1 := hb1)
    | (go_at_call 111; (with_reducible show Calls _ _ #[.agg (keyA NM), _] _ _); refine (HG.out _).mono ?_; rintro r y2 ⟨rfl, hb2⟩; have e2 : Ext w y2 := Ext.tr e1 hb2)
    | (go_at_call 112; refine (HSE.out _).mono ?_; rintro r y3 ⟨v3, rfl, hown3, hb3⟩; have e3 : Ext w y3 := Ext.tr e2 hb3; obtain ⟨a3, c3, rfl, -, -⟩ := hown3.form; have hc3 : y3.cell? ⟨A, 2, none⟩ = some (.pointer (some ⟨P, 0, none⟩)) := (by rw [(HA.out.below e3).cell]; rfl); have hp3 := HP.out _ e3)
    | (go_at_call 43; refine (HNQ.out _).mono ?_; rintro r y4 ⟨rfl, hb4⟩; have e4 : Ext w y4 := Ext.tr e3 hb4)
    | (go_at_call 111; refine (HGQ.out _).mono ?_; rintro r y5 ⟨rfl, hb5⟩; have e5 : Ext w y5 := Ext.tr e4 hb5)
    | (go_at_call 113; refine (HSH.out _).mono ?_; rintro r y6 ⟨rfl, hb6⟩; have e6 : Ext w y6 := Ext.tr e5 hb6; have hown6 := ((hown3.ext hb4).ext hb5).ext hb6)
    | (go_at_call 114; refine (Index_any l _ sh _ _ hown6.sl (by have := HSL.out; omega)).mono ?_; rintro r y7 ⟨rfl, hy7⟩; subst y7; rw [HAT.out]))
  go_ret2
  exact ⟨_, rfl, by rw [← HE.out]; exact owI_mono hown6 e2.size, e6⟩
end Go.Proofs.YtbgnfioggmkdeaaGreatDoor
namespace Go.Proofs.YtbgnfioggmkdeaaGreatDoor
set_option linter.unusedVariables false
set_option linter.unusedSimpArgs false
open Go Go.RowKit

theorem run_allocNote (w : World) : (Instr.alloc 79 true (.tuple #[])).run Tryz.prog w = .ok (.pointer (some ⟨w.heap.size, 0, none⟩)) (w.alloc (.cells (noteC 0 0 zpay) 79)) := by
  simp [go_sem]; rfl
theorem run_buildNoteA (ack : Int) (W : World) : (Instr.build 79 #[(1, .int .u64 ack)]).run Tryz.prog W = .ok (.agg (noteC 0 ack zpay)) W := by
  simp [go_sem]; rfl
theorem wpList_bld1 {P : Program} {ops : Array Oper} {rest : List Oper} {o : Oper} {a : Act} {w : World} {Q : Exit → Act → World → Prop} (hgd : o.guard = none) (ty : TypeId) (i : Nat) (x : Operand) (ho : o.op = .build ty #[(i, x)])
    (u r : Value) (hx : a.eval x = u) (hrun : (Instr.build ty #[(i, u)]).run P w = .ok r w) (h : wpList P ops Q rest (a.put o.dst r) w) : wpList P ops Q (o :: rest) a w := by
  refine wpList_plain hgd fun K hK => ?_
  unfold Oper.wp
  simp only [execOp, ho, List.map_toArray, List.map_cons, List.map_nil, hx, Sem.run_bind, hrun, Result.andThen_ok, Sem.run_pure]
  exact hK _ _ h
theorem one_note (a b : Int) (p : List UInt8) : ∀ u ∈ (noteC a b p).toList, u.oneCell' = true := by
  intro u hu
  simp [noteC] at hu
  rcases hu with rfl | rfl | ⟨b, _, rfl⟩ <;> rfl
theorem noteC_put (a b : Int) (p q : List UInt8) (hp : p.length = 32) (hq : q.length = 32) : ((noteC a b p).toList.take 2 ++ (keyA q).toList ++ (noteC a b p).toList.drop (2 + (keyA q).size)).toArray = noteC a b q := by
  simp [noteC, keyA, hp, hq]
theorem noteC_set0 (a b x : Int) (p : List UInt8) : (noteC a b p).setIfInBounds 0 (.int .u64 x) = noteC x b p := by simp [noteC]
set_option maxRecDepth 100000 in
set_option maxHeartbeats 2000000 in
theorem Note1_any (A : Nat) (s : Int) (m P : Nat) (vg vs : Value) (q : PeerL) (round : Int) (w : World) (hA : AgB w A s m (.pointer (some ⟨P, 0, none⟩)) vg) (hP : PeB w P q vs) (hs : OwR payR 0 0 w vs q.said) (hl : q.said.length ≤ 1000) (h1 : q.sent ≤ 1000) (h2 : q.took ≤ 1000) (h3 : q.taken ≤ 1000000) :
    Calls Tryz.prog 74 #[.pointer (some ⟨A, 0, none⟩), .int .i64 round] w fun e w' => e = .returned (.agg (noteC q.note.seq q.note.ack q.note.pay)) ∧ PeB w' P (q.sends round) vs ∧ Mod [P] w w' := by
  obtain ⟨a1, c1, rfl, -, -⟩ := hs.form
  have hc : w.cell? ⟨A, 2, none⟩ = some (.pointer (some ⟨P, 0, none⟩)) := by rw [hA.cell]; rfl
  have HP := Lib.hid hP; have HS := Lib.hid hs
  have hAlt := hA.lt
  have hmx : max (q.sent : Int) (q.took : Int) = (q.from : Int) := by unfold PeerL.from; omega
  have hfr : q.from ≤ 1000 := by unfold PeerL.from; omega
  clear hP hA hs
  go_enter Tryz.func74, Tryz.ntmps74
  go_wp2_with (first
    | (refine wpList_allocB rfl _ rfl _ run_allocNote ?_; intro x B0 hh0 hB0 e0; have hcx : x.cell? ⟨A, 2, none⟩ = some (.pointer (some ⟨P, 0, none⟩)) := (Below.cell e0 hAlt).trans hc))
  have HPx := Lib.hid (HP.out.below e0)
  have hst := stabExt x
  have hk : HoldT (fun u => Ext x u) w x.drew := HoldT.drew hst ⟨Ext.refl _, e0⟩
  try change Code.wp _ _ _ (Act.mk _ _) _
  refine wp_region_runR Ext 12 75 (HoldT (fun u => Ext x u) _) [[], [], [(1, 12)], [(2, 13)], [(3, 14)], [], [(5, 16)], [(6, 17)], [(7, 18)], [(4, 15), (8, 19)], [(0, 11)], [(10, 21)]] [(0, 11), (1, 12), (2, 13), (3, 14), (4, 15), (5, 16), (6, 17), (7, 18), (8, 19), (9, 20), (10, 21), (11, 22)] (by kernel_rfl) (by kernel_rfl) (by first | rfl | simp) (hk) ?_
  simp only [List.take_succ_cons, List.take_zero, List.drop_succ_cons, List.drop_zero]
  refine sp_op (Ph.eq _) (fun u hu => by
    refine spArg_nil ?_
    have k3 : u.cell? ⟨P, 3, none⟩ = some (.int .i64 q.sent) := (by rw [(HPx.out.below hu.has).cell]; rfl)
    have k2 : u.cell? ⟨P, 2, none⟩ = some (.int .i64 q.took) := (by rw [(HPx.out.below hu.has).cell]; rfl)
    go_wp2_with (fail)
    exact ⟨rfl, hu, Ext.refl _, slot_eq rfl⟩) ?_
  refine sp_op (Ph.eq _) (fun u hu => by
    refine spArg_nil ?_
    have k3 : u.cell? ⟨P, 3, none⟩ = some (.int .i64 q.sent) := (by rw [(HPx.out.below hu.has).cell]; rfl)
    have k2 : u.cell? ⟨P, 2, none⟩ = some (.int .i64 q.took) := (by rw [(HPx.out.below hu.has).cell]; rfl)
    go_wp2_with (fail)
    exact ⟨rfl, hu, Ext.refl _, slot_eq rfl⟩) ?_
  refine sp_op (Ph.eq _) (fun u hu => by
    refine spArg_eq 0 rfl rfl ?_
    refine spArg_nil ?_
    simp only [Act.put, List.setIfInBounds_toArray, List.set_cons_succ, List.set_cons_zero]
    have k3 : u.cell? ⟨P, 3, none⟩ = some (.int .i64 q.sent) := (by rw [(HPx.out.below hu.has).cell]; rfl)
    have k2 : u.cell? ⟨P, 2, none⟩ = some (.int .i64 q.took) := (by rw [(HPx.out.below hu.has).cell]; rfl)
    go_wp2_with (fail)
    exact ⟨rfl, hu, Ext.refl _, slot_eq rfl⟩) ?_
  refine sp_op (Ph.eq _) (fun u hu => by
    refine spArg_eq 0 rfl rfl ?_
    refine spArg_nil ?_
    simp only [Act.put, List.setIfInBounds_toArray, List.set_cons_succ, List.set_cons_zero]
    have k3 : u.cell? ⟨P, 3, none⟩ = some (.int .i64 q.sent) := (by rw [(HPx.out.below hu.has).cell]; rfl)
    have k2 : u.cell? ⟨P, 2, none⟩ = some (.int .i64 q.took) := (by rw [(HPx.out.below hu.has).cell]; rfl)
    go_wp2_with (fail)
    exact ⟨rfl, hu, Ext.refl _, slot_eq rfl⟩) ?_
  refine sp_op (Ph.eq _) (fun u hu => by
    refine spArg_eq 0 rfl rfl ?_
    refine spArg_nil ?_
    simp only [Act.put, List.setIfInBounds_toArray, List.set_cons_succ, List.set_cons_zero]
    have k3 : u.cell? ⟨P, 3, none⟩ = some (.int .i64 q.sent) := (by rw [(HPx.out.below hu.has).cell]; rfl)
    have k2 : u.cell? ⟨P, 2, none⟩ = some (.int .i64 q.took) := (by rw [(HPx.out.below hu.has).cell]; rfl)
    go_wp2_with (fail)
    exact ⟨rfl, hu, Ext.refl _, slot_eq rfl⟩) ?_
  refine sp_op (Ph.eq _) (fun u hu => by
    refine spArg_nil ?_
    have k3 : u.cell? ⟨P, 3, none⟩ = some (.int .i64 q.sent) := (by rw [(HPx.out.below hu.has).cell]; rfl)
    have k2 : u.cell? ⟨P, 2, none⟩ = some (.int .i64 q.took) := (by rw [(HPx.out.below hu.has).cell]; rfl)
    go_wp2_with (fail)
    exact ⟨rfl, hu, Ext.refl _, slot_eq rfl⟩) ?_
  refine sp_op (Ph.eq _) (fun u hu => by
    refine spArg_eq 0 rfl rfl ?_
    refine spArg_nil ?_
    simp only [Act.put, List.setIfInBounds_toArray, List.set_cons_succ, List.set_cons_zero]
    have k3 : u.cell? ⟨P, 3, none⟩ = some (.int .i64 q.sent) := (by rw [(HPx.out.below hu.has).cell]; rfl)
    have k2 : u.cell? ⟨P, 2, none⟩ = some (.int .i64 q.took) := (by rw [(HPx.out.below hu.has).cell]; rfl)
    go_wp2_with (fail)
    exact ⟨rfl, hu, Ext.refl _, slot_eq rfl⟩) ?_
  refine sp_op (Ph.eq _) (fun u hu => by
    refine spArg_eq 0 rfl rfl ?_
    refine spArg_nil ?_
    simp only [Act.put, List.setIfInBounds_toArray, List.set_cons_succ, List.set_cons_zero]
    have k3 : u.cell? ⟨P, 3, none⟩ = some (.int .i64 q.sent) := (by rw [(HPx.out.below hu.has).cell]; rfl)
    have k2 : u.cell? ⟨P, 2, none⟩ = some (.int .i64 q.took) := (by rw [(HPx.out.below hu.has).cell]; rfl)
    go_wp2_with (fail)
    exact ⟨rfl, hu, Ext.refl _, slot_eq rfl⟩) ?_
  refine sp_op (Ph.eq _) (fun u hu => by
    refine spArg_eq 0 rfl rfl ?_
    refine spArg_nil ?_
    simp only [Act.put, List.setIfInBounds_toArray, List.set_cons_succ, List.set_cons_zero]
    have k3 : u.cell? ⟨P, 3, none⟩ = some (.int .i64 q.sent) := (by rw [(HPx.out.below hu.has).cell]; rfl)
    have k2 : u.cell? ⟨P, 2, none⟩ = some (.int .i64 q.took) := (by rw [(HPx.out.below hu.has).cell]; rfl)
    go_wp2_with (fail)
    exact ⟨rfl, hu, Ext.refl _, slot_eq rfl⟩) ?_
  refine sp_op (Ph.eq _) (fun u hu => by
    refine spArg_eq 4 rfl rfl ?_
    refine spArg_eq 0 rfl rfl ?_
    refine spArg_nil ?_
    simp only [Act.put, List.setIfInBounds_toArray, List.set_cons_succ, List.set_cons_zero]
    have k3 : u.cell? ⟨P, 3, none⟩ = some (.int .i64 q.sent) := (by rw [(HPx.out.below hu.has).cell]; rfl)
    have k2 : u.cell? ⟨P, 2, none⟩ = some (.int .i64 q.took) := (by rw [(HPx.out.below hu.has).cell]; rfl)
    go_wp2_with (fail)
    exact ⟨rfl, hu, Ext.refl _, slot_eq rfl⟩) ?_
  refine sp_op (Ph.eq _) (fun u hu => by
    refine spArg_eq 9 rfl rfl ?_
    refine spArg_nil ?_
    simp only [Act.put, List.setIfInBounds_toArray, List.set_cons_succ, List.set_cons_zero]
    have k3 : u.cell? ⟨P, 3, none⟩ = some (.int .i64 q.sent) := (by rw [(HPx.out.below hu.has).cell]; rfl)
    have k2 : u.cell? ⟨P, 2, none⟩ = some (.int .i64 q.took) := (by rw [(HPx.out.below hu.has).cell]; rfl)
    go_wp2_with (fail)
    exact ⟨rfl, hu, Ext.refl _, slot_eq rfl⟩) ?_
  refine sp_op (Ph.eq _) (fun u hu => by
    refine spArg_eq 0 rfl rfl ?_
    refine spArg_nil ?_
    simp only [Act.put, List.setIfInBounds_toArray, List.set_cons_succ, List.set_cons_zero]
    have k3 : u.cell? ⟨P, 3, none⟩ = some (.int .i64 q.sent) := (by rw [(HPx.out.below hu.has).cell]; rfl)
    have k2 : u.cell? ⟨P, 2, none⟩ = some (.int .i64 q.took) := (by rw [(HPx.out.below hu.has).cell]; rfl)
    go_wp2_with (fail)
    exact ⟨rfl, hu, Ext.refl _, slot_eq rfl⟩) ?_
  refine sp_end ?_
  intro u hu
  refine spArg_eq 11 rfl rfl ?_
  refine spArg_eq 10 rfl rfl ?_
  refine spArg_eq 9 rfl rfl ?_
  refine spArg_eq 8 rfl rfl ?_
  refine spArg_eq 7 rfl rfl ?_
  refine spArg_eq 6 rfl rfl ?_
  refine spArg_eq 5 rfl rfl ?_
  refine spArg_eq 4 rfl rfl ?_
  refine spArg_eq 3 rfl rfl ?_
  refine spArg_eq 2 rfl rfl ?_
  refine spArg_eq 1 rfl rfl ?_
  refine spArg_eq 0 rfl rfl ?_
  refine spArg_nil ?_
  simp only [Act.put, List.setIfInBounds_toArray, List.set_cons_succ, List.set_cons_zero]
  have hPu := HPx.out.below hu.has
  have k3 : u.cell? ⟨P, 3, none⟩ = some (.int .i64 q.sent) := (by rw [hPu.cell]; rfl)
  have k4 : u.cell? ⟨P, 4, none⟩ = some (.int .i64 q.ahead) := (by rw [hPu.cell]; rfl)
  have k5 : u.cell? ⟨P, 5, none⟩ = some (.int .i64 q.round) := (by rw [hPu.cell]; rfl)
  have k6 : u.cell? ⟨P, 6, none⟩ = some (.int .i64 q.taken) := (by rw [hPu.cell]; rfl)
  have f3 := hPu.free 3
  have f4 := hPu.free 4
  have f5 := hPu.free 5
  have hPz : PeB (((u.setCell ⟨P, 3, none⟩ (.int .i64 q.from)).setCell ⟨P, 4, none⟩ (.int .i64 q.from)).setCell ⟨P, 5, none⟩ (.int .i64 round)) P ⟨q.pub, q.said, q.took, q.from, q.from, round, q.taken⟩ (.slice a1 q.said.length c1) := ((hPu.set 3 _).set 4 _).set 5 _
  have hMz : Mod [P] u (((u.setCell ⟨P, 3, none⟩ (.int .i64 q.from)).setCell ⟨P, 4, none⟩ (.int .i64 q.from)).setCell ⟨P, 5, none⟩ (.int .i64 round)) := (Mod.tr (Mod.tr (Mod.set _ _ _ _) (Mod.set _ _ _ _)) (Mod.set _ _ _ _)).mono (by simp)
  have HPZ := Lib.hid hPz; have HMZ := Lib.hid hMz
  clear hPz hMz
  go_wp2_with (first
    | (refine wpList_bld1 rfl 79 1 _ rfl (.int .u64 q.taken) (.agg (noteC 0 q.taken zpay)) rfl (run_buildNoteA q.taken _) ?_)
    | (refine wpList_allocB rfl _ rfl _ run_allocNote ?_; intro y N hhN hBN eN)
    | (refine wpList_store_row rfl 79 _ _ rfl N (noteC 0 q.taken zpay) _ _ rfl rfl hhN (by rw [noteC_size _ _ _ rfl, noteC_size _ _ _ rfl]) (by rw [noteC_size _ _ _ rfl]; exact info_note34) (one_note _ _ _) ?_; intro z hgz hsz hNz))
  have hPlt : P < w.heap.size := HP.out.lt
  have hNu : u.heap.size ≤ N := Nat.le_trans HMZ.out.size hBN
  have hwu : w.heap.size ≤ u.heap.size := Below.size hu.up
  have hxu : x.heap.size ≤ u.heap.size := Below.size hu.has
  have hB0x := hh0.lt
  have hPN : P ≠ N := by omega
  have hPz : PeB z P ⟨q.pub, q.said, q.took, q.from, q.from, round, q.taken⟩ (.slice a1 q.said.length c1) := (HPZ.out.below eN).grownBy hgz (some_ne hPN)
  have hMw : Mod [P] w z := (Mod.tr (Mod.tr (Mod.tr ((show Ext w u from hu.up).mod []) HMZ.out) (eN.mod [])) (Mod.grown hgz)).mono (fun k hk hlt => by simp at hk ⊢; omega)
  have hSz : OwR payR 0 0 z (.slice a1 q.said.length c1) q.said := HS.out.payKeep (fun k hk => hMw.block k (HS.out.lt k hk).2 (by simp; exact fun e => pay_ne HS.out HP.out (by decide) (by rw [hk, e])))
  have hBz : Blk z B0 (noteC 0 0 zpay) 79 := ((HMZ.out.blk (hh0.below hu.has) (by simp; omega)).below eN).grownBy hgz (some_ne (by omega))
  have HPz := Lib.hid hPz; have HSz := Lib.hid hSz; have HNz := Lib.hid hNz; have HBz := Lib.hid hBz; have HMw := Lib.hid hMw
  have hNw : w.heap.size ≤ N := by omega
  have hNB : N ≠ B0 := by omega
  clear hPz hSz hNz hBz hMw HPZ HMZ eN hBN hhN hgz hsz k3 k4 k5 k6 f3 f4 f5 hPu hcx hc
  have hst2 := stabExt z
  have hk2 : HoldT (fun u => Ext z u) z z.drew := HoldT.drew hst2 ⟨Ext.refl _, Ext.refl _⟩
  by_cases hlt : q.from < q.said.length
  · obtain ⟨b, o, c', he, -, -⟩ := HSz.out.sl.open (by omega)
    cases he
    obtain ⟨ch, ⟨hp32, hch⟩, -, hrg⟩ := HSz.out.sl.at q.from q.said[q.from] (List.getElem?_eq_getElem hlt)
    subst hch
    have hgd : q.said.getD q.from zpay = q.said[q.from] := by rw [List.getD_eq_getElem?_getD, List.getElem?_eq_getElem hlt]; rfl
    have HNT := Lib.hid (show q.note = ⟨q.from + 1, q.taken, q.said[q.from]⟩ by unfold PeerL.note; rw [if_pos hlt, hgd])
    have HSD := Lib.hid (show q.sends round = ⟨q.pub, q.said, q.took, q.from + 1, q.from, round, q.taken⟩ by unfold PeerL.sends; rw [if_pos hlt])
    generalize q.said[q.from] = pay at *
    have HRG := Lib.hid (fun (u : World) (e : Ext z u) => (show u.rangeAt b (o + q.from * 32) (pay.map BV) from range_ext hrg e))
    have HP32 := Lib.hid hp32
    clear hrg hgd hp32
    try change Code.wp _ _ _ (Act.mk _ _) _
    refine wp_region_runR Ext 10 75 (HoldT (fun u => Ext z u) _) [[], [(0, 40)], [(1, 41)], [(2, 42)], [], [(4, 44)], [(5, 45)], [(6, 46)], [(7, 47)], [(3, 43), (8, 48)]] [(0, 40), (1, 41), (2, 42), (3, 43), (4, 44), (5, 45), (6, 46), (7, 47), (8, 48), (9, 49)] (by kernel_rfl) (by kernel_rfl) (by first | rfl | simp) (hk2) ?_
    simp only [List.take_succ_cons, List.take_zero, List.drop_succ_cons, List.drop_zero]
    refine sp_op (Ph.eq _) (fun u hu => by
      refine spArg_nil ?_
      have k3 : u.cell? ⟨P, 3, none⟩ = some (.int .i64 q.from) := (by rw [(HPz.out.below hu.has).cell]; rfl)
      have k1 : u.cell? ⟨P, 1, none⟩ = some (.slice (some ⟨b, o, none⟩) q.said.length c1) := (by rw [(HPz.out.below hu.has).cell]; rfl)
      go_wp2_with (fail)
      exact ⟨rfl, hu, Ext.refl _, slot_eq rfl⟩) ?_
    refine sp_op (Ph.eq _) (fun u hu => by
      refine spArg_eq 0 rfl rfl ?_
      refine spArg_nil ?_
      simp only [Act.put, List.setIfInBounds_toArray, List.set_cons_succ, List.set_cons_zero]
      have k3 : u.cell? ⟨P, 3, none⟩ = some (.int .i64 q.from) := (by rw [(HPz.out.below hu.has).cell]; rfl)
      have k1 : u.cell? ⟨P, 1, none⟩ = some (.slice (some ⟨b, o, none⟩) q.said.length c1) := (by rw [(HPz.out.below hu.has).cell]; rfl)
      go_wp2_with (fail)
      exact ⟨rfl, hu, Ext.refl _, slot_eq rfl⟩) ?_
    refine sp_op (Ph.eq _) (fun u hu => by
      refine spArg_eq 0 rfl rfl ?_
      refine spArg_nil ?_
      simp only [Act.put, List.setIfInBounds_toArray, List.set_cons_succ, List.set_cons_zero]
      have k3 : u.cell? ⟨P, 3, none⟩ = some (.int .i64 q.from) := (by rw [(HPz.out.below hu.has).cell]; rfl)
      have k1 : u.cell? ⟨P, 1, none⟩ = some (.slice (some ⟨b, o, none⟩) q.said.length c1) := (by rw [(HPz.out.below hu.has).cell]; rfl)
      go_wp2_with (fail)
      exact ⟨rfl, hu, Ext.refl _, slot_eq rfl⟩) ?_
    refine sp_op (Ph.eq _) (fun u hu => by
      refine spArg_eq 0 rfl rfl ?_
      refine spArg_nil ?_
      simp only [Act.put, List.setIfInBounds_toArray, List.set_cons_succ, List.set_cons_zero]
      have k3 : u.cell? ⟨P, 3, none⟩ = some (.int .i64 q.from) := (by rw [(HPz.out.below hu.has).cell]; rfl)
      have k1 : u.cell? ⟨P, 1, none⟩ = some (.slice (some ⟨b, o, none⟩) q.said.length c1) := (by rw [(HPz.out.below hu.has).cell]; rfl)
      go_wp2_with (fail)
      exact ⟨rfl, hu, Ext.refl _, slot_eq rfl⟩) ?_
    refine sp_op (Ph.eq _) (fun u hu => by
      refine spArg_nil ?_
      have k3 : u.cell? ⟨P, 3, none⟩ = some (.int .i64 q.from) := (by rw [(HPz.out.below hu.has).cell]; rfl)
      have k1 : u.cell? ⟨P, 1, none⟩ = some (.slice (some ⟨b, o, none⟩) q.said.length c1) := (by rw [(HPz.out.below hu.has).cell]; rfl)
      go_wp2_with (fail)
      exact ⟨rfl, hu, Ext.refl _, slot_eq rfl⟩) ?_
    refine sp_op (Ph.eq _) (fun u hu => by
      refine spArg_eq 0 rfl rfl ?_
      refine spArg_nil ?_
      simp only [Act.put, List.setIfInBounds_toArray, List.set_cons_succ, List.set_cons_zero]
      have k3 : u.cell? ⟨P, 3, none⟩ = some (.int .i64 q.from) := (by rw [(HPz.out.below hu.has).cell]; rfl)
      have k1 : u.cell? ⟨P, 1, none⟩ = some (.slice (some ⟨b, o, none⟩) q.said.length c1) := (by rw [(HPz.out.below hu.has).cell]; rfl)
      go_wp2_with (fail)
      exact ⟨rfl, hu, Ext.refl _, slot_eq rfl⟩) ?_
    refine sp_op (Ph.eq _) (fun u hu => by
      refine spArg_eq 0 rfl rfl ?_
      refine spArg_nil ?_
      simp only [Act.put, List.setIfInBounds_toArray, List.set_cons_succ, List.set_cons_zero]
      have k3 : u.cell? ⟨P, 3, none⟩ = some (.int .i64 q.from) := (by rw [(HPz.out.below hu.has).cell]; rfl)
      have k1 : u.cell? ⟨P, 1, none⟩ = some (.slice (some ⟨b, o, none⟩) q.said.length c1) := (by rw [(HPz.out.below hu.has).cell]; rfl)
      go_wp2_with (fail)
      exact ⟨rfl, hu, Ext.refl _, slot_eq rfl⟩) ?_
    refine sp_op (Ph.eq _) (fun u hu => by
      refine spArg_eq 0 rfl rfl ?_
      refine spArg_nil ?_
      simp only [Act.put, List.setIfInBounds_toArray, List.set_cons_succ, List.set_cons_zero]
      have k3 : u.cell? ⟨P, 3, none⟩ = some (.int .i64 q.from) := (by rw [(HPz.out.below hu.has).cell]; rfl)
      have k1 : u.cell? ⟨P, 1, none⟩ = some (.slice (some ⟨b, o, none⟩) q.said.length c1) := (by rw [(HPz.out.below hu.has).cell]; rfl)
      go_wp2_with (fail)
      exact ⟨rfl, hu, Ext.refl _, slot_eq rfl⟩) ?_
    refine sp_op (Ph.eq _) (fun u hu => by
      refine spArg_eq 0 rfl rfl ?_
      refine spArg_nil ?_
      simp only [Act.put, List.setIfInBounds_toArray, List.set_cons_succ, List.set_cons_zero]
      have k3 : u.cell? ⟨P, 3, none⟩ = some (.int .i64 q.from) := (by rw [(HPz.out.below hu.has).cell]; rfl)
      have k1 : u.cell? ⟨P, 1, none⟩ = some (.slice (some ⟨b, o, none⟩) q.said.length c1) := (by rw [(HPz.out.below hu.has).cell]; rfl)
      go_wp2_with (fail)
      exact ⟨rfl, hu, Ext.refl _, slot_eq rfl⟩) ?_
    refine sp_op (Ph.eq _) (fun u hu => by
      refine spArg_eq 5 rfl rfl ?_
      refine spArg_eq 0 rfl rfl ?_
      refine spArg_nil ?_
      simp only [Act.put, List.setIfInBounds_toArray, List.set_cons_succ, List.set_cons_zero]
      have k3 : u.cell? ⟨P, 3, none⟩ = some (.int .i64 q.from) := (by rw [(HPz.out.below hu.has).cell]; rfl)
      have k1 : u.cell? ⟨P, 1, none⟩ = some (.slice (some ⟨b, o, none⟩) q.said.length c1) := (by rw [(HPz.out.below hu.has).cell]; rfl)
      go_wp2_with (fail)
      exact ⟨rfl, hu, Ext.refl _, slot_eq rfl⟩) ?_
    refine sp_end ?_
    intro u hu
    refine spArg_eq 9 rfl rfl ?_
    refine spArg_eq 8 rfl rfl ?_
    refine spArg_eq 7 rfl rfl ?_
    refine spArg_eq 6 rfl rfl ?_
    refine spArg_eq 5 rfl rfl ?_
    refine spArg_eq 4 rfl rfl ?_
    refine spArg_eq 3 rfl rfl ?_
    refine spArg_eq 2 rfl rfl ?_
    refine spArg_eq 1 rfl rfl ?_
    refine spArg_eq 0 rfl rfl ?_
    refine spArg_nil ?_
    simp only [Act.put, List.setIfInBounds_toArray, List.set_cons_succ, List.set_cons_zero]
    obtain ⟨y, rfl⟩ : ∃ y, y = u := ⟨_, rfl⟩
    go_wp2_with fail
    have hk3 : HoldT (fun u => Ext z u) z y.drew := HoldT.drew hst2 hu
    try change Code.wp _ _ _ (Act.mk _ _) _
    refine wp_region_runR Ext 11 75 (HoldT (fun u => Ext z u) _) [[], [(0, 50)], [(1, 51)], [(2, 52)], [], [(4, 54)], [(5, 55)], [(6, 56)], [(3, 53), (7, 57)], [(8, 58)], []] [(0, 50), (1, 51), (2, 52), (3, 53), (4, 54), (5, 55), (6, 56), (7, 57), (8, 58), (9, 59), (10, 60)] (by kernel_rfl) (by kernel_rfl) (by first | rfl | simp) (hk3) ?_
    simp only [List.take_succ_cons, List.take_zero, List.drop_succ_cons, List.drop_zero]
    refine sp_op (Ph.eq _) (fun u hu => by
      refine spArg_nil ?_
      have k3 : u.cell? ⟨P, 3, none⟩ = some (.int .i64 q.from) := (by rw [(HPz.out.below hu.has).cell]; rfl)
      have k1 : u.cell? ⟨P, 1, none⟩ = some (.slice (some ⟨b, o, none⟩) q.said.length c1) := (by rw [(HPz.out.below hu.has).cell]; rfl)
      go_wp2_with (fail)
      exact ⟨rfl, hu, Ext.refl _, slot_eq rfl⟩) ?_
    refine sp_op (Ph.eq _) (fun u hu => by
      refine spArg_eq 0 rfl rfl ?_
      refine spArg_nil ?_
      simp only [Act.put, List.setIfInBounds_toArray, List.set_cons_succ, List.set_cons_zero]
      have k3 : u.cell? ⟨P, 3, none⟩ = some (.int .i64 q.from) := (by rw [(HPz.out.below hu.has).cell]; rfl)
      have k1 : u.cell? ⟨P, 1, none⟩ = some (.slice (some ⟨b, o, none⟩) q.said.length c1) := (by rw [(HPz.out.below hu.has).cell]; rfl)
      go_wp2_with (fail)
      exact ⟨rfl, hu, Ext.refl _, slot_eq rfl⟩) ?_
    refine sp_op (Ph.eq _) (fun u hu => by
      refine spArg_eq 0 rfl rfl ?_
      refine spArg_nil ?_
      simp only [Act.put, List.setIfInBounds_toArray, List.set_cons_succ, List.set_cons_zero]
      have k3 : u.cell? ⟨P, 3, none⟩ = some (.int .i64 q.from) := (by rw [(HPz.out.below hu.has).cell]; rfl)
      have k1 : u.cell? ⟨P, 1, none⟩ = some (.slice (some ⟨b, o, none⟩) q.said.length c1) := (by rw [(HPz.out.below hu.has).cell]; rfl)
      go_wp2_with (fail)
      exact ⟨rfl, hu, Ext.refl _, slot_eq rfl⟩) ?_
    refine sp_op (Ph.eq _) (fun u hu => by
      refine spArg_eq 0 rfl rfl ?_
      refine spArg_nil ?_
      simp only [Act.put, List.setIfInBounds_toArray, List.set_cons_succ, List.set_cons_zero]
      have k3 : u.cell? ⟨P, 3, none⟩ = some (.int .i64 q.from) := (by rw [(HPz.out.below hu.has).cell]; rfl)
      have k1 : u.cell? ⟨P, 1, none⟩ = some (.slice (some ⟨b, o, none⟩) q.said.length c1) := (by rw [(HPz.out.below hu.has).cell]; rfl)
      go_wp2_with (fail)
      exact ⟨rfl, hu, Ext.refl _, slot_eq rfl⟩) ?_
    refine sp_op (Ph.eq _) (fun u hu => by
      refine spArg_nil ?_
      have k3 : u.cell? ⟨P, 3, none⟩ = some (.int .i64 q.from) := (by rw [(HPz.out.below hu.has).cell]; rfl)
      have k1 : u.cell? ⟨P, 1, none⟩ = some (.slice (some ⟨b, o, none⟩) q.said.length c1) := (by rw [(HPz.out.below hu.has).cell]; rfl)
      go_wp2_with (fail)
      exact ⟨rfl, hu, Ext.refl _, slot_eq rfl⟩) ?_
    refine sp_op (Ph.eq _) (fun u hu => by
      refine spArg_eq 0 rfl rfl ?_
      refine spArg_nil ?_
      simp only [Act.put, List.setIfInBounds_toArray, List.set_cons_succ, List.set_cons_zero]
      have k3 : u.cell? ⟨P, 3, none⟩ = some (.int .i64 q.from) := (by rw [(HPz.out.below hu.has).cell]; rfl)
      have k1 : u.cell? ⟨P, 1, none⟩ = some (.slice (some ⟨b, o, none⟩) q.said.length c1) := (by rw [(HPz.out.below hu.has).cell]; rfl)
      go_wp2_with (fail)
      exact ⟨rfl, hu, Ext.refl _, slot_eq rfl⟩) ?_
    refine sp_op (Ph.eq _) (fun u hu => by
      refine spArg_eq 0 rfl rfl ?_
      refine spArg_nil ?_
      simp only [Act.put, List.setIfInBounds_toArray, List.set_cons_succ, List.set_cons_zero]
      have k3 : u.cell? ⟨P, 3, none⟩ = some (.int .i64 q.from) := (by rw [(HPz.out.below hu.has).cell]; rfl)
      have k1 : u.cell? ⟨P, 1, none⟩ = some (.slice (some ⟨b, o, none⟩) q.said.length c1) := (by rw [(HPz.out.below hu.has).cell]; rfl)
      go_wp2_with (fail)
      exact ⟨rfl, hu, Ext.refl _, slot_eq rfl⟩) ?_
    refine sp_op (Ph.eq _) (fun u hu => by
      refine spArg_eq 0 rfl rfl ?_
      refine spArg_nil ?_
      simp only [Act.put, List.setIfInBounds_toArray, List.set_cons_succ, List.set_cons_zero]
      have k3 : u.cell? ⟨P, 3, none⟩ = some (.int .i64 q.from) := (by rw [(HPz.out.below hu.has).cell]; rfl)
      have k1 : u.cell? ⟨P, 1, none⟩ = some (.slice (some ⟨b, o, none⟩) q.said.length c1) := (by rw [(HPz.out.below hu.has).cell]; rfl)
      go_wp2_with (fail)
      exact ⟨rfl, hu, Ext.refl _, slot_eq rfl⟩) ?_
    refine sp_op (Ph.eq _) (fun u hu => by
      refine spArg_eq 4 rfl rfl ?_
      refine spArg_eq 0 rfl rfl ?_
      refine spArg_nil ?_
      simp only [Act.put, List.setIfInBounds_toArray, List.set_cons_succ, List.set_cons_zero]
      have k3 : u.cell? ⟨P, 3, none⟩ = some (.int .i64 q.from) := (by rw [(HPz.out.below hu.has).cell]; rfl)
      have k1 : u.cell? ⟨P, 1, none⟩ = some (.slice (some ⟨b, o, none⟩) q.said.length c1) := (by rw [(HPz.out.below hu.has).cell]; rfl)
      go_wp2_with (fail)
      exact ⟨rfl, hu, Ext.refl _, slot_eq rfl⟩) ?_
    refine sp_op (Ph.eq _) (fun u hu => by
      refine spArg_eq 0 rfl rfl ?_
      refine spArg_nil ?_
      simp only [Act.put, List.setIfInBounds_toArray, List.set_cons_succ, List.set_cons_zero]
      have k3 : u.cell? ⟨P, 3, none⟩ = some (.int .i64 q.from) := (by rw [(HPz.out.below hu.has).cell]; rfl)
      have k1 : u.cell? ⟨P, 1, none⟩ = some (.slice (some ⟨b, o, none⟩) q.said.length c1) := (by rw [(HPz.out.below hu.has).cell]; rfl)
      go_wp2_with ((refine wpList_load_midG rfl 23 _ rfl (b) (o + q.from * 32) rfl _ _ (HRG.out _ hu.has) Tryz.underlying23 rfl (by rw [List.length_map, HP32.out]; exact info_pay1) ?_))
      exact ⟨rfl, hu, Ext.refl _, slot_eq rfl⟩) ?_
    refine sp_op (Ph.eq _) (fun u hu => by
      refine spArg_nil ?_
      have k3 : u.cell? ⟨P, 3, none⟩ = some (.int .i64 q.from) := (by rw [(HPz.out.below hu.has).cell]; rfl)
      have k1 : u.cell? ⟨P, 1, none⟩ = some (.slice (some ⟨b, o, none⟩) q.said.length c1) := (by rw [(HPz.out.below hu.has).cell]; rfl)
      go_wp2_with (fail)
      exact ⟨rfl, hu, Ext.refl _, slot_eq rfl⟩) ?_
    refine sp_end ?_
    intro u hu
    refine spArg_eq 10 rfl rfl ?_
    refine spArg_eq 9 rfl rfl ?_
    refine spArg_eq 8 rfl rfl ?_
    refine spArg_eq 7 rfl rfl ?_
    refine spArg_eq 6 rfl rfl ?_
    refine spArg_eq 5 rfl rfl ?_
    refine spArg_eq 4 rfl rfl ?_
    refine spArg_eq 3 rfl rfl ?_
    refine spArg_eq 2 rfl rfl ?_
    refine spArg_eq 1 rfl rfl ?_
    refine spArg_eq 0 rfl rfl ?_
    refine spArg_nil ?_
    simp only [Act.put, List.setIfInBounds_toArray, List.set_cons_succ, List.set_cons_zero]
    have hPu := HPz.out.below hu.has
    have hNu := HNz.out.below hu.has
    have hBu := HBz.out.below hu.has
    go_wp2_with (first
      | (refine wpList_store_in rfl 23 _ _ rfl N 2 (keyA pay) (noteC 0 q.taken zpay) (noteC 0 q.taken pay) _ rfl rfl hNu (by rw [noteC_size _ _ _ rfl, keyA_size, HP32.out]; decide) (by rw [keyA_size, HP32.out]; exact info_pay1) (keyA_one _) (noteC_put _ _ _ _ rfl HP32.out) ?_; intro z2 hg2 hs2 hN2
         have hP2 := hPu.grownBy hg2 (some_ne hPN)
         have hB2 := hBu.grownBy hg2 (some_ne hNB.symm)
         have k3 : z2.cell? ⟨P, 3, none⟩ = some (.int .i64 q.from) := (by rw [hP2.cell]; rfl)
         have f3 := hP2.free 3
         have k0 : z2.cell? ⟨N, 0, none⟩ = some (.int .u64 0) := (by rw [hN2.cell]; rfl)
         have f0 := hN2.free 0
         have hN3 := (hN2.setCell ⟨P, 3, none⟩ (.int .i64 (q.from + 1)) hPN.symm).set 0 (.int .u64 (q.from + 1))
         rw [noteC_set0] at hN3
         have hB3 := (hB2.setCell ⟨P, 3, none⟩ (.int .i64 (q.from + 1)) (by show B0 ≠ P; omega)).setCell ⟨N, 0, none⟩ (.int .u64 (q.from + 1)) hNB.symm
         have hP3 : PeB ((z2.setCell ⟨P, 3, none⟩ (.int .i64 (q.from + 1))).setCell ⟨N, 0, none⟩ (.int .u64 (q.from + 1))) P ⟨q.pub, q.said, q.took, q.from + 1, q.from, round, q.taken⟩ (.slice (some ⟨b, o, none⟩) q.said.length c1) := (hP2.set 3 (.int .i64 (q.from + 1))).setCell ⟨N, 0, none⟩ _ hPN
         have hM3 := Mod.tr (Mod.tr (Mod.grown hg2) (Mod.set z2 P 3 (.int .i64 (q.from + 1)))) (Mod.set (z2.setCell ⟨P, 3, none⟩ (.int .i64 (q.from + 1))) N 0 (.int .u64 (q.from + 1))))
      | (refine wpList_load_row rfl 79 _ rfl N rfl _ _ (0, 0) _ hN3 Tryz.underlying79 rfl (by rw [noteC_size _ _ _ HP32.out]; exact info_note34) ?_)
      | (refine wpList_store_row rfl 79 _ _ rfl B0 (noteC (q.from + 1) q.taken pay) _ _ rfl rfl hB3 (by rw [noteC_size _ _ _ rfl, noteC_size _ _ _ HP32.out]) (by rw [noteC_size _ _ _ HP32.out]; exact info_note34) (one_note _ _ _) ?_; intro z3 hg3 hs3 hR3))
    refine bodyPost_ret (results_cell_row Tryz.results74 _ _ B0 _ _ (0, 0) _ rfl hR3 Tryz.underlying79 rfl (by rw [noteC_size _ _ _ HP32.out]; exact info_note34)) rfl ?_
    rw [HNT.out, HSD.out]
    exact ⟨by simp, hP3.grownBy hg3 (some_ne (by omega)), (Mod.tr (Mod.tr (Mod.tr HMw.out (hu.has.mod [])) hM3) (Mod.grown hg3)).mono (fun k hk hlt => by simp at hk ⊢; omega)⟩
  · have HNT := Lib.hid (show q.note = ⟨0, q.taken, zpay⟩ by unfold PeerL.note; rw [if_neg hlt])
    have HSD := Lib.hid (show q.sends round = ⟨q.pub, q.said, q.took, q.from, q.from, round, q.taken⟩ by unfold PeerL.sends; rw [if_neg hlt])
    try change Code.wp _ _ _ (Act.mk _ _) _
    refine wp_region_runR Ext 10 75 (HoldT (fun u => Ext z u) _) [[], [(0, 40)], [(1, 41)], [(2, 42)], [], [(4, 44)], [(5, 45)], [(6, 46)], [(7, 47)], [(3, 43), (8, 48)]] [(0, 40), (1, 41), (2, 42), (3, 43), (4, 44), (5, 45), (6, 46), (7, 47), (8, 48), (9, 49)] (by kernel_rfl) (by kernel_rfl) (by first | rfl | simp) (hk2) ?_
    simp only [List.take_succ_cons, List.take_zero, List.drop_succ_cons, List.drop_zero]
    refine sp_op (Ph.eq _) (fun u hu => by
      refine spArg_nil ?_
      have k3 : u.cell? ⟨P, 3, none⟩ = some (.int .i64 q.from) := (by rw [(HPz.out.below hu.has).cell]; rfl)
      have k1 : u.cell? ⟨P, 1, none⟩ = some (.slice a1 q.said.length c1) := (by rw [(HPz.out.below hu.has).cell]; rfl)
      go_wp2_with (fail)
      exact ⟨rfl, hu, Ext.refl _, slot_eq rfl⟩) ?_
    refine sp_op (Ph.eq _) (fun u hu => by
      refine spArg_eq 0 rfl rfl ?_
      refine spArg_nil ?_
      simp only [Act.put, List.setIfInBounds_toArray, List.set_cons_succ, List.set_cons_zero]
      have k3 : u.cell? ⟨P, 3, none⟩ = some (.int .i64 q.from) := (by rw [(HPz.out.below hu.has).cell]; rfl)
      have k1 : u.cell? ⟨P, 1, none⟩ = some (.slice a1 q.said.length c1) := (by rw [(HPz.out.below hu.has).cell]; rfl)
      go_wp2_with (fail)
      exact ⟨rfl, hu, Ext.refl _, slot_eq rfl⟩) ?_
    refine sp_op (Ph.eq _) (fun u hu => by
      refine spArg_eq 0 rfl rfl ?_
      refine spArg_nil ?_
      simp only [Act.put, List.setIfInBounds_toArray, List.set_cons_succ, List.set_cons_zero]
      have k3 : u.cell? ⟨P, 3, none⟩ = some (.int .i64 q.from) := (by rw [(HPz.out.below hu.has).cell]; rfl)
      have k1 : u.cell? ⟨P, 1, none⟩ = some (.slice a1 q.said.length c1) := (by rw [(HPz.out.below hu.has).cell]; rfl)
      go_wp2_with (fail)
      exact ⟨rfl, hu, Ext.refl _, slot_eq rfl⟩) ?_
    refine sp_op (Ph.eq _) (fun u hu => by
      refine spArg_eq 0 rfl rfl ?_
      refine spArg_nil ?_
      simp only [Act.put, List.setIfInBounds_toArray, List.set_cons_succ, List.set_cons_zero]
      have k3 : u.cell? ⟨P, 3, none⟩ = some (.int .i64 q.from) := (by rw [(HPz.out.below hu.has).cell]; rfl)
      have k1 : u.cell? ⟨P, 1, none⟩ = some (.slice a1 q.said.length c1) := (by rw [(HPz.out.below hu.has).cell]; rfl)
      go_wp2_with (fail)
      exact ⟨rfl, hu, Ext.refl _, slot_eq rfl⟩) ?_
    refine sp_op (Ph.eq _) (fun u hu => by
      refine spArg_nil ?_
      have k3 : u.cell? ⟨P, 3, none⟩ = some (.int .i64 q.from) := (by rw [(HPz.out.below hu.has).cell]; rfl)
      have k1 : u.cell? ⟨P, 1, none⟩ = some (.slice a1 q.said.length c1) := (by rw [(HPz.out.below hu.has).cell]; rfl)
      go_wp2_with (fail)
      exact ⟨rfl, hu, Ext.refl _, slot_eq rfl⟩) ?_
    refine sp_op (Ph.eq _) (fun u hu => by
      refine spArg_eq 0 rfl rfl ?_
      refine spArg_nil ?_
      simp only [Act.put, List.setIfInBounds_toArray, List.set_cons_succ, List.set_cons_zero]
      have k3 : u.cell? ⟨P, 3, none⟩ = some (.int .i64 q.from) := (by rw [(HPz.out.below hu.has).cell]; rfl)
      have k1 : u.cell? ⟨P, 1, none⟩ = some (.slice a1 q.said.length c1) := (by rw [(HPz.out.below hu.has).cell]; rfl)
      go_wp2_with (fail)
      exact ⟨rfl, hu, Ext.refl _, slot_eq rfl⟩) ?_
    refine sp_op (Ph.eq _) (fun u hu => by
      refine spArg_eq 0 rfl rfl ?_
      refine spArg_nil ?_
      simp only [Act.put, List.setIfInBounds_toArray, List.set_cons_succ, List.set_cons_zero]
      have k3 : u.cell? ⟨P, 3, none⟩ = some (.int .i64 q.from) := (by rw [(HPz.out.below hu.has).cell]; rfl)
      have k1 : u.cell? ⟨P, 1, none⟩ = some (.slice a1 q.said.length c1) := (by rw [(HPz.out.below hu.has).cell]; rfl)
      go_wp2_with (fail)
      exact ⟨rfl, hu, Ext.refl _, slot_eq rfl⟩) ?_
    refine sp_op (Ph.eq _) (fun u hu => by
      refine spArg_eq 0 rfl rfl ?_
      refine spArg_nil ?_
      simp only [Act.put, List.setIfInBounds_toArray, List.set_cons_succ, List.set_cons_zero]
      have k3 : u.cell? ⟨P, 3, none⟩ = some (.int .i64 q.from) := (by rw [(HPz.out.below hu.has).cell]; rfl)
      have k1 : u.cell? ⟨P, 1, none⟩ = some (.slice a1 q.said.length c1) := (by rw [(HPz.out.below hu.has).cell]; rfl)
      go_wp2_with (fail)
      exact ⟨rfl, hu, Ext.refl _, slot_eq rfl⟩) ?_
    refine sp_op (Ph.eq _) (fun u hu => by
      refine spArg_eq 0 rfl rfl ?_
      refine spArg_nil ?_
      simp only [Act.put, List.setIfInBounds_toArray, List.set_cons_succ, List.set_cons_zero]
      have k3 : u.cell? ⟨P, 3, none⟩ = some (.int .i64 q.from) := (by rw [(HPz.out.below hu.has).cell]; rfl)
      have k1 : u.cell? ⟨P, 1, none⟩ = some (.slice a1 q.said.length c1) := (by rw [(HPz.out.below hu.has).cell]; rfl)
      go_wp2_with (fail)
      exact ⟨rfl, hu, Ext.refl _, slot_eq rfl⟩) ?_
    refine sp_op (Ph.eq _) (fun u hu => by
      refine spArg_eq 5 rfl rfl ?_
      refine spArg_eq 0 rfl rfl ?_
      refine spArg_nil ?_
      simp only [Act.put, List.setIfInBounds_toArray, List.set_cons_succ, List.set_cons_zero]
      have k3 : u.cell? ⟨P, 3, none⟩ = some (.int .i64 q.from) := (by rw [(HPz.out.below hu.has).cell]; rfl)
      have k1 : u.cell? ⟨P, 1, none⟩ = some (.slice a1 q.said.length c1) := (by rw [(HPz.out.below hu.has).cell]; rfl)
      go_wp2_with (fail)
      exact ⟨rfl, hu, Ext.refl _, slot_eq rfl⟩) ?_
    refine sp_end ?_
    intro u hu
    refine spArg_eq 9 rfl rfl ?_
    refine spArg_eq 8 rfl rfl ?_
    refine spArg_eq 7 rfl rfl ?_
    refine spArg_eq 6 rfl rfl ?_
    refine spArg_eq 5 rfl rfl ?_
    refine spArg_eq 4 rfl rfl ?_
    refine spArg_eq 3 rfl rfl ?_
    refine spArg_eq 2 rfl rfl ?_
    refine spArg_eq 1 rfl rfl ?_
    refine spArg_eq 0 rfl rfl ?_
    refine spArg_nil ?_
    simp only [Act.put, List.setIfInBounds_toArray, List.set_cons_succ, List.set_cons_zero]
    obtain ⟨y, rfl⟩ : ∃ y, y = u := ⟨_, rfl⟩
    go_wp2_with (first
      | (refine wpList_load_row rfl 79 _ rfl N rfl _ _ (0, 0) _ (HNz.out.below hu.has) Tryz.underlying79 rfl (by rw [noteC_size _ _ _ rfl]; exact info_note34) ?_)
      | (refine wpList_store_row rfl 79 _ _ rfl B0 (noteC 0 q.taken zpay) _ _ rfl rfl (HBz.out.below hu.has) (by rw [noteC_size _ _ _ rfl, noteC_size _ _ _ rfl]) (by rw [noteC_size _ _ _ rfl]; exact info_note34) (one_note _ _ _) ?_; intro z3 hg3 hs3 hR3))
    refine bodyPost_ret (results_cell_row Tryz.results74 _ _ B0 _ _ (0, 0) _ rfl hR3 Tryz.underlying79 rfl (by rw [noteC_size _ _ _ rfl]; exact info_note34)) rfl ?_
    rw [HNT.out, HSD.out]
    exact ⟨rfl, (HPz.out.below hu.has).grownBy hg3 (some_ne (by omega)), (Mod.tr (Mod.tr HMw.out (hu.has.mod [])) (Mod.grown hg3)).mono (fun k hk hlt => by simp at hk ⊢; omega)⟩
end Go.Proofs.YtbgnfioggmkdeaaGreatDoor
namespace Go.Proofs.YtbgnfioggmkdeaaGreatDoor
set_option linter.unusedVariables false
set_option linter.unusedSimpArgs false
open Go Go.RowKit

/-- The world's first n blocks. -/
def preW (u : World) (n : Nat) : World := { u with heap := u.heap.extract 0 n }
theorem preW_size (u : World) (n : Nat) (h : n ≤ u.heap.size) : (preW u n).heap.size = n := by
  unfold preW; simp; omega
theorem below_pre (u : World) (n : Nat) (h : n ≤ u.heap.size) : Below (preW u n).heap.size (preW u n) u := by
  refine ⟨rfl, rfl, rfl, ?_, fun k hk => ?_⟩
  · rw [preW_size u n h]; exact h
  · rw [preW_size u n h] at hk
    unfold preW
    simp only [Array.getElem?_extract]
    rw [if_pos (by omega), Nat.zero_add]
/-- append onto a row of one's own; other blocks may have been written before. -/
theorem appRn {α : Type} {P : Program} {w : World} {ops : Array Oper} {rest : List Oper} {o : Oper} {a : Act} {Q : Exit → Act → World → Prop} (R : Rp α) (hgd : o.guard = none) (s x : Operand) (tt : TypeId)
    (ho : o.op = .call { callee := .builtin .append, args := #[s, x], argTypes := #[tt, tt] }) (ht : P.underlying tt = some (.slice R.ty)) {z : Value} {bytes : Nat}
    (hi : (P.info? R.ty).map (fun i => (i.zero, i.size, i.bytes)) = some (some z, R.sz, bytes)) (hzs : z.cells.size = R.sz) (hnt : R.ty ∉ R.T) (hby : bytes ≤ 1000)
    (n : Nat) (hn : n ≤ w.heap.size) (v : Value) (l : List α) (hs : a.eval s = v) (hown : OwR R 0 n w v l) (vx : Value) (l' : List α) (hx : a.eval x = vx) (hsee : SlR R 0 w vx l')
    (hl : l.length + l'.length ≤ 1000000000)
    (h : ∀ v' w', OwR R 0 n w' v' (l ++ l') → w.grownBy w' v.ownBlock → wpList P ops Q rest (a.put o.dst v') w') : wpList P ops Q (o :: rest) a w := by
  have hsz := preW_size w n hn
  exact appR (W := preW w n) R hgd s x tt ho ht hi hzs hnt hby (Nat.zero_le _) v l hs (by rw [hsz]; exact hown) vx l' hx hsee hl (below_pre w n hn) (fun v' w' h1 h2 _ => h v' w' (by rw [hsz] at h1; exact h1) h2)
/-- Rows of kinds that are not written stay. -/
theorem Same.mod {w u : World} {F T : List TypeId} {G : List Nat} (h : Mod G w u) (hg : ∀ g ∈ G, g < w.heap.size → ∃ t, t ∉ T ∧ RowT w (some g) t) : Same 0 T w u :=
  ⟨h.size, fun k hk ho => by
    rcases ho with ho | ⟨cs, t, fr, hb, ht⟩
    · omega
    · refine h.block k hk (fun hm => ?_)
      obtain ⟨t', hn, hr⟩ := hg k hm hk
      obtain ⟨cs', fr', h'⟩ := hr k rfl
      rw [hb] at h'; cases h'; exact hn ht⟩
theorem Same.mod1 {w u : World} {T : List TypeId} {g : Nat} {cs : Array Value} {t : TypeId} (h : Mod [g] w u) (hb : Blk w g cs t) (hn : t ∉ T) : Same 0 T w u :=
  ⟨h.size, fun k hk ho => by
    rcases ho with ho | ⟨cs', t', fr, hb', ht⟩
    · omega
    · refine h.block k hk (fun hm => ?_)
      rw [List.mem_singleton] at hm
      subst hm
      unfold Blk at hb
      rw [hb] at hb'; cases hb'; exact hn ht⟩
theorem ownB_same {w u : World} {n : Nat} {v : Value} {l : List UInt8} (h : OwnB w n v l) (s : Same 0 [5] w u) : OwnB u n v l := by
  have hlt := h.lt
  obtain ⟨hl, h2⟩ := h
  refine ⟨hl, ?_⟩
  rcases h2 with h | ⟨g, cap, cur, rfl, hg, hh, r⟩
  · exact .inl h
  · exact .inr ⟨g, cap, cur, rfl, hg, (s.same g (hlt g rfl).2 (.inr ⟨_, _, _, hh, by simp⟩)).trans hh, r⟩
/-- Submissions. -/
def subR : Rp Sub where
  ty := 50
  sz := 38
  T := [5]
  rel := fun B w cs s => s.user.length = 32 ∧ ∃ vb, cs = s.cells vb ∧ SlR byteR B w vb s.e.box
  pos := by decide
  len := fun ⟨h1, vb, h2, _⟩ => by rw [h2]; exact Sub.length_cells _ _ h1
  one := fun ⟨h1, vb, h2, hv⟩ u hu => by
    obtain ⟨a, c, rfl, _⟩ := hv.form
    rw [h2] at hu
    exact one_sub _ _ _ _ u (by unfold subC; simpa using hu)
  keep := fun ⟨h1, vb, h2, hv⟩ s => ⟨h1, vb, h2, hv.keep s⟩
  mono := fun ⟨h1, vb, h2, hv⟩ hB => ⟨h1, vb, h2, hv.mono hB⟩
/-- An onion, and what it was made of. -/
structure MadeO where
  chain : Int
  x : Int
  inside : List UInt8
  sub : Sub
def MadeO.cells (m : MadeO) (vi vb : Value) : List Value := [.int .i64 m.chain, .int .u64 m.x, vi] ++ m.sub.cells vb
def madeR : Rp MadeO where
  ty := 102
  sz := 41
  T := [5]
  rel := fun B w cs m => m.sub.user.length = 32 ∧ ∃ vi vb, cs = m.cells vi vb ∧ SlR byteR B w vi m.inside ∧ SlR byteR B w vb m.sub.e.box
  pos := by decide
  len := fun ⟨h1, vi, vb, h2, _⟩ => by rw [h2, MadeO.cells, List.length_append, Sub.length_cells _ _ h1]; rfl
  one := fun ⟨h1, vi, vb, h2, hi, hv⟩ u hu => by
    obtain ⟨a, c, rfl, _⟩ := hv.form
    obtain ⟨a', c', rfl, _⟩ := hi.form
    rw [h2, MadeO.cells, List.mem_append] at hu
    rcases hu with hu | hu
    · simp at hu; rcases hu with rfl | rfl | rfl <;> rfl
    · exact one_sub _ _ _ _ u (by unfold subC; simpa using hu)
  keep := fun ⟨h1, vi, vb, h2, hi, hv⟩ s => ⟨h1, vi, vb, h2, hi.keep s, hv.keep s⟩
  mono := fun ⟨h1, vi, vb, h2, hi, hv⟩ hB => ⟨h1, vi, vb, h2, hi.mono hB, hv.mono hB⟩
def subZV : Value := .agg (subC ⟨List.replicate 32 0, ⟨0, []⟩, ⟨0, 0⟩, ⟨0, 0⟩⟩ (.slice none 0 0))
theorem info_subZ : (Tryz.prog.info? 50).map (fun i => (i.zero, i.size, i.bytes)) = some (some subZV, 38, 96) := by kernel_rfl
def madeZV : Value := .agg ([Value.int .i64 0, .int .u64 0, .slice none 0 0] ++ Sub.cells ⟨List.replicate 32 0, ⟨0, []⟩, ⟨0, 0⟩, ⟨0, 0⟩⟩ (.slice none 0 0)).toArray
theorem info_madeZ : (Tryz.prog.info? 102).map (fun i => (i.zero, i.size, i.bytes)) = some (some madeZV, 41, 136) := by kernel_rfl
theorem fill_arr (cs base : List Value) (o : Nat) (n : Nat) (hn : cs.length = n) (hb : o + n ≤ base.length) : Array.foldl (fun (a : Array Value) (x : Value × Nat) => a.setIfInBounds (o + x.snd) x.fst) base.toArray cs.toArray.zipIdx 0 n = (base.take o ++ cs ++ base.drop (o + n)).toArray := by
  have h1 := fill_at cs base o (by omega)
  rw [hn] at h1
  rw [← h1]
  have hz : (cs.toArray.zipIdx).size = n := by simp [hn]
  have h2 := Array.foldl_toList (f := fun (a : Array Value) (x : Value × Nat) => a.setIfInBounds (o + x.snd) x.fst) (init := base.toArray) (xs := cs.toArray.zipIdx)
  rw [hz] at h2
  have e : cs.zipIdx o = (cs.zipIdx 0).map (fun x => (x.1, o + x.2)) := by
    rw [List.zipIdx_eq_map_add (l := cs) (i := o)]
  rw [← h2, Array.toList_zipIdx, e, List.foldl_map]
theorem run_buildMade (m : MadeO) (a1 a2 : Option Addr) (n1 c1 n2 c2 : Nat) (h32 : m.sub.user.length = 32) (W : World) :
    (Instr.build 102 #[(0, .int .i64 m.chain), (1, .int .u64 m.x), (2, .slice a1 n1 c1), (3, .agg (subC m.sub (.slice a2 n2 c2)))]).run Tryz.prog W = .ok (.agg (m.cells (.slice a1 n1 c1) (.slice a2 n2 c2)).toArray) W := by
  have hs : (subC m.sub (.slice a2 n2 c2)).size = 38 := subC_size _ _ h32
  have hl := Sub.length_cells m.sub (.slice a2 n2 c2) h32
  simp [go_sem, hs]
  unfold subC
  rw [fill_arr (m.sub.cells (.slice a2 n2 c2)) _ 3 38 hl (by simp)]
  simp [MadeO.cells]
theorem run_litMade (m : MadeO) (a1 a2 : Option Addr) (n1 c1 n2 c2 : Nat) (h32 : m.sub.user.length = 32) (W : World) :
    (Instr.buildSlice 98 1 #[(0, .agg (m.cells (.slice a1 n1 c1) (.slice a2 n2 c2)).toArray)]).run Tryz.prog W = .ok (.slice (some ⟨W.heap.size, 0, none⟩) 1 1) (W.alloc (.cells (m.cells (.slice a1 n1 c1) (.slice a2 n2 c2)).toArray 102)) := by
  have hs : (m.cells (.slice a1 n1 c1) (.slice a2 n2 c2)).length = 41 := by rw [MadeO.cells, List.length_append, Sub.length_cells _ _ h32]; rfl
  simp [go_sem, hs]
  rw [fill_at _ _ 0 (by rw [hs]; simp), hs]
  simp
/-- Lists of what servers tell. -/
def pubsR : Rp (List Pub) := pubR.sl 28
end Go.Proofs.YtbgnfioggmkdeaaGreatDoor
