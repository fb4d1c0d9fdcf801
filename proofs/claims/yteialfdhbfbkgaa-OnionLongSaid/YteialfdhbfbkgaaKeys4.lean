/-
  Keys of a run of places: the reference.
-/
import Derived.Test.YteialfdhbfbkgaaKeys3
namespace Go.Proofs.Yteialfdhbfbkgaa
set_option linter.unusedVariables false
set_option linter.unusedSimpArgs false
open Go Go.RowKit

theorem RowT.below {w w' : World} {r : Option Nat} {t : TypeId} (h : RowT w r t) (hb : Below w.heap.size w w') : RowT w' r t := fun g hg => by
  obtain ⟨cs, fr, e⟩ := h g hg; exact ⟨cs, fr, (hb.block g (lt_of_block e)).trans e⟩
abbrev OwnS (w : World) (B : Nat) (v : Value) (ss : List Sec) : Prop := w.ownsRow B 40 3 v ss.length (ss.flatMap Sec.cells)
theorem ownS_nil (w : World) (B : Nat) : OwnS w B (.slice none 0 0) [] := World.ownsRow_nil w B _ 3
theorem info_sec3 : (Try.prog.info? 40).map (fun i => (i.zero, i.size, i.bytes)) = some (some (.agg (SecC 0 0 0)), 3, 24) := by kernel_rfl
theorem one_sec (s : Sec) : ∀ u ∈ s.cells, u.oneCell' = true := by
  intro u hu; simp [Sec.cells] at hu; rcases hu with rfl | rfl | rfl <;> rfl
theorem appSec {W w : World} {ops : Array Oper} {rest : List Oper} {o : Oper} {a : Act} {Q : Exit → Act → World → Prop} (hgd : o.guard = none) (s x : Operand)
    (ho : o.op = .call { callee := .builtin .append, args := #[s, x], argTypes := #[28, 28] })
    (v : Value) (ps : List Sec) (hs : a.eval s = v) (hown : OwnS w W.heap.size v ps) (vx : Value) (p : Sec) (hx : a.eval x = vx) (hsee : Sees w 3 vx 1 p.cells)
    (hb : ps.length ≤ 1000000000) (hW : Below W.heap.size W w)
    (h : ∀ v' w', OwnS w' W.heap.size v' (ps ++ [p]) → w.grownBy w' v.ownBlock → Below W.heap.size W w' → wpList Try.prog ops Q rest (a.put o.dst v') w') : wpList Try.prog ops Q (o :: rest) a w :=
  wpList_app hgd s x _ ho W.heap.size 40 (.agg (SecC 0 0 0)) 3 24 Try.underlying28 info_sec3 rfl (by decide) v _ _ hs hown vx 1 _ hx hsee (one_sec p) (by omega) hW.size
    (fun v' w' h1 h2 _ => h v' w' (by simpa [OwnS] using h1) h2 (hW.grown h2 hW.size (fun k hk => (hown.lt k hk).1)))
/-- A row untouched by a row of another type. -/
theorem own_grown {w w' : World} {B : Nat} {e t : TypeId} {sz : Nat} {v : Value} {n : Nat} {xs : List Value} {row : Option Nat} (h : w.ownsRow B e sz v n xs) (hg : w.grownBy w' row) (hr : RowT w row t) (hne : e ≠ t) : w'.ownsRow B e sz v n xs := by
  have hn := (RowT.own h).ne hr hne
  have hlt := h.lt
  obtain ⟨hl, h⟩ := h
  refine ⟨hl, ?_⟩
  rcases h with h | ⟨g, cap, cur, rfl, hg', hh, r⟩
  · exact .inl h
  · exact .inr ⟨g, cap, cur, rfl, hg', (hg.block g (hlt g rfl).2 (hn g rfl)).trans hh, r⟩
/-- Rows of numbers in a row of the call's own. -/
def OwnUU (w : World) (B : Nat) (v : Value) (dd : List (List Int)) : Prop :=
  ∃ vs : List Value, w.ownsRow B 50 1 v dd.length vs ∧ ∀ (i : Nat) (l : List Int) (u : Value), dd[i]? = some l → vs[i]? = some u → SeesV w u l
theorem ownUU_nil (w : World) (B : Nat) : OwnUU w B (.slice none 0 0) [] := ⟨[], World.ownsRow_nil w B _ 1, fun i l u h => by simp at h⟩
theorem OwnUU.sees {w : World} {B : Nat} {v : Value} {dd : List (List Int)} (h : OwnUU w B v dd) : SeesUU w v dd := by
  obtain ⟨vs, h1, h2⟩ := h
  exact ⟨vs, sees_of_owns h1, fun i l u hl hu => (h2 i l u hl hu).1⟩
theorem OwnUU.below {w w' : World} {B : Nat} {v : Value} {dd : List (List Int)} (h : OwnUU w B v dd) (hb : Below w.heap.size w w') : OwnUU w' B v dd := by
  obtain ⟨vs, h1, h2⟩ := h
  exact ⟨vs, owns_below h1 hb, fun i l u hl hu => (h2 i l u hl hu).below hb⟩
theorem OwnUU.grown {w w' : World} {B : Nat} {v : Value} {dd : List (List Int)} {row : Option Nat} {t : TypeId} (h : OwnUU w B v dd) (hg : w.grownBy w' row) (hr : RowT w row t) (hn1 : 50 ≠ t) (hn2 : 24 ≠ t) : OwnUU w' B v dd := by
  obtain ⟨vs, h1, h2⟩ := h
  exact ⟨vs, own_grown h1 hg hr hn1, fun i l u hl hu => (h2 i l u hl hu).grown hg hr hn2⟩
theorem OwnUU.form {w : World} {B : Nat} {v : Value} {dd : List (List Int)} (h : OwnUU w B v dd) : ∃ a c, v = .slice a dd.length c ∧ dd.length ≤ c ∧ c ≤ 9223372036854775807 := by
  obtain ⟨vs, h1, _⟩ := h; exact owns_form h1
theorem OwnUU.row {w : World} {B : Nat} {v : Value} {dd : List (List Int)} (h : OwnUU w B v dd) : RowT w v.ownBlock 50 := by
  obtain ⟨vs, h1, _⟩ := h; exact RowT.own h1
theorem info_uu : (Try.prog.info? 50).map (fun i => (i.zero, i.size, i.bytes)) = some (some (.slice none 0 0), 1, 24) := by kernel_rfl
theorem appUU {W w : World} {ops : Array Oper} {rest : List Oper} {o : Oper} {a : Act} {Q : Exit → Act → World → Prop} (hgd : o.guard = none) (s x : Operand)
    (ho : o.op = .call { callee := .builtin .append, args := #[s, x], argTypes := #[83, 83] })
    (v : Value) (ll : List (List Int)) (hs : a.eval s = v) (hown : OwnUU w W.heap.size v ll) (vx u : Value) (l : List Int) (hx : a.eval x = vx) (hsee : Sees w 1 vx 1 [u]) (hu : SeesV w u l) (hu1 : u.oneCell' = true)
    (hb : ll.length ≤ 1000000000) (hW : Below W.heap.size W w)
    (h : ∀ v' w', OwnUU w' W.heap.size v' (ll ++ [l]) → w.grownBy w' v.ownBlock → Below W.heap.size W w' → wpList Try.prog ops Q rest (a.put o.dst v') w') : wpList Try.prog ops Q (o :: rest) a w := by
  have hr := hown.row
  obtain ⟨vs, h1, h2⟩ := hown
  have hlen : vs.length = ll.length := by have := h1.1; omega
  refine wpList_app hgd s x _ ho W.heap.size 50 (.slice none 0 0) 1 24 Try.underlying83 info_uu rfl (by decide) v _ _ hs h1 vx _ _ hx hsee (by simpa using hu1) (by omega) hW.size
    (fun v' w' g1 g2 _ => h v' w' ⟨vs ++ [u], by simpa using g1, fun i l' u' hl hu' => ?_⟩ g2 (hW.grown g2 hW.size (fun k hk => (h1.lt k hk).1)))
  by_cases hi : i < ll.length
  · rw [List.getElem?_append_left hi] at hl
    rw [List.getElem?_append_left (by omega)] at hu'
    exact (h2 i l' u' hl hu').grown g2 hr (by decide)
  · rw [List.getElem?_append_right (by omega)] at hl
    rw [List.getElem?_append_right (by omega), hlen] at hu'
    cases hk : i - ll.length with
    | zero => rw [hk] at hl hu'; cases hl; cases hu'; exact hu.grown g2 hr (by decide)
    | succ j => rw [hk] at hl; simp at hl

def keysSL (seed : List UInt8) (r c : Int) (n : Nat) : List Sec := (List.range n).map fun i : Nat => makeS seed r c (i : Int)
def keysDL (seed : List UInt8) (r c : Int) (n : Nat) : List (List Int) := (List.range n).map fun i : Nat => makeD seed r c (i : Int)
theorem keysSL_succ (seed : List UInt8) (r c : Int) (n : Nat) : keysSL seed r c (n + 1) = keysSL seed r c n ++ [makeS seed r c n] := by simp [keysSL, List.range_succ]
theorem keysDL_succ (seed : List UInt8) (r c : Int) (n : Nat) : keysDL seed r c (n + 1) = keysDL seed r c n ++ [makeD seed r c n] := by simp [keysDL, List.range_succ]
theorem length_keysSL (seed : List UInt8) (r c : Int) (n : Nat) : (keysSL seed r c n).length = n := by simp [keysSL]
theorem length_keysDL (seed : List UInt8) (r c : Int) (n : Nat) : (keysDL seed r c n).length = n := by simp [keysDL]
theorem in64_keys (seed : List UInt8) (r c p : Int) (i : Nat) : in64 (keysW seed r c p i) := ⟨(keysW_pos seed r c p i).1, Int.lt_trans (keysW_pos seed r c p i).2 (by decide)⟩
theorem keysSL_ok (seed : List UInt8) (r c : Int) (n : Nat) : ∀ s ∈ keysSL seed r c n, s.ok := by
  intro s hs
  obtain ⟨i, _, rfl⟩ := List.mem_map.1 hs
  exact ⟨in64_keys _ _ _ _ _, in64_keys _ _ _ _ _, in64_keys _ _ _ _ _⟩
theorem keysDL_ok (seed : List UInt8) (r c : Int) (n : Nat) : ∀ l ∈ keysDL seed r c n, ∀ x ∈ l, in64 x := by
  intro l hl x hx
  obtain ⟨i, _, rfl⟩ := List.mem_map.1 hl
  simp [makeD] at hx
  rcases hx with rfl | rfl | rfl <;> exact in64_keys _ _ _ _ _
/-- What the places tell. -/
def keysP (seed : List UInt8) (r c : Int) (n : Nat) : List Pub := chainL (keysSL seed r c n) (keysDL seed r c n)
theorem length_keysP (seed : List UInt8) (r c : Int) (n : Nat) : (keysP seed r c n).length = n := by rw [keysP, chainL, length_chainN, length_keysSL]
def KeyRel (w : World) (seed : List UInt8) (r c : Int) (N : Nat) (o d i : Value) (wr : World) : Prop :=
  ∃ n : Nat, n ≤ N ∧ i = .int .i64 n ∧ OwnS wr w.heap.size o (keysSL seed r c n) ∧ OwnUU wr w.heap.size d (keysDL seed r c n) ∧ Blk wr w.heap.size (keyA seed) 23 ∧ Below w.heap.size w wr
theorem SeesV.alloc {w : World} {u : Value} {l : List Int} (h : SeesV w u l) (o : Obj) : SeesV (w.alloc o) u l := h.below (by go_grown)
theorem OwnUU.alloc {w : World} {B : Nat} {v : Value} {dd : List (List Int)} (h : OwnUU w B v dd) (o : Obj) : OwnUU (w.alloc o) B v dd := h.below (by go_grown)
theorem run_allocSec (w : World) : (Instr.alloc 40 true (.tuple #[])).run Try.prog w = .ok (.pointer (some ⟨w.heap.size, 0, none⟩)) (w.alloc (.cells (SecC 0 0 0) 40)) := by simp [go_sem]

set_option maxRecDepth 100000 in
set_option maxHeartbeats 4000000 in
theorem Keysr_any (seed : List UInt8) (r c : Int) (N : Nat) (w : World) (h32 : seed.length = 32) (hr : inI r) (hc : inI c) (h1 : 1 ≤ N) (h20 : N ≤ 20) :
    Calls Try.prog 45 #[.agg (keyA seed), .int .i64 r, .int .i64 c, .int .i64 N] w fun e w' => ∃ v u, e = .returned (.tuple #[v, u]) ∧ OwnS w' w.heap.size v (keysSL seed r c N) ∧ OwnP w' w.heap.size u (keysP seed r c N) ∧ Below w.heap.size w w' := by
  have HK := Lib.hid h32; clear h32
  have HR := Lib.hid hr; have HC := Lib.hid hc; clear hr hc
  have hk0 := Lib.hid (Blk.new w (keyA seed) 23)
  have hb0 := Lib.hid (show Below w.heap.size w (w.alloc (.cells (keyA seed) 23)) by go_grown)
  go_enter Try.func45, Try.ntmps45
  go_wp2_with fail
  go_loopw [10, 11, 12, 13, 14] (fun o d i _ _ wr => KeyRel w seed r c N o d i wr) (fun _ _ i _ _ _ => N - (intOf i).toNat)
  case atStart => exact ⟨0, by omega, rfl, ownS_nil _ _, ownUU_nil _ _, hk0.out, hb0.out⟩
  case round =>
    clear hk0 hb0
    obtain ⟨n, hn, rfl, hown, hownU, hkb, hbel⟩ := hrel
    obtain ⟨a2, c2, rfl, hac2, hc2⟩ := owns_form hown
    obtain ⟨a3, c3, rfl, hac3, hc3⟩ := hownU.form
    by_cases hlt : n < N
    · have hni := Lib.hid (show inI (n : Int) from ⟨by omega, by omega⟩)
      have hls := length_keysSL seed r c n
      have hld := length_keysDL seed r c n
      have HS1 := keysSL_succ seed r c n
      have HD1 := keysDL_succ seed r c n
      obtain ⟨⟨k0, k1, k2⟩, hms⟩ : ∃ s, makeS seed r c n = s := ⟨_, rfl⟩
      obtain ⟨dl, hmd⟩ : ∃ d, makeD seed r c n = d := ⟨_, rfl⟩
      rw [hms] at HS1
      rw [hmd] at HD1
      have HMS := Lib.hid hms
      have HMD := Lib.hid hmd
      clear hms hmd
      generalize keysSL seed r c n = ss at *
      generalize keysDL seed r c n = dd at *
      have HLS := Lib.hid hls; have HLD := Lib.hid hld; clear hls hld
      have hone : ∀ v ∈ (SecC k0 k1 k2).toList, v.oneCell' = true := one_sec ⟨k0, k1, k2⟩
      go_wp2_with (first
        | (refine wpList_load_row rfl 23 _ rfl w.heap.size rfl _ (keyA seed) (0, 0) _ hkb under_key rfl (by rw [keyA_size, HK.out]; exact info_key) ?_)
        | (go_at_call 74; refine (Maker_any seed r c n _ HK.out HR.out HC.out hni.out).mono ?_; rintro e x1 ⟨v1, rfl, hsv1, hb1⟩; rw [HMS.out]; rw [HMD.out] at hsv1
           obtain ⟨a1, c1, rfl, -, -⟩ := sees_form hsv1.1
           have hown1 := owns_below hown hb1
           have hownU1 := hownU.below hb1
           have hkb1 := hkb.below hb1
           have hbel1 := hbel.trans (hb1.mono hbel.size))
        | (refine wpList_allocB rfl _ rfl _ run_allocSec ?_; intro x4 B4 hh hB4 e4)
        | (refine wpList_store_row rfl 40 _ _ rfl B4 (SecC k0 k1 k2) _ _ rfl rfl hh rfl info_sec hone ?_; intro x5 hg5 hs5 hR5
           have hup5 : Below x1.heap.size x1 x5 := (e4 : Below _ _ _).grown hg5 e4.size (fun k hk => by cases hk; exact hB4)
           have hown5 := owns_below hown1 hup5
           have hownU5 := hownU1.below hup5
           have hsv5 := hsv1.below hup5
           have hkb5 := hkb1.below hup5
           have hbel5 := hbel1.trans (hup5.mono hbel1.size)
           have hlit : Sees (x5.alloc (.cells (SecC k0 k1 k2) 40)) 3 (.slice (some ⟨x5.heap.size, 0, none⟩) 1 1) 1 (Sec.cells ⟨k0, k1, k2⟩) := sees_new x5 3 (SecC k0 k1 k2) _ 1 rfl (by decide)
           clear hg5 hs5)
        | (refine wpList_load_row rfl 40 _ rfl B4 rfl _ (SecC k0 k1 k2) (0, 0) _ hR5 Try.underlying40 rfl info_sec ?_)
        | (at_builtin; refine appSec (W := w) rfl _ _ rfl _ ss rfl (hown5.alloc _) (.slice (some ⟨x5.heap.size, 0, none⟩) 1 1) ⟨k0, k1, k2⟩ rfl hlit (by rw [HLS.out]; omega) (hbel5.alloc hbel5.size _) ?_; intro v6 w6 hown6 hg6 hb6
           have hrow6 := RowT.own (hown5.alloc (.cells (SecC k0 k1 k2) 40))
           have hownU6 := (hownU5.alloc (.cells (SecC k0 k1 k2) 40)).grown hg6 hrow6 (by decide) (by decide)
           have hsv6 := (hsv5.alloc (.cells (SecC k0 k1 k2) 40)).grown hg6 hrow6 (by decide)
           have hkb6 := (hkb5.alloc (.cells (SecC k0 k1 k2) 40)).grownBy hg6 (fun e => own_ne hown5 hkb5 (by decide) e.symm)
           clear hg6)
        | (at_builtin; refine appUU (W := w) rfl _ _ rfl _ dd rfl (hownU6.alloc _) (.slice (some ⟨w6.heap.size, 0, none⟩) 1 1) (.slice a1 dl.length c1) dl rfl (sees_new w6 1 #[.slice a1 dl.length c1] _ 1 rfl (by decide)) (hsv6.alloc _) rfl (by rw [HLD.out]; omega) (hb6.alloc hb6.size _) ?_; intro v7 w7 hownU7 hg7 hb7
           have hrow7 := (hownU6.alloc (.cells #[.slice a1 dl.length c1] 50)).row
           have hown7 := own_grown (hown6.alloc (.cells #[.slice a1 dl.length c1] 50)) hg7 hrow7 (by decide)
           have hkb7 := (hkb6.alloc (.cells #[.slice a1 dl.length c1] 50)).grownBy hg7 (fun e => (RowT.blk (hkb6.alloc (.cells #[.slice a1 dl.length c1] 50))).ne hrow7 (by decide) _ rfl e)
           clear hg7))
      go_roundw
      case rel => exact ⟨n + 1, by omega, by go_num, by rw [HS1]; exact hown7, by rw [HD1]; exact hownU7, hkb7, hb7⟩
      case measure => simp [intOf]; omega
    · obtain rfl : n = N := by omega
      have hch := Lib.hid (Chainr_any (keysSL seed r c n) (keysDL seed r c n) _ _ wr (sees_of_owns hown) hownU.sees (keysSL_ok seed r c n) (keysDL_ok seed r c n) (by rw [length_keysSL]; omega))
      go_wp2_with (go_at_call 75; refine hch.out.mono ?_; rintro e x1 ⟨v1, rfl, hp1, hb1⟩)
      go_ret2
      exact ⟨_, _, rfl, owns_below hown hb1, owns_mono hp1 hbel.size, hbel.trans (hb1.mono hbel.size)⟩
end Go.Proofs.Yteialfdhbfbkgaa
