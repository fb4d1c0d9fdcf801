/-
  The law's chain; onions wrapped for a chain.
-/
import Derived.Test.YteialfdhbfbkgaaKeys4
namespace Go.Proofs.Yteialfdhbfbkgaa
set_option linter.unusedVariables false
set_option linter.unusedSimpArgs false
open Go Go.RowKit

/-- What the law's chain hands back. -/
def RetC (seed : List UInt8) (k : Int) (w : World) (e : Ending) (w' : World) : Prop :=
  ∃ v u, e = .returned (.tuple #[v, u, .bool (decide (1 ≤ k ∧ k ≤ 6))]) ∧ (1 ≤ k ∧ k ≤ 6 → OwnS w' w.heap.size v (keysSL seed 3 4 k.toNat) ∧ OwnP w' w.heap.size u (keysP seed 3 4 k.toNat)) ∧ Below w.heap.size w w'
set_option maxRecDepth 100000 in
theorem LChain_any (seed : List UInt8) (k : Int) (w : World) (h32 : seed.length = 32) (hk : inI k) :
    Calls Try.prog 16 #[.agg (keyA seed), .int .i64 k] w (RetC seed k w) := by
  have HK := Lib.hid h32; clear h32
  obtain ⟨k0, k1⟩ := hk
  have hk0 := Lib.hid (Blk.new w (keyA seed) 23)
  have hb0 := Lib.hid (show Below w.heap.size w (w.alloc (.cells (keyA seed) 23)) by go_grown)
  by_cases h1 : k < 1
  · go_enter Try.func16, Try.ntmps16
    go_wp2_with fail
    go_ret3
    exact ⟨_, _, by (rw [decide_eq_false (by omega)]; rfl), (fun h => by omega), hb0.out⟩
  · by_cases h6 : 6 < k
    · go_enter Try.func16, Try.ntmps16
      go_wp2_with fail
      go_ret3
      exact ⟨_, _, by (rw [decide_eq_false (by omega)]; rfl), (fun h => by omega), hb0.out⟩
    · obtain ⟨N, rfl⟩ : ∃ N : Nat, k = N := ⟨k.toNat, by omega⟩
      have hA := Lib.hid (Keysr_any seed 3 4 N (w.alloc (.cells (keyA seed) 23)) HK.out ⟨by decide, by decide⟩ ⟨by decide, by decide⟩ (by omega) (by omega))
      go_enter Try.func16, Try.ntmps16
      go_wp2_with (first
        | (refine wpList_load_row rfl 23 _ rfl w.heap.size rfl _ (keyA seed) (0, 0) _ hk0.out under_key rfl (by rw [keyA_size, HK.out]; exact info_key) ?_)
        | (go_at_call 45; refine hA.out.mono ?_; rintro e x1 ⟨v1, u1, rfl, hs1, hp1, hb1⟩))
      go_ret3
      exact ⟨_, _, by (rw [decide_eq_true (by omega)]; rfl), (fun _ => ⟨owns_mono hs1 hb0.out.size, owns_mono hp1 hb0.out.size⟩), hb0.out.trans (hb1.mono hb0.out.size)⟩

set_option maxRecDepth 100000 in
theorem Wrap_any (ps : List Pub) (x : Int) (inside : List UInt8) (vl v : Value) (w : World) (hps : SeesP w vl ps) (hok : ∀ p ∈ ps, p.ok) (hx : in64 x) (hv : SeesB w v inside)
    (hl : inside.length ≤ 10000000000000) (hpl : ps.length ≤ 100000000) :
    Calls Try.prog 18 #[vl, .int .u64 x, v] w (RetE (timesP 37 x) (boxL ps x inside (-1)) w) := by
  have hA := Lib.hid (Spoiled_any ps x (-1) inside vl v (w.alloc (.cells #[.int .u64 0, .slice none 0 0] 33)) (hps.below (by go_grown) (by decide)) hok hx (hv.below (by go_grown) (by decide)) hl hpl ⟨by decide, by decide⟩)
  have hR0 := Lib.hid (Blk.new w #[.int .u64 0, .slice none 0 0] 33)
  have hb0 := Lib.hid (show Below w.heap.size w (w.alloc (.cells #[.int .u64 0, .slice none 0 0] 33)) by go_grown)
  generalize timesP 37 x = tx at *
  generalize boxL ps x inside (-1) = bx at *
  clear hps hv
  go_enter Try.func18, Try.ntmps18
  go_wp2_with (first
    | (go_at_call 46; refine hA.out.mono ?_; rintro e x1 ⟨v1, rfl, hown1, hb1⟩; obtain ⟨a1, c1, rfl, -, -⟩ := owns_form hown1; have hR1 := hR0.out.below hb1)
    | (refine wpList_store_row rfl 33 _ _ rfl w.heap.size #[.int .u64 tx, .slice a1 bx.length c1] _ _ rfl rfl hR1 rfl info_entry (by intro v hv; simp at hv; rcases hv with rfl | rfl <;> rfl) ?_; intro x7 hg7 hs7 hR7
       have hlt := hown1.lt))
  refine bodyPost_ret (results_cell_row Try.results18 _ _ w.heap.size _ _ (0, 0) _ rfl hR7 Try.underlying33 rfl info_entry) rfl ?_
  have hbel := hb0.out.trans (hb1.mono hb0.out.size)
  refine ⟨_, rfl, ?_, hbel.grown hg7 hbel.size (fun k hk => by cases hk; exact Nat.le_refl _)⟩
  exact owns_mono (own_grown hown1 hg7 (RowT.blk hR1) (by decide)) hb0.out.size
set_option maxRecDepth 100000 in
theorem Wrapr_any (ps : List Pub) (x : Int) (inside : List UInt8) (vl v : Value) (w : World) (hps : SeesP w vl ps) (hok : ∀ p ∈ ps, p.ok) (hx : in64 x) (hv : SeesB w v inside)
    (hl : inside.length ≤ 10000000000000) (hpl : ps.length ≤ 100000000) :
    Calls Try.prog 19 #[vl, .int .u64 x, v] w (RetE (timesP 37 x) (boxL ps x inside (-1)) w) := by
  have hA := Lib.hid (Spoil_any ps x (-1) inside vl v (w.alloc (.cells #[.int .u64 0, .slice none 0 0] 33)) (hps.below (by go_grown) (by decide)) hok hx (hv.below (by go_grown) (by decide)) hl hpl ⟨by decide, by decide⟩)
  have hR0 := Lib.hid (Blk.new w #[.int .u64 0, .slice none 0 0] 33)
  have hb0 := Lib.hid (show Below w.heap.size w (w.alloc (.cells #[.int .u64 0, .slice none 0 0] 33)) by go_grown)
  generalize timesP 37 x = tx at *
  generalize boxL ps x inside (-1) = bx at *
  clear hps hv
  go_enter Try.func19, Try.ntmps19
  go_wp2_with (first
    | (go_at_call 47; refine hA.out.mono ?_; rintro e x1 ⟨v1, rfl, hown1, hb1⟩; obtain ⟨a1, c1, rfl, -, -⟩ := owns_form hown1; have hR1 := hR0.out.below hb1)
    | (refine wpList_store_row rfl 33 _ _ rfl w.heap.size #[.int .u64 tx, .slice a1 bx.length c1] _ _ rfl rfl hR1 rfl info_entry (by intro v hv; simp at hv; rcases hv with rfl | rfl <;> rfl) ?_; intro x7 hg7 hs7 hR7
       have hlt := hown1.lt))
  refine bodyPost_ret (results_cell_row Try.results19 _ _ w.heap.size _ _ (0, 0) _ rfl hR7 Try.underlying33 rfl info_entry) rfl ?_
  have hbel := hb0.out.trans (hb1.mono hb0.out.size)
  refine ⟨_, rfl, ?_, hbel.grown hg7 hbel.size (fun k hk => by cases hk; exact Nat.le_refl _)⟩
  exact owns_mono (own_grown hown1 hg7 (RowT.blk hR1) (by decide)) hb0.out.size
end Go.Proofs.Yteialfdhbfbkgaa
