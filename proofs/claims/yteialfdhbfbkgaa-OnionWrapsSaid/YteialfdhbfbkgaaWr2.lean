/-
  OnionLong: walked.
-/
import Derived.Test.YteialfdhbfbkgaaWr1
namespace Go.Proofs.Yteialfdhbfbkgaa
set_option linter.unusedVariables false
set_option linter.unusedSimpArgs false
open Go Go.RowKit

theorem seesP_take {w : World} {a : Option Addr} {c : Nat} {ps : List Pub} (h : SeesP w (.slice a ps.length c) ps) (n : Nat) (hn : n ≤ ps.length) : SeesP w (.slice a n c) (ps.take n) := by
  obtain ⟨hl, a', c', he, hc, hm, hnc, hb⟩ := h
  injection he with e1 _ e3
  subst e1 e3
  have hln : (ps.take n).length = n := by rw [List.length_take]; omega
  refine ⟨by rw [hln, length_flatP, hln], a, c, by rw [hln], by rw [hln]; omega, hm, hnc, fun h0 => ?_⟩
  obtain ⟨b, o, rfl, hcell⟩ := hb (by rw [hln] at h0; omega)
  refine ⟨b, o, rfl, fun j u hj => hcell j u ?_⟩
  have hs : ps.flatMap Pub.cells = (ps.take n).flatMap Pub.cells ++ (ps.drop n).flatMap Pub.cells := by rw [← List.flatMap_append, List.take_append_drop]
  rw [hs, List.getElem?_append_left (List.getElem?_eq_some_iff.1 hj).1]; exact hj
theorem run_sliceP_to (a : Option Addr) (n c k : Nat) (hk : k ≤ c) (W : World) :
    (Instr.sliceAt 26 (.slice a n c) none (some (.int .i64 k)) none).run Try.prog W = .ok (.slice a k c) W := by
  obtain ⟨i, hi, hz, hsize, hby⟩ := info_parts info_pub3
  have h1 : (k : Int) ≤ (c : Int) := by omega
  simp [Instr.sliceAt, Instr.slice, Instr.sliceBounds, Instr.sliceBound, run_underlying Try.underlying26, sizeOf, typeInfo, hi, hsize, go_sem, h1]
  intro h; omega

theorem run_fieldE (x : Int) (v : Value) (W : World) (h : v.oneCell' = true) : (Instr.field 33 (.agg #[.int .u64 x, v]) 1).run Try.prog W = .ok v W := by
  simp [Instr.field, run_underlying Try.underlying33, go_sem]
  rfl
theorem wpList_fieldR {P : Program} {ops : Array Oper} {rest : List Oper} {o : Oper} {a : Act} {w : World} {Q : Exit → Act → World → Prop} (hgd : o.guard = none) (ty : TypeId) (x : Operand) (i : Nat) (ho : o.op = .field ty x i)
    (v r : Value) (hx : a.eval x = v) (hrun : (Instr.field ty v i).run P w = .ok r w) (h : wpList P ops Q rest (a.put o.dst r) w) : wpList P ops Q (o :: rest) a w := by
  refine wpList_plain hgd fun K hK => ?_
  unfold Oper.wp
  simp only [execOp, ho, hx, Sem.run_bind, hrun, Result.andThen_ok, Sem.run_pure]
  exact hK _ _ h

def LongRel (w2 : World) (N : Nat) (i : Value) (wr : World) : Prop := ∃ n : Nat, n ≤ N + 1 ∧ i = .int .i64 n ∧ Below w2.heap.size w2 wr
set_option maxRecDepth 100000 in
set_option maxHeartbeats 1000000 in
theorem OnionLong_any (seed : List UInt8) (k x : Int) (inside : List UInt8) (v : Value) (w : World) (h32 : seed.length = 32) (hk : inI k) (hx : in64 x) (hv : SeesB w v inside) :
    Calls Try.prog 4 #[.agg (keyA seed), .int .i64 k, .int .u64 x, v] w fun e w' => e = .returned (.bool true) ∧ Below w.heap.size w w' := by
  have HK := Lib.hid h32; clear h32
  have HKI := Lib.hid hk
  obtain ⟨a0, c0, rfl, hac0, hc0⟩ := sees_form hv
  obtain ⟨k0, k1⟩ := hk
  have hk0 := Lib.hid (Blk.new w (keyA seed) 23)
  have hb0 := Lib.hid (show Below w.heap.size w (w.alloc (.cells (keyA seed) 23)) by go_grown)
  have HV := Lib.hid hv; clear hv
  by_cases hr : 1 ≤ k ∧ k ≤ 6
  · have HD := Lib.hid (decide_eq_true hr)
    by_cases hlen : inside.length ≤ 200
    · obtain ⟨N, rfl⟩ : ∃ N : Nat, k = N := ⟨k.toNat, by omega⟩
      have hN : N ≤ 6 := by omega
      have hd : ¬ (200 : Int) < (inside.length : Int) := by omega
      go_enter Try.func4, Try.ntmps4
      go_wp2_with (first
        | (go_at_call 15; refine (alive18_any _).mono ?_; rintro e w1 ⟨rfl, hb1⟩; have hkey1 := hk0.out.below hb1; have hbel1 := hb0.out.trans (hb1.mono hb0.out.size))
        | (refine wpList_load_row rfl 23 _ rfl w.heap.size rfl _ (keyA seed) (0, 0) _ hkey1 under_key rfl (by rw [keyA_size, HK.out]; exact info_key) ?_)
        | (go_at_call 16; refine (LChain_any seed N _ HK.out HKI.out).mono ?_; rintro e w2 ⟨v2, u2, rfl, hok2, hb2⟩; rw [HD.out]
           have HP := Lib.hid (hok2 hr).2
           clear hok2
           have hbel2 := hbel1.trans (hb2.mono hbel1.size)))
      have hL := length_keysP seed 3 4 (N : Int).toNat
      have hO : ∀ p ∈ keysP seed 3 4 (N : Int).toNat, p.ok := chainN_ok _ _ _
      have HS := Lib.hid (show SeesP w2 u2 (keysP seed 3 4 (N : Int).toNat) from sees_of_owns HP.out)
      clear HP
      generalize keysP seed 3 4 (N : Int).toNat = ps at *
      rw [Int.toNat_natCast] at hL
      have HL := Lib.hid hL
      clear hL
      obtain ⟨a2, c2, rfl, hac2, hc2⟩ := sees_form HS.out
      go_loopw [8, 13] (fun _ i wr => LongRel w2 N i wr) (fun _ i _ => N + 1 - (intOf i).toNat)
      case atStart => exact ⟨0, by omega, rfl, Below.refl _ _⟩
      case round =>
        obtain ⟨n, hn, rfl, hbr⟩ := hrel
        have hup := hbel2.trans (hbr.mono hbel2.size)
        by_cases hlt : n ≤ N
        · have hnl : n ≤ ps.length := by rw [HL.out]; exact hlt
          have hsl := fun W => run_sliceP_to a2 ps.length c2 n (by omega) W
          have hA := Lib.hid (Wrap_any (ps.take n) x inside (.slice a2 n c2) _ wr (seesP_take (HS.out.below hbr (by decide)) n hnl) (fun p hp => hO p (List.mem_of_mem_take hp)) hx (HV.out.below hup (by decide)) (by omega) (by rw [List.length_take]; omega))
          have hlb : ((boxL (ps.take n) x inside (-1)).length : Int) = (inside.length : Int) + 16 * (n : Int) := by rw [length_boxL, List.length_take]; omega
          clear hnl
          generalize timesP 37 x = tx at *
          generalize boxL (ps.take n) x inside (-1) = bx at *
          go_wp2_with (first
            | (go_at_call 18; refine hA.out.mono ?_; rintro e w3 ⟨v3, rfl, hown3, hb3⟩; obtain ⟨a3, c3, rfl, -, -⟩ := owns_form hown3)
            | (refine wpList_fieldR rfl 33 _ 1 rfl (.agg #[.int .u64 tx, .slice a3 bx.length c3]) (.slice a3 bx.length c3) rfl (run_fieldE _ _ _ rfl) ?_))
          go_roundw
          case rel => exact ⟨n + 1, by omega, by go_num, hbr.trans (hb3.mono hbr.size)⟩
          case measure => simp [intOf]; omega
        · obtain rfl : n = N + 1 := by omega
          go_wp2_with fail
          go_ret
          exact ⟨rfl, hup⟩
    · have hd : (200 : Int) < (inside.length : Int) := by omega
      go_enter Try.func4, Try.ntmps4
      go_wp2_with (first
        | (go_at_call 15; refine (alive18_any _).mono ?_; rintro e w1 ⟨rfl, hb1⟩; have hkey1 := hk0.out.below hb1; have hbel1 := hb0.out.trans (hb1.mono hb0.out.size))
        | (refine wpList_load_row rfl 23 _ rfl w.heap.size rfl _ (keyA seed) (0, 0) _ hkey1 under_key rfl (by rw [keyA_size, HK.out]; exact info_key) ?_)
        | (go_at_call 16; refine (LChain_any seed k _ HK.out HKI.out).mono ?_; rintro e w2 ⟨v2, u2, rfl, hok2, hb2⟩; rw [HD.out]; have hbel2 := hbel1.trans (hb2.mono hbel1.size)))
      go_ret
      exact ⟨rfl, hbel2⟩
  · have HD := Lib.hid (decide_eq_false hr)
    go_enter Try.func4, Try.ntmps4
    go_wp2_with (first
      | (go_at_call 15; refine (alive18_any _).mono ?_; rintro e w1 ⟨rfl, hb1⟩; have hkey1 := hk0.out.below hb1; have hbel1 := hb0.out.trans (hb1.mono hb0.out.size))
      | (refine wpList_load_row rfl 23 _ rfl w.heap.size rfl _ (keyA seed) (0, 0) _ hkey1 under_key rfl (by rw [keyA_size, HK.out]; exact info_key) ?_)
      | (go_at_call 16; refine (LChain_any seed k _ HK.out HKI.out).mono ?_; rintro e w2 ⟨v2, u2, rfl, hok2, hb2⟩; rw [HD.out]; have hbel2 := hbel1.trans (hb2.mono hbel1.size)))
    go_ret
    exact ⟨rfl, hbel2⟩
end Go.Proofs.Yteialfdhbfbkgaa
