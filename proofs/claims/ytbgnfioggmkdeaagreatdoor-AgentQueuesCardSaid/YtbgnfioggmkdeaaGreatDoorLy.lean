/-
  Notes written: the program.
  Letters closed: the program.
-/
import Derived.Test.YtbgnfioggmkdeaaGreatDoorLx
import Derived.Test.YtbgnfioggmkdeaaGreatDoorInts
import Derived.Test.YtbgnfioggmkdeaaGreatDoorMak
import Derived.Test.YtbgnfioggmkdeaaGreatDoorSpec
import Derived.Test.YtbgnfioggmkdeaaGreatDoorMk3
namespace Go.Proofs.YtbgnfioggmkdeaaGreatDoor
set_option linter.unusedVariables false
set_option linter.unusedSimpArgs false
open Go Go.RowKit

theorem info_wr : (Tryz.prog.info? 225).map (·.size) = some 1 := by kernel_rfl
theorem put64_cells (n : Nat) (hn : n < 18446744073709551616) : [Value.int .u8 ((n : Int) / 72057594037927936), .int .u8 ((n : Int) / 281474976710656 % 256), .int .u8 ((n : Int) / 1099511627776 % 256), .int .u8 ((n : Int) / 4294967296 % 256), .int .u8 ((n : Int) / 16777216 % 256), .int .u8 ((n : Int) / 65536 % 256), .int .u8 ((n : Int) / 256 % 256), .int .u8 ((n : Int) % 256)] = (put64 n).map BV := by
  simp [put64, put32, BV]
  omega
theorem info_sl : (Tryz.prog.info? 44).map (·.size) = some 1 := by kernel_rfl
/-- What the writer holds. -/
structure Wrt (w0 : World) (g : Nat) (l : List UInt8) (u : World) : Prop where
  ge : w0.heap.size ≤ g
  own : ∃ v, Blk u g #[v] 225 ∧ OwnB u w0.heap.size v l
  bel : Below w0.heap.size w0 u
def PutRel (w0 : World) (g : Nat) (l : List UInt8) (vl : Value) (nums : List Int) (i : Value) (wr : World) : Prop :=
  ∃ k : Nat, k ≤ nums.length ∧ i = .int .i64 k ∧ Wrt w0 g (l ++ (nums.take k).flatMap (fun x => put64 x.toNat)) wr ∧ SlR u64R w0.heap.size wr vl nums
theorem length_flat64 (l : List Int) : (l.flatMap (fun x => put64 x.toNat)).length = 8 * l.length := by
  induction l with
  | nil => rfl
  | cons x l ih => rw [List.flatMap_cons, List.length_append, ih, length_put64, List.length_cons]; omega
set_option maxRecDepth 100000 in
set_option maxHeartbeats 1000000 in
theorem Put_any (g : Nat) (l : List UInt8) (nums : List Int) (vl : Value) (w0 w : World) (hW : Wrt w0 g l w) (hv : SlR u64R w0.heap.size w vl nums) (h64 : ∀ x ∈ nums, in64 x) (hl : l.length + 8 * nums.length ≤ 1000000) :
    Calls Tryz.prog 165 #[.pointer (some ⟨g, 0, none⟩), vl] w fun e w' => e = .returned (.tuple #[]) ∧ Wrt w0 g (l ++ nums.flatMap (fun x => put64 x.toNat)) w' ∧ SlR u64R w0.heap.size w' vl nums := by
  obtain ⟨a0, c0, rfl, hac0, hc0⟩ := hv.form
  have H64 := Lib.hid h64
  go_enter Tryz.func165, Tryz.ntmps165
  go_wp2_with fail
  go_loopw [5, 8] (fun _ i wr => PutRel w0 g l (.slice a0 nums.length c0) nums i wr) (fun _ i _ => nums.length - (intOf i).toNat)
  case atStart => exact ⟨0, by omega, rfl, by simpa using hW, hv⟩
  case round =>
    clear hW hv
    obtain ⟨k, hk, rfl, hW, hv⟩ := hrel
    by_cases hlt : k < nums.length
    · obtain ⟨b, o, c, he, -, -⟩ := hv.open (by omega)
      cases he
      obtain ⟨ch, hch, _, hr⟩ := hv.at k nums[k] (List.getElem?_eq_getElem hlt)
      have hch : ch = [.int .u64 nums[k]] := hch
      subst hch
      have hcx := hr 0 _ rfl
      rw [show u64R.sz = 1 from rfl, Nat.mul_one, Nat.add_zero] at hcx
      have HT := Lib.hid (show l ++ (nums.take (k + 1)).flatMap (fun x => put64 x.toNat) = l ++ (nums.take k).flatMap (fun x => put64 x.toNat) ++ put64 (nums[k]).toNat by rw [List.take_succ_eq_append_getElem hlt, List.flatMap_append, List.flatMap_cons, List.flatMap_nil, List.append_nil, List.append_assoc])
      have h0 := H64.out _ (List.getElem_mem hlt)
      obtain ⟨hge, ⟨v, hblk, hown⟩, hb⟩ := hW
      have hl2 : (l ++ (nums.take k).flatMap (fun x => put64 x.toNat)).length ≤ 1000000 := by
        rw [List.length_append, length_flat64, List.length_take]; omega
      have HL := Lib.hid hl2; clear hl2
      obtain ⟨a1, c1, rfl, -, -⟩ := owns_form hown
      generalize l ++ (nums.take k).flatMap (fun x => put64 x.toNat) = pl at *
      have hcb : wr.cell? ⟨g, 0, none⟩ = some (.slice a1 pl.length c1) := by rw [hblk.cell]; rfl
      generalize nums[k] = x at *
      obtain ⟨x0, x1⟩ := h0
      obtain ⟨n, rfl⟩ := Int.eq_ofNat_of_zero_le x0
      rw [Int.toNat_natCast] at HT
      clear hch hr
      go_wp2_with (first
        | (at_builtin; refine appB (W := w0) rfl _ _ rfl _ pl rfl (hown.alloc _) _ (put64 n) rfl (seesB_lit _ _ _ _ _ (put64_cells n (by omega)) rfl (by decide)) (by have := HL.out; rw [length_put64]; omega) (hb.alloc hb.size _) ?_; intro v2 w2 hown2 hg2 hb2; have hblk2 := (hblk.alloc (.cells #[.int .u8 ((n : Int) / 72057594037927936), .int .u8 ((n : Int) / 281474976710656 % 256), .int .u8 ((n : Int) / 1099511627776 % 256), .int .u8 ((n : Int) / 4294967296 % 256), .int .u8 ((n : Int) / 16777216 % 256), .int .u8 ((n : Int) / 65536 % 256), .int .u8 ((n : Int) / 256 % 256), .int .u8 ((n : Int) % 256)] 5)).grownBy hg2 (fun e => own_ne hown hblk (by decide) e.symm)
           have hv2 := (hv.ext (Ext.alloc wr _)).keep (Same.grown hg2 (RowT.own (hown.alloc _)) (by decide) (fun g hg => (hown.lt g hg).1))
           obtain ⟨a2, c2, hv2e, -, -⟩ := owns_form hown2
           rw [List.length_append] at hv2e
           subst hv2e)
        | (refine wpList_store1 rfl 44 _ _ rfl rfl g _ _ _ rfl rfl rfl hblk2 info_sl ?_; intro w3 hg3 hs3 hB3
           have hown3 := own_grown hown2 hg3 (RowT.blk hblk2) (by decide)
           have hv3 := hv2.keep (Same.grown hg3 (RowT.blk hblk2) (by decide) (fun k hk => by cases hk; exact hge))
           have hb3 := hb2.grown hg3 hb2.size (fun k hk => by cases hk; exact hge)))
      go_roundw
      case rel => exact ⟨k + 1, by omega, by go_num, by rw [HT.out]; exact ⟨hge, ⟨_, hB3, hown3⟩, hb3⟩, hv3⟩
      case measure => simp [intOf]; omega
    · obtain rfl : k = nums.length := by omega
      rw [List.take_length] at hW
      go_wp2_with fail
      go_end0
      exact ⟨rfl, hW, hv⟩
set_option maxRecDepth 100000 in
set_option maxHeartbeats 1000000 in
theorem PutB_any (g : Nat) (l b : List UInt8) (v : Value) (w0 w : World) (hW : Wrt w0 g l w) (hv : SeesB w v b) (hl : l.length + b.length ≤ 1000000) :
    Calls Tryz.prog 166 #[.pointer (some ⟨g, 0, none⟩), v] w fun e w' => e = .returned (.tuple #[]) ∧ Wrt w0 g (l ++ b) w' := by
  obtain ⟨a0, c0, rfl, hac0, hc0⟩ := sees_form hv
  have HV := Lib.hid hv
  obtain ⟨hge, ⟨v, hblk, hown⟩, hb⟩ := hW
  obtain ⟨a1, c1, rfl, -, -⟩ := owns_form hown
  have hcb : w.cell? ⟨g, 0, none⟩ = some (.slice a1 l.length c1) := by rw [hblk.cell]; rfl
  clear hv
  go_enter Tryz.func166, Tryz.ntmps166
  go_wp2_with (first
    | (at_builtin; refine appB (W := w0) rfl _ _ rfl _ l rfl hown _ b rfl HV.out (by omega) hb ?_; intro v2 w2 hown2 hg2 hb2; have hblk2 := hblk.grownBy hg2 (fun e => own_ne hown hblk (by decide) e.symm)
       obtain ⟨a2, c2, hv2e, -, -⟩ := owns_form hown2
       rw [List.length_append] at hv2e
       subst hv2e)
    | (refine wpList_store1 rfl 44 _ _ rfl rfl g _ _ _ rfl rfl rfl hblk2 info_sl ?_; intro w3 hg3 hs3 hB3
       have hown3 := own_grown hown2 hg3 (RowT.blk hblk2) (by decide)
       have hb3 := hb2.grown hg3 hb2.size (fun k hk => by cases hk; exact hge)))
  go_end0
  exact ⟨rfl, hge, ⟨_, hB3, hown3⟩, hb3⟩
def noteC (seq ack : Int) (pay : List UInt8) : Array Value := ([Value.int .u64 seq, .int .u64 ack] ++ pay.map BV).toArray
def noteB (seq ack : Int) (pay : List UInt8) : List UInt8 := put64 seq.toNat ++ put64 ack.toNat ++ pay
theorem length_noteB (seq ack : Int) (pay : List UInt8) (h : pay.length = 32) : (noteB seq ack pay).length = 48 := by simp [noteB, length_put64, h]
theorem noteC_size (seq ack : Int) (pay : List UInt8) (h : pay.length = 32) : (noteC seq ack pay).size = 34 := by simp [noteC, h]
theorem note_pay {u : World} {g : Nat} {seq ack : Int} {pay : List UInt8} {t : TypeId} (h : Blk u g (noteC seq ack pay) t) (h32 : pay.length = 32) : SeesB u (.slice (some ⟨g, 2, none⟩) 32 32) pay := by
  refine ⟨by simp, some ⟨g, 2, none⟩, 32, by rw [h32], by omega, by decide, (fun h => nomatch h), fun _ => ⟨g, 2, rfl, fun j v hj => ?_⟩⟩
  rw [h.cell, noteC, List.getElem?_toArray, List.getElem?_append_right (by simp)]
  simpa using hj
theorem slU_lit2 (B : Nat) (w : World) (x y : Int) : SlR u64R B (w.alloc (.cells #[.int .u64 x, .int .u64 y] 22)) (.slice (some ⟨w.heap.size, 0, none⟩) 2 2) [x, y] :=
  slR_flat ⟨by have := sees_new w 1 #[.int .u64 x, .int .u64 y] 22 2 rfl (by decide); simpa using this, fun _ k hk => by cases hk; exact .inr ⟨_, _, _, heap_alloc_new w _, by simp⟩⟩
theorem run_boxNote (cs : Array Value) (W : World) : (Instr.box 79 (.agg cs)).run Tryz.prog W = .ok (.pointer (some ⟨W.heap.size, 0, none⟩)) (W.alloc (.cells cs 79)) := by
  simp [go_sem]
theorem run_boxWr (cs : Array Value) (W : World) : (Instr.box 225 (.agg cs)).run Tryz.prog W = .ok (.pointer (some ⟨W.heap.size, 0, none⟩)) (W.alloc (.cells cs 225)) := by
  simp [go_sem]
set_option maxRecDepth 100000 in
set_option maxHeartbeats 1000000 in
theorem Note_any (seq ack : Int) (pay : List UInt8) (w : World) (hs : in64 seq) (ha : in64 ack) (h32 : pay.length = 32) :
    Calls Tryz.prog 120 #[.agg (noteC seq ack pay)] w (RetB (noteB seq ack pay) w) := by
  have HB := Lib.hid (show noteB seq ack pay = [] ++ [seq, ack].flatMap (fun x => put64 x.toNat) ++ pay by simp [noteB])
  have h64 := Lib.hid (show ∀ x ∈ [seq, ack], in64 x by intro x hx; simp at hx; rcases hx with rfl | rfl <;> assumption)
  go_enter Tryz.func120, Tryz.ntmps120
  go_wp2_with (first
    | (refine wpList_boxB rfl 79 _ rfl (noteC seq ack pay) rfl (run_boxNote _ _) ?_; intro x0 B0 hN hB0 e0
       have hc0 : x0.cell? ⟨B0, 0, none⟩ = some (.int .u64 seq) := (by rw [hN.cell]; rfl)
       have hc1 : x0.cell? ⟨B0, 1, none⟩ = some (.int .u64 ack) := (by rw [hN.cell]; rfl)
       have hlt := hN.lt)
    | (refine wpList_boxB rfl 225 _ rfl #[.slice none 0 0] rfl (run_boxWr _ _) ?_; intro x1 B1 hW1 hB1 e1
       have hcc0 := (Below.cell e1 hlt).trans hc0
       have hcc1 := (Below.cell e1 hlt).trans hc1)
    | (go_at_call 165; refine (Put_any B1 [] [seq, ack] _ x0 _ ⟨hB1, ⟨_, hW1.alloc _, World.ownsRow_nil _ _ _ _⟩, Ext.tr e1 (Ext.alloc _ _)⟩ (slU_lit2 _ _ seq ack) h64.out (by simp)).mono ?_; rintro e x2 ⟨rfl, hw2, -⟩; have hn2 := note_pay (hN.below hw2.bel) h32)
    | (go_at_call 166; refine (PutB_any _ _ pay _ x0 _ hw2 hn2 (by rw [h32]; simp [length_put64])).mono ?_; rintro e x3 ⟨rfl, hge, ⟨v3, hB3, hO3⟩, hb3⟩; have hc3 : x3.cell? ⟨B1, 0, none⟩ = some v3 := (by rw [hB3.cell]; rfl)))
  go_ret
  rw [HB.out]
  exact RetB.mk (owns_mono hO3 e0.size) (Ext.tr e0 hb3)
end Go.Proofs.YtbgnfioggmkdeaaGreatDoor
namespace Go.Proofs.YtbgnfioggmkdeaaGreatDoor
set_option linter.unusedVariables false
set_option linter.unusedSimpArgs false
open Go Go.RowKit

def noteS : List UInt8 := [110, 111, 116, 101]
def loopS : List UInt8 := [108, 111, 111, 112]
def innerS : List UInt8 := [105, 110, 110, 101, 114]
def betwK (secret peer : Int) (to : List UInt8) (round : Int) : List UInt8 := keyD (put64 (timesP peer secret).toNat ++ to ++ besL round) noteS
def talkB (secret peer round seq ack : Int) (pay : List UInt8) : List UInt8 := sealL (betwK secret peer (nameL peer) round) (nameL peer) (noteB seq ack pay)
def loopK (secret round : Int) : List UInt8 := keyD (put64 secret.toNat ++ besL round) loopS
def loopB (secret round : Int) : List UInt8 := sealL (loopK secret round) (nameL (timesP 37 secret)) (noteB 0 0 zpay)
def innerK (x e : Int) : List UInt8 := keyD (put64 (timesP x e).toNat) innerS
def envB (inner y : Int) (to body : List UInt8) : List UInt8 := put64 (timesP 37 y).toNat ++ sealL (innerK inner y) [] (to ++ body)
theorem length_sealL' (k s b : List UInt8) : (sealL k s b).length = b.length + 16 := by
  unfold sealL; rw [List.length_append, length_turnL, length_tagL]
theorem length_talkB (secret peer round seq ack : Int) (pay : List UInt8) (h : pay.length = 32) : (talkB secret peer round seq ack pay).length = 64 := by
  unfold talkB; rw [length_sealL', length_noteB _ _ _ h]
theorem length_loopB (secret round : Int) : (loopB secret round).length = 64 := by
  unfold loopB; rw [length_sealL', length_noteB _ _ _ rfl]
theorem length_envB (inner y : Int) (to body : List UInt8) : (envB inner y to body).length = to.length + body.length + 24 := by
  unfold envB; rw [List.length_append, length_sealL', List.length_append, length_put64]; omega
/-- A letter's cells. -/
def letC (to : List UInt8) (vb : Value) : Array Value := (to.map BV ++ [vb]).toArray
theorem letC_size (to : List UInt8) (vb : Value) (h : to.length = 32) : (letC to vb).size = 33 := by simp [letC, h]
theorem info_let : (Tryz.prog.info? 59).map (·.size) = some 33 := by kernel_rfl
theorem one_let (to : List UInt8) (a : Option Addr) (n c : Nat) : ∀ u ∈ (letC to (.slice a n c)).toList, u.oneCell' = true := by
  intro u hu
  simp [letC] at hu
  rcases hu with ⟨b, _, rfl⟩ | rfl <;> rfl
/-- A letter whose body is the call's own. -/
def RetLet (to body : List UInt8) (w : World) (e : Ending) (w' : World) : Prop := ∃ v', e = .returned (.agg (letC to v')) ∧ OwnB w' w.heap.size v' body ∧ Below w.heap.size w w'
theorem run_buildLet (to : List UInt8) (a : Option Addr) (n c : Nat) (h32 : to.length = 32) (W : World) : (Instr.build 59 #[(0, .agg (keyA to)), (1, .slice a n c)]).run Tryz.prog W = .ok (.agg (letC to (.slice a n c))) W := by
  have hs : (keyA to).size = 32 := by rw [keyA_size, h32]
  have hf := fill_key to h32
  simp [go_sem, hs]
  rw [hf _ (by simp)]
  simp [letC, h32]
theorem run_allocLet (w : World) : (Instr.alloc 59 true (.tuple #[])).run Tryz.prog w = .ok (.pointer (some ⟨w.heap.size, 0, none⟩)) (w.alloc (.cells (letC (List.replicate 32 0) (.slice none 0 0)) 59)) := by
  simp [go_sem]; rfl
theorem run_buildNote0 (W : World) : (Instr.build 79 #[]).run Tryz.prog W = .ok (.agg (noteC 0 0 zpay)) W := by
  have e : noteC 0 0 zpay = #[.int .u64 0, .int .u64 0] ++ Array.replicate 32 (.int .u8 0) := by simp [noteC, zpay, BV]
  rw [e]; simp [go_sem]
theorem run_boxKey (cs : Array Value) (W : World) : (Instr.box 24 (.agg cs)).run Tryz.prog W = .ok (.pointer (some ⟨W.heap.size, 0, none⟩)) (W.alloc (.cells cs 24)) := by
  simp [go_sem]
set_option maxRecDepth 100000 in
set_option maxHeartbeats 1000000 in
theorem Sealed_any (x e : Int) (w : World) (hx : in64 x) (he : in64 e) :
    Calls Tryz.prog 122 #[.int .u64 x, .int .u64 e] w fun r w' => r = .returned (.agg (keyA (innerK x e))) ∧ Below w.heap.size w w' := by
  have HT := Lib.hid (fun W => Times_any x e W hx.1 hx.2 he.1 he.2)
  obtain ⟨h0, h1⟩ := in64_P (timesP_pos x e)
  have HK := Lib.hid (show keyD (put64 (timesP x e).toNat) innerS = innerK x e from rfl)
  have HKL := Lib.hid (show (innerK x e).length = 32 from length_keyD _ _)
  generalize innerK x e = K at *
  generalize timesP x e = T at *
  have hR0 := Lib.hid (Blk.new w (keyA (List.replicate 32 0)) 24)
  have hb0 := Lib.hid (show Ext w (w.alloc (.cells (keyA (List.replicate 32 0)) 24)) from Ext.alloc _ _)
  go_enter Tryz.func122, Tryz.ntmps122
  go_wp2_with (first
    | (refine wpList_allocB rfl _ rfl _ run_allocKey ?_; intro x0 B0 hh0 hB0 e0)
    | (go_at_call 128; refine (HT.out _).mono ?_; rintro r y ⟨rfl, hy⟩; subst y)
    | (go_at_call 69; refine (Bytes_any T _ h0 h1).mono ?_; rintro r y1 ⟨v1, rfl, hown1, hb1⟩
       have e1 : Ext w y1 := Ext.tr e0 hb1
       have hR1 := hh0.below hb1)
    | (go_at_call 116; refine (Key_any _ (put64 T.toNat) _ _ (sees_of_owns hown1) (by rw [length_put64]; decide) (by decide)).mono ?_; rintro r y2 ⟨rfl, hb2⟩; have e2 : Ext w y2 := Ext.tr e1 hb2; have hR2 := hR1.below hb2)
    | (refine wpList_store_row rfl 24 _ _ rfl B0 (keyA (keyD (put64 T.toNat) innerS)) _ _ rfl rfl hR2 (by rw [HK.out, keyA_size, keyA_size, HKL.out]; rfl) (by rw [HK.out, keyA_size, HKL.out]; exact info_key) (keyA_one _) ?_; intro z hgz hsz hRz))
  refine bodyPost_ret (results_cell_row Tryz.results122 _ _ B0 _ _ (0, 0) _ rfl hRz under_key rfl (by rw [HK.out, keyA_size, HKL.out]; exact info_key)) rfl ⟨by rw [HK.out], ext_row e2 hgz hB0⟩
set_option maxRecDepth 100000 in
set_option maxHeartbeats 1000000 in
theorem Between_any (secret peer : Int) (to : List UInt8) (round : Int) (w : World) (hs : in64 secret) (hp : in64 peer) (h32 : to.length = 32) :
    Calls Tryz.prog 86 #[.int .u64 secret, .int .u64 peer, .agg (keyA to), .int .i64 round] w fun r w' => r = .returned (.agg (keyA (betwK secret peer to round))) ∧ Below w.heap.size w w' := by
  have HT := Lib.hid (fun W => Times_any peer secret W hp.1 hp.2 hs.1 hs.2)
  obtain ⟨h0, h1⟩ := in64_P (timesP_pos peer secret)
  have HK := Lib.hid (show keyD ([put64 (timesP peer secret).toNat, to].flatten ++ besL round) noteS = betwK secret peer to round by simp [betwK])
  have HKL := Lib.hid (show (betwK secret peer to round).length = 32 from length_keyD _ _)
  have hP := fun (w' : World) (v : Value) (l : List UInt8) (h : SeesB w' v l) (hl : l.length ≤ 1000) => Put64_any w' v l (u64of round) h (in64_u64of round).1 (in64_u64of round).2 (by omega)
  rw [show put64 (u64of round).toNat = besL round from rfl] at hP
  unfold u64of at hP
  have HP := Lib.hid hP
  clear hP
  generalize betwK secret peer to round = K at *
  generalize timesP peer secret = T at *
  have HLF := Lib.hid (show [put64 T.toNat, to].flatten.length = 40 by simp [length_put64, h32])
  obtain ⟨CC, hCC⟩ : ∃ CC, [put64 T.toNat, to].flatten = CC := ⟨_, rfl⟩
  have HCC := Lib.hid hCC
  rw [hCC] at HLF HK
  clear hCC
  go_enter Tryz.func86, Tryz.ntmps86
  go_wp2_with (first
    | (refine wpList_boxB rfl 24 _ rfl (keyA to) rfl (run_boxKey _ _) ?_; intro xb Bb hbb hBb eb; have hkb := seesB_key hbb h32)
    | (refine wpList_allocB rfl _ rfl _ run_allocKey ?_; intro x0 B0 hh0 hB0 e0')
    | (go_at_call 128; refine (HT.out _).mono ?_; rintro r y ⟨rfl, hy⟩; subst y)
    | (go_at_call 69; refine (Bytes_any T _ h0 h1).mono ?_; rintro r y1 ⟨v1, rfl, hown1, hb1⟩
       have hB0' : w.heap.size ≤ B0 := Nat.le_trans eb.size hB0
       have e0 : Ext w x0 := Ext.tr eb e0'
       have e1 : Ext w y1 := Ext.tr e0 hb1
       have hR1 := hh0.below hb1
       have hk1 := (hkb.below e0' (by decide)).below hb1 (by decide)
       obtain ⟨a1, c1, rfl, -, -⟩ := owns_form hown1)
    | (go_at_call 121; refine (Concat_any [put64 T.toNat, to] _ _ (seesBB_2 _ (sees_of_owns hown1) hk1) (by rw [HCC.out, HLF.out]; decide)).mono ?_; rintro r y2 ⟨v2, rfl, hown2, hb2⟩; rw [HCC.out] at hown2; have e2 : Ext w y2 := Ext.tr e1 (Ext.tr (Ext.alloc _ _) hb2); have hR2 := (hR1.alloc (.cells #[.slice a1 (put64 T.toNat).length c1, .slice (some ⟨Bb, 0, none⟩) 32 32] 44)).below hb2)
    | (go_at_call 110; refine (HP.out _ _ CC (sees_of_owns hown2) (by rw [HLF.out]; decide)).mono ?_; rintro r y3 ⟨v3, rfl, hown3, hb3⟩; have e3 : Ext w y3 := Ext.tr e2 hb3; have hR3 := hR2.below hb3)
    | (go_at_call 116; refine (Key_any _ (CC ++ besL round) _ _ (sees_of_owns hown3) (by rw [List.length_append, HLF.out, length_besL]; decide) (by decide)).mono ?_; rintro r y4 ⟨rfl, hb4⟩; have e4 : Ext w y4 := Ext.tr e3 hb4; have hR4 := hR3.below hb4)
    | (refine wpList_store_row rfl 24 _ _ rfl B0 (keyA (keyD (CC ++ besL round) noteS)) _ _ rfl rfl hR4 (by rw [HK.out, keyA_size, keyA_size, HKL.out]; rfl) (by rw [HK.out, keyA_size, HKL.out]; exact info_key) (keyA_one _) ?_; intro z hgz hsz hRz))
  refine bodyPost_ret (results_cell_row Tryz.results86 _ _ B0 _ _ (0, 0) _ rfl hRz under_key rfl (by rw [HK.out, keyA_size, HKL.out]; exact info_key)) rfl ⟨by rw [HK.out], ext_row e4 hgz hB0'⟩
theorem wpList_bld0 {P : Program} {ops : Array Oper} {rest : List Oper} {o : Oper} {a : Act} {w : World} {Q : Exit → Act → World → Prop} (hgd : o.guard = none) (ty : TypeId) (ho : o.op = .build ty #[])
    (r : Value) (hrun : ∀ w : World, (Instr.build ty #[]).run P w = .ok r w) (h : wpList P ops Q rest (a.put o.dst r) w) : wpList P ops Q (o :: rest) a w := by
  refine wpList_plain hgd fun K hK => ?_
  unfold Oper.wp
  simp only [execOp, ho, List.map_toArray, List.map_nil, Sem.run_bind, hrun, Result.andThen_ok, Sem.run_pure]
  exact hK _ _ h
theorem in0 : in64 0 := ⟨by decide, by decide⟩
set_option maxRecDepth 100000 in
set_option maxHeartbeats 2000000 in
theorem Loop_any (secret round : Int) (w : World) (hs : in64 secret) :
    Calls Tryz.prog 72 #[.int .u64 secret, .int .i64 round] w (RetLet (nameL (timesP 37 secret)) (loopB secret round) w) := by
  have HPU := Lib.hid (fun W => Public_any secret W hs.1 hs.2)
  have HNM := Lib.hid (fun W => Name_any (timesP 37 secret) W (in64_P (timesP_pos 37 secret)))
  have HP1 := Lib.hid (fun W => Put64_any W (.slice none 0 0) [] secret (Sees.nil _ _) hs.1 hs.2 (by simp))
  have hP := fun (w' : World) (v : Value) (l : List UInt8) (h : SeesB w' v l) (hl : l.length ≤ 1000) => Put64_any w' v l (u64of round) h (in64_u64of round).1 (in64_u64of round).2 (by omega)
  rw [show put64 (u64of round).toNat = besL round from rfl] at hP
  unfold u64of at hP
  have HP := Lib.hid hP
  clear hP
  have HK := Lib.hid (show keyD (put64 secret.toNat ++ besL round) loopS = loopK secret round from rfl)
  have HKL := Lib.hid (show (loopK secret round).length = 32 from length_keyD _ _)
  have HTL := Lib.hid (show (nameL (timesP 37 secret)).length = 32 from length_nameL _)
  have HB := Lib.hid (show loopB secret round = sealL (loopK secret round) (nameL (timesP 37 secret)) (noteB 0 0 zpay) from rfl)
  have HNL := Lib.hid (length_noteB 0 0 zpay rfl)
  have HSL := Lib.hid (length_put64 secret.toNat)
  generalize loopB secret round = BODY at *
  generalize loopK secret round = K at *
  generalize nameL (timesP 37 secret) = TO at *
  generalize timesP 37 secret = PU at *
  generalize put64 secret.toNat = SE at *
  go_enter Tryz.func72, Tryz.ntmps72
  go_wp2_with (first
    | (refine wpList_allocB rfl _ rfl _ run_allocLet ?_; intro x0 B0 hh0 hB0 e0)
    | (go_at_call 48; refine (HPU.out _).mono ?_; rintro r y ⟨rfl, hy⟩; subst y)
    | (go_at_call 43; refine (HNM.out _).mono ?_; rintro r y1 ⟨rfl, hb1⟩; have e1 : Ext w y1 := Ext.tr e0 hb1; have hR1 := hh0.below hb1)
    | (refine wpList_store_row rfl 24 (.tmp 5) _ rfl y1.heap.size (keyA TO) _ _ rfl rfl (Blk.new _ _ _) (by rw [keyA_size, HTL.out]; rfl) (by rw [keyA_size, HTL.out]; exact info_key) (keyA_one _) ?_; intro y2 hg2 hs2 hTo2
       have e2 : Ext w y2 := ext_row (Ext.tr e1 (Ext.alloc _ _)) hg2 e1.size
       have hR2 := (hR1.alloc _).grownBy hg2 (some_ne (Nat.ne_of_lt hR1.lt))
       clear hg2 hs2)
    | (go_at_call 110; (with_reducible show Calls _ _ #[.slice none 0 0, _] _ _); refine (HP1.out _).mono ?_; rintro r y3 ⟨v3, rfl, hown3, hb3⟩; rw [List.nil_append] at hown3; have e3 : Ext w y3 := Ext.tr e2 hb3; have hR3 := hR2.below hb3; have hTo3 := hTo2.below hb3)
    | (go_at_call 110; refine (HP.out _ _ SE (sees_of_owns hown3) (by rw [HSL.out]; decide)).mono ?_; rintro r y4 ⟨v4, rfl, hown4, hb4⟩; have e4 : Ext w y4 := Ext.tr e3 hb4; have hR4 := hR3.below hb4; have hTo4 := hTo3.below hb4)
    | (go_at_call 116; refine (Key_any _ (SE ++ besL round) _ _ (sees_of_owns hown4) (by rw [List.length_append, HSL.out, length_besL]; decide) (by decide)).mono ?_; rintro r y5 ⟨rfl, hb5⟩; have e5 : Ext w y5 := Ext.tr e4 hb5; have hR5 := hR4.below hb5; have hTo5 := hTo4.below hb5; clear hR1 hR2 hR3 hTo2 hTo3)
    | (refine wpList_store_row rfl 24 (.tmp 6) _ rfl y5.heap.size (keyA (keyD (SE ++ besL round) loopS)) _ _ rfl rfl (Blk.new _ _ _) (by rw [HK.out, keyA_size, HKL.out]; rfl) (by rw [HK.out, keyA_size, HKL.out]; exact info_key) (keyA_one _) ?_; intro x hg6 hs6 hK6
       rw [HK.out] at hK6
       have ex : Ext w x := ext_row (Ext.tr e5 (Ext.alloc _ _)) hg6 e5.size
       have hR6 := (hR5.alloc _).grownBy hg6 (some_ne (Nat.ne_of_lt hR5.lt))
       have hTo6 := (hTo5.alloc _).grownBy hg6 (some_ne (Nat.ne_of_lt hTo5.lt))
       clear hg6 hs6))
  have hst := stabExt x
  have hk : HoldT (fun u => Ext x u) w x.drew := HoldT.drew hst ⟨Ext.refl _, ex⟩
  have HK6 := Lib.hid hK6; have HTo := Lib.hid hTo6; have HR := Lib.hid hR6
  clear hK6 hTo6 hR6
  generalize y1.heap.size = B1 at *
  generalize y5.heap.size = B2 at *
  try change Code.wp _ _ _ (Act.mk _ _) _
  refine wp_region_runR Ext 6 23 (HoldT (fun u => Ext x u) _) [[], [], [], [], [(3, 19)], [(1, 17), (2, 18), (4, 20)]] [(0, 16), (1, 17), (2, 18), (3, 19), (4, 20), (5, 21)] (by kernel_rfl) (by kernel_rfl) (by first | rfl | simp) (hk) ?_
  simp only [List.take_succ_cons, List.take_zero, List.drop_succ_cons, List.drop_zero]
  refine sp_op (Ph.eq _) (fun u hu => by
    refine spArg_nil ?_
    go_wp2_with ((refine wpList_load_rowG rfl 24 _ rfl (B1) rfl _ _ (0, 0) _ (HTo.out.below hu.has) Tryz.underlying24 rfl (by rw [keyA_size, HTL.out]; exact info_key) ?_))
    exact ⟨rfl, hu, Ext.refl _, slot_eq rfl⟩) ?_
  refine sp_op (Ph.eq _) (fun u hu => by
    refine spArg_nil ?_
    go_wp2_with ((refine wpList_load_rowG rfl 24 _ rfl (B2) rfl _ _ (0, 0) _ (HK6.out.below hu.has) Tryz.underlying24 rfl (by rw [keyA_size, HKL.out]; exact info_key) ?_))
    exact ⟨rfl, hu, Ext.refl _, slot_eq rfl⟩) ?_
  refine sp_op (Ph.eq _) (fun u hu => by
    refine spArg_nil ?_
    go_wp2_with (fail)
    exact ⟨rfl, hu, Ext.refl _, slot_eq rfl⟩) ?_
  refine sp_op (Ph.eq _) (fun u hu => by
    refine spArg_nil ?_
    go_wp2_with ((refine wpList_bld0 rfl 79 rfl _ run_buildNote0 ?_))
    exact ⟨rfl, hu, Ext.refl _, slot_eq rfl⟩) ?_
  refine sp_op (Ph.ownB w.heap.size (noteB 0 0 zpay)) (fun u hu => by
    refine spArg_eq 0 rfl rfl ?_
    refine spArg_nil ?_
    simp only [Act.put, List.setIfInBounds_toArray, List.set_cons_succ, List.set_cons_zero]
    go_wp2_with ((go_at_call 120; refine (Note_any 0 0 zpay _ in0 in0 rfl).mono ?_; rintro e_ x_ ⟨v_, rfl, hown_, hb_⟩))
    exact ⟨rfl, HoldT.step hst hu hb_, hb_, slot_of rfl (owns_mono hown_ hu.up.size)⟩) ?_
  refine sp_op (Ph.ownB w.heap.size BODY) (fun u hu => by
    refine spArg_eq 3 rfl rfl ?_
    refine spArg_eq 2 rfl rfl ?_
    refine spArg_in (φ := Ph.ownB w.heap.size (noteB 0 0 zpay)) 0 rfl rfl ?_; intro v4 h4
    refine spArg_nil ?_
    simp only [Act.put, List.setIfInBounds_toArray, List.set_cons_succ, List.set_cons_zero]
    go_wp2_with ((go_at_call 119; refine (Seal_any K TO (noteB 0 0 zpay) _ _ _ HKL.out (seesB_key (HTo.out.below hu.has) HTL.out) (sees_of_owns h4) (by rw [HTL.out]; decide) (by rw [HNL.out]; decide)).mono ?_; rintro e_ x_ ⟨v_, rfl, hown_, hb_⟩; rw [← HB.out] at hown_))
    exact ⟨rfl, HoldT.step hst hu hb_, hb_, slot_of rfl (owns_mono hown_ hu.up.size)⟩) ?_
  refine sp_end ?_
  intro u hu
  refine spArg_eq 5 rfl rfl ?_
  refine spArg_eq 4 rfl rfl ?_
  refine spArg_eq 3 rfl rfl ?_
  refine spArg_eq 2 rfl rfl ?_
  refine spArg_in (φ := Ph.ownB w.heap.size (noteB 0 0 zpay)) 1 rfl rfl ?_; intro v4 h4
  refine spArg_in (φ := Ph.ownB w.heap.size BODY) 0 rfl rfl ?_; intro v5 h5
  obtain ⟨a5, c5, rfl, -, -⟩ := owns_form h5
  refine spArg_nil ?_
  simp only [Act.put, List.setIfInBounds_toArray, List.set_cons_succ, List.set_cons_zero]
  go_wp2_with (first
    | (refine wpList_build2 rfl 59 0 1 _ _ rfl (.agg (keyA TO)) (.slice a5 BODY.length c5) (.agg (letC TO (.slice a5 BODY.length c5))) rfl rfl (run_buildLet TO _ _ _ HTL.out _) ?_)
    | (refine wpList_store_row rfl 59 _ _ rfl B0 (letC TO (.slice a5 BODY.length c5)) _ _ rfl rfl (HR.out.below hu.has) (by rw [letC_size _ _ HTL.out]; rfl) (by rw [letC_size _ _ HTL.out]; exact info_let) (one_let _ _ _ _) ?_; intro z hgz hsz hRz))
  refine bodyPost_ret (results_cell_row Tryz.results72 _ _ B0 _ _ (0, 0) _ rfl hRz Tryz.underlying59 rfl (by rw [letC_size _ _ HTL.out]; exact info_let)) rfl ?_
  exact ⟨_, rfl, own_grown h5 hgz (RowT.blk (HR.out.below hu.has)) (by decide), ext_row hu.up hgz hB0⟩
theorem info_note34 : (Tryz.prog.info? 79).map (·.size) = some 34 := by kernel_rfl
set_option maxRecDepth 100000 in
set_option maxHeartbeats 2000000 in
theorem Talk_any (secret peer round seq ack : Int) (pay : List UInt8) (w : World) (hs : in64 secret) (hp : in64 peer) (hq : in64 seq) (ha : in64 ack) (hpl : pay.length = 32) :
    Calls Tryz.prog 73 #[.int .u64 secret, .int .u64 peer, .int .i64 round, .agg (noteC seq ack pay)] w (RetLet (nameL peer) (talkB secret peer round seq ack pay) w) := by
  have HNM := Lib.hid (fun W => Name_any peer W hp)
  have HTL := Lib.hid (show (nameL peer).length = 32 from length_nameL _)
  have HBT := Lib.hid (fun W => Between_any secret peer (nameL peer) round W hs hp HTL.out)
  have HKL := Lib.hid (show (betwK secret peer (nameL peer) round).length = 32 from length_keyD _ _)
  have HB := Lib.hid (show talkB secret peer round seq ack pay = sealL (betwK secret peer (nameL peer) round) (nameL peer) (noteB seq ack pay) from rfl)
  have HNT := Lib.hid (fun W => Note_any seq ack pay W hq ha hpl)
  have HNL := Lib.hid (length_noteB seq ack pay hpl)
  have HNC := Lib.hid (noteC_size seq ack pay hpl)
  generalize talkB secret peer round seq ack pay = BODY at *
  generalize betwK secret peer (nameL peer) round = K at *
  generalize nameL peer = TO at *
  generalize noteB seq ack pay = NB at *
  generalize noteC seq ack pay = NC at *
  go_enter Tryz.func73, Tryz.ntmps73
  go_wp2_with (first
    | (refine wpList_boxB rfl 79 _ rfl NC rfl (run_boxNote _ _) ?_; intro xn Bn hhn hBn en)
    | (refine wpList_allocB rfl _ rfl _ run_allocLet ?_; intro x0 B0 hh0 hB0' e0'; have hB0 := Nat.le_trans en.size hB0'; have e0 := Ext.tr en e0'; have hn0 := hhn.below e0')
    | (go_at_call 43; refine (HNM.out _).mono ?_; rintro r y1 ⟨rfl, hb1⟩; have e1 : Ext w y1 := Ext.tr e0 hb1; have hR1 := hh0.below hb1; have hn1 := hn0.below hb1)
    | (refine wpList_store_row rfl 24 (.tmp 9) _ rfl y1.heap.size (keyA TO) _ _ rfl rfl (Blk.new _ _ _) (by rw [keyA_size, HTL.out]; rfl) (by rw [keyA_size, HTL.out]; exact info_key) (keyA_one _) ?_; intro x hg2 hs2 hTo2
       have ex : Ext w x := ext_row (Ext.tr e1 (Ext.alloc _ _)) hg2 e1.size
       have hR2 := (hR1.alloc _).grownBy hg2 (some_ne (Nat.ne_of_lt hR1.lt))
       have hn2 := (hn1.alloc _).grownBy hg2 (some_ne (Nat.ne_of_lt hn1.lt))
       clear hg2 hs2))
  have hst := stabExt x
  have hk : HoldT (fun u => Ext x u) w x.drew := HoldT.drew hst ⟨Ext.refl _, ex⟩
  have HN2 := Lib.hid hn2; have HTo := Lib.hid hTo2; have HR := Lib.hid hR2
  clear hn2 hTo2 hR2
  generalize y1.heap.size = B1 at *
  try change Code.wp _ _ _ (Act.mk _ _) _
  refine wp_region_runR Ext 10 23 (HoldT (fun u => Ext x u) _) [[], [], [], [], [], [(1, 13), (2, 14), (3, 15), (4, 16)], [], [], [(7, 19)], [(5, 17), (6, 18), (8, 20)]] [(0, 12), (1, 13), (2, 14), (3, 15), (4, 16), (5, 17), (6, 18), (7, 19), (8, 20), (9, 21)] (by kernel_rfl) (by kernel_rfl) (by first | rfl | simp) (hk) ?_
  simp only [List.take_succ_cons, List.take_zero, List.drop_succ_cons, List.drop_zero]
  refine sp_op (Ph.eq _) (fun u hu => by
    refine spArg_nil ?_
    go_wp2_with ((refine wpList_load_rowG rfl 24 _ rfl (B1) rfl _ _ (0, 0) _ (HTo.out.below hu.has) Tryz.underlying24 rfl (by rw [keyA_size, HTL.out]; exact info_key) ?_))
    exact ⟨rfl, hu, Ext.refl _, slot_eq rfl⟩) ?_
  refine sp_op (Ph.eq _) (fun u hu => by
    refine spArg_nil ?_
    go_wp2_with (fail)
    exact ⟨rfl, hu, Ext.refl _, slot_eq rfl⟩) ?_
  refine sp_op (Ph.eq _) (fun u hu => by
    refine spArg_nil ?_
    go_wp2_with (fail)
    exact ⟨rfl, hu, Ext.refl _, slot_eq rfl⟩) ?_
  refine sp_op (Ph.eq _) (fun u hu => by
    refine spArg_nil ?_
    go_wp2_with ((refine wpList_load_rowG rfl 24 _ rfl (B1) rfl _ _ (0, 0) _ (HTo.out.below hu.has) Tryz.underlying24 rfl (by rw [keyA_size, HTL.out]; exact info_key) ?_))
    exact ⟨rfl, hu, Ext.refl _, slot_eq rfl⟩) ?_
  refine sp_op (Ph.eq _) (fun u hu => by
    refine spArg_nil ?_
    go_wp2_with (fail)
    exact ⟨rfl, hu, Ext.refl _, slot_eq rfl⟩) ?_
  refine sp_op (Ph.eq _) (fun u hu => by
    refine spArg_eq 3 rfl rfl ?_
    refine spArg_eq 2 rfl rfl ?_
    refine spArg_eq 1 rfl rfl ?_
    refine spArg_eq 0 rfl rfl ?_
    refine spArg_nil ?_
    simp only [Act.put, List.setIfInBounds_toArray, List.set_cons_succ, List.set_cons_zero]
    go_wp2_with ((go_at_call 86; refine (HBT.out _).mono ?_; rintro e_ x_ ⟨rfl, hb_⟩))
    exact ⟨rfl, HoldT.step hst hu hb_, hb_, slot_eq rfl⟩) ?_
  refine sp_op (Ph.eq _) (fun u hu => by
    refine spArg_nil ?_
    go_wp2_with (fail)
    exact ⟨rfl, hu, Ext.refl _, slot_eq rfl⟩) ?_
  refine sp_op (Ph.eq _) (fun u hu => by
    refine spArg_nil ?_
    go_wp2_with ((refine wpList_load_rowG rfl 79 _ rfl (Bn) rfl _ _ (0, 0) _ (HN2.out.below hu.has) Tryz.underlying79 rfl (by rw [HNC.out]; exact info_note34) ?_))
    exact ⟨rfl, hu, Ext.refl _, slot_eq rfl⟩) ?_
  refine sp_op (Ph.ownB w.heap.size (NB)) (fun u hu => by
    refine spArg_eq 0 rfl rfl ?_
    refine spArg_nil ?_
    simp only [Act.put, List.setIfInBounds_toArray, List.set_cons_succ, List.set_cons_zero]
    go_wp2_with ((go_at_call 120; refine (HNT.out _).mono ?_; rintro e_ x_ ⟨v_, rfl, hown_, hb_⟩))
    exact ⟨rfl, HoldT.step hst hu hb_, hb_, slot_of rfl (owns_mono hown_ hu.up.size)⟩) ?_
  refine sp_op (Ph.ownB w.heap.size BODY) (fun u hu => by
    refine spArg_eq 3 rfl rfl ?_
    refine spArg_eq 2 rfl rfl ?_
    refine spArg_in (φ := Ph.ownB w.heap.size (NB)) 0 rfl rfl ?_; intro v8 h8
    refine spArg_nil ?_
    simp only [Act.put, List.setIfInBounds_toArray, List.set_cons_succ, List.set_cons_zero]
    go_wp2_with ((go_at_call 119; refine (Seal_any K TO NB _ _ _ HKL.out (seesB_key (HTo.out.below hu.has) HTL.out) (sees_of_owns h8) (by rw [HTL.out]; decide) (by rw [HNL.out]; decide)).mono ?_; rintro e_ x_ ⟨v_, rfl, hown_, hb_⟩; rw [← HB.out] at hown_))
    exact ⟨rfl, HoldT.step hst hu hb_, hb_, slot_of rfl (owns_mono hown_ hu.up.size)⟩) ?_
  refine sp_end ?_
  intro u hu
  refine spArg_eq 9 rfl rfl ?_
  refine spArg_eq 8 rfl rfl ?_
  refine spArg_eq 7 rfl rfl ?_
  refine spArg_eq 6 rfl rfl ?_
  refine spArg_eq 5 rfl rfl ?_
  refine spArg_eq 4 rfl rfl ?_
  refine spArg_eq 3 rfl rfl ?_
  refine spArg_eq 2 rfl rfl ?_
  refine spArg_in (φ := Ph.ownB w.heap.size (NB)) 1 rfl rfl ?_; intro v8 h8
  refine spArg_in (φ := Ph.ownB w.heap.size BODY) 0 rfl rfl ?_; intro v9 h9
  obtain ⟨a5, c5, rfl, -, -⟩ := owns_form h9
  refine spArg_nil ?_
  simp only [Act.put, List.setIfInBounds_toArray, List.set_cons_succ, List.set_cons_zero]
  go_wp2_with (first
    | (refine wpList_build2 rfl 59 0 1 _ _ rfl (.agg (keyA TO)) (.slice a5 BODY.length c5) (.agg (letC TO (.slice a5 BODY.length c5))) rfl rfl (run_buildLet TO _ _ _ HTL.out _) ?_)
    | (refine wpList_store_row rfl 59 _ _ rfl B0 (letC TO (.slice a5 BODY.length c5)) _ _ rfl rfl (HR.out.below hu.has) (by rw [letC_size _ _ HTL.out]; rfl) (by rw [letC_size _ _ HTL.out]; exact info_let) (one_let _ _ _ _) ?_; intro z hgz hsz hRz))
  refine bodyPost_ret (results_cell_row Tryz.results73 _ _ B0 _ _ (0, 0) _ rfl hRz Tryz.underlying59 rfl (by rw [letC_size _ _ HTL.out]; exact info_let)) rfl ?_
  exact ⟨_, rfl, own_grown h9 hgz (RowT.blk (HR.out.below hu.has)) (by decide), ext_row hu.up hgz hB0⟩
theorem let_to {u : World} {g : Nat} {to : List UInt8} {vb : Value} {t : TypeId} (h : Blk u g (letC to vb) t) (h32 : to.length = 32) : SeesB u (.slice (some ⟨g, 0, none⟩) 32 32) to := by
  refine ⟨by simp, some ⟨g, 0, none⟩, 32, by rw [h32], by omega, by decide, (fun h => nomatch h), fun _ => ⟨g, 0, rfl, fun j v hj => ?_⟩⟩
  have hjl := (List.getElem?_eq_some_iff.1 hj).1
  rw [Nat.zero_add, h.cell, letC, List.getElem?_toArray, List.getElem?_append_left hjl]; exact hj
theorem let_body {u : World} {g : Nat} {to : List UInt8} {vb : Value} {t : TypeId} (h : Blk u g (letC to vb) t) (h32 : to.length = 32) : u.cell? ⟨g, 32, none⟩ = some vb := by
  rw [h.cell, letC, List.getElem?_toArray, List.getElem?_append_right (by simp; omega)]; simp [h32]
theorem run_boxLet (cs : Array Value) (W : World) : (Instr.box 59 (.agg cs)).run Tryz.prog W = .ok (.pointer (some ⟨W.heap.size, 0, none⟩)) (W.alloc (.cells cs 59)) := by
  simp [go_sem]
set_option maxRecDepth 100000 in
set_option maxHeartbeats 2000000 in
theorem Envelope_any (inner y : Int) (to body : List UInt8) (vb : Value) (w : World) (hi : in64 inner) (hy : in64 y) (h32 : to.length = 32) (hv : SeesB w vb body) (hl : body.length ≤ 1000000) :
    Calls Tryz.prog 75 #[.int .u64 inner, .int .u64 y, .agg (letC to vb)] w (RetB (envB inner y to body) w) := by
  have HBS := Lib.hid (fun W => Base_any y W hy.1 hy.2)
  have HBY := Lib.hid (fun W => Bytes_any (timesP 37 y) W (in64_P (timesP_pos 37 y)).1 (in64_P (timesP_pos 37 y)).2)
  have HSD := Lib.hid (fun W => Sealed_any inner y W hi hy)
  have HB := Lib.hid (show envB inner y to body = [put64 (timesP 37 y).toNat, sealL (innerK inner y) [] ([to, body].flatten)].flatten by simp [envB])
  have HKL := Lib.hid (show (innerK inner y).length = 32 from length_keyD _ _)
  have HTL := Lib.hid h32
  have HYL := Lib.hid (length_put64 (timesP 37 y).toNat)
  have HPL := Lib.hid (show [to, body].flatten.length ≤ 2000000 by simp; omega)
  have HZL := Lib.hid (length_sealL' (innerK inner y) [] ([to, body].flatten))
  obtain ⟨PL, hPL⟩ : ∃ PL, [to, body].flatten = PL := ⟨_, rfl⟩
  have HPE := Lib.hid hPL
  rw [hPL] at HB HPL HZL
  clear hPL
  have HV := Lib.hid hv
  generalize envB inner y to body = EB at *
  generalize innerK inner y = K at *
  generalize put64 (timesP 37 y).toNat = PY at *
  generalize timesP 37 y = TY at *
  generalize hZ : sealL K [] PL = Z at *
  have HZ := Lib.hid hZ
  clear hv hZ
  obtain ⟨a0, c0, rfl, -, -⟩ := sees_form HV.out
  go_enter Tryz.func75, Tryz.ntmps75
  go_wp2_with (first
    | (refine wpList_boxB rfl 59 _ rfl (letC to (.slice a0 body.length c0)) rfl (run_boxLet _ _) ?_; intro x Bl hhl hBl ex))
  have hst := stabExt x
  have hk : HoldT (fun u => Ext x u) w x.drew := HoldT.drew hst ⟨Ext.refl _, ex⟩
  have HL := Lib.hid hhl
  clear hhl
  try change Code.wp _ _ _ (Act.mk _ _) _
  refine wp_region_runR Ext 7 24 (HoldT (fun u => Ext x u) _) [[], [(0, 8)], [], [(2, 10)], [(1, 9), (3, 11)], [(4, 12)], [(5, 13)]] [(0, 8), (1, 9), (2, 10), (3, 11), (4, 12), (5, 13), (6, 7)] (by kernel_rfl) (by kernel_rfl) (by first | rfl | simp) (hk) ?_
  simp only [List.take_succ_cons, List.take_zero, List.drop_succ_cons, List.drop_zero]
  refine sp_op (Ph.eq _) (fun u hu => by
    refine spArg_nil ?_
    have hcb := let_body (HL.out.below hu.has) HTL.out
    go_wp2_with (fail)
    exact ⟨rfl, hu, Ext.refl _, slot_eq rfl⟩) ?_
  refine sp_op (Ph.eq _) (fun u hu => by
    refine spArg_eq 0 rfl rfl ?_
    refine spArg_nil ?_
    simp only [Act.put, List.setIfInBounds_toArray, List.set_cons_succ, List.set_cons_zero]
    have hcb := let_body (HL.out.below hu.has) HTL.out
    go_wp2_with (fail)
    exact ⟨rfl, hu, Ext.refl _, slot_eq rfl⟩) ?_
  refine sp_op (Ph.eq _) (fun u hu => by
    refine spArg_nil ?_
    have hcb := let_body (HL.out.below hu.has) HTL.out
    go_wp2_with (fail)
    exact ⟨rfl, hu, Ext.refl _, slot_eq rfl⟩) ?_
  refine sp_op (Ph.eq _) (fun u hu => by
    refine spArg_eq 0 rfl rfl ?_
    refine spArg_nil ?_
    simp only [Act.put, List.setIfInBounds_toArray, List.set_cons_succ, List.set_cons_zero]
    have hcb := let_body (HL.out.below hu.has) HTL.out
    go_wp2_with (fail)
    exact ⟨rfl, hu, Ext.refl _, slot_eq rfl⟩) ?_
  refine sp_op (Ph.seesBB [to, body]) (fun u hu => by
    refine spArg_eq 2 rfl rfl ?_
    refine spArg_eq 0 rfl rfl ?_
    refine spArg_nil ?_
    simp only [Act.put, List.setIfInBounds_toArray, List.set_cons_succ, List.set_cons_zero]
    have hcb := let_body (HL.out.below hu.has) HTL.out
    go_wp2_with (fail)
    exact ⟨rfl, HoldT.alloc hst hu _, Ext.alloc _ _, slot_of rfl (seesBB_2 _ (let_to (HL.out.below hu.has) HTL.out) (HV.out.below hu.up (by decide)))⟩) ?_
  refine sp_op (Ph.ownB w.heap.size PL) (fun u hu => by
    refine spArg_in (φ := Ph.seesBB [to, body]) 0 rfl rfl ?_; intro v4 h4
    refine spArg_nil ?_
    simp only [Act.put, List.setIfInBounds_toArray, List.set_cons_succ, List.set_cons_zero]
    have hcb := let_body (HL.out.below hu.has) HTL.out
    go_wp2_with ((go_at_call 121; refine (Concat_any [to, body] _ _ h4 (by rw [HPE.out]; have := HPL.out; omega)).mono ?_; rintro e_ x_ ⟨v_, rfl, hown_, hb_⟩; rw [HPE.out] at hown_))
    exact ⟨rfl, HoldT.step hst hu hb_, hb_, slot_of rfl (owns_mono hown_ hu.up.size)⟩) ?_
  refine sp_op (Ph.ownB w.heap.size PL) (fun u hu => by
    refine spArg_in (φ := Ph.ownB w.heap.size PL) 0 rfl rfl ?_; intro v5 h5
    refine spArg_nil ?_
    simp only [Act.put, List.setIfInBounds_toArray, List.set_cons_succ, List.set_cons_zero]
    have hcb := let_body (HL.out.below hu.has) HTL.out
    go_wp2_with (fail)
    exact ⟨rfl, hu, Ext.refl _, slot_of rfl h5⟩) ?_
  refine sp_end ?_
  intro u hu
  refine spArg_eq 6 rfl rfl ?_
  refine spArg_eq 5 rfl rfl ?_
  refine spArg_eq 4 rfl rfl ?_
  refine spArg_eq 3 rfl rfl ?_
  refine spArg_in (φ := Ph.seesBB [to, body]) 2 rfl rfl ?_; intro v4 h4
  refine spArg_in (φ := Ph.ownB w.heap.size PL) 1 rfl rfl ?_; intro v5 h5
  refine spArg_in (φ := Ph.ownB w.heap.size PL) 0 rfl rfl ?_; intro v6 h6
  obtain ⟨a6, c6, rfl, -, -⟩ := owns_form h6
  refine spArg_nil ?_
  simp only [Act.put, List.setIfInBounds_toArray, List.set_cons_succ, List.set_cons_zero]
  have hup := hu.up
  go_wp2_with (first
    | (go_at_call 79; refine (HBS.out _).mono ?_; rintro r y0 ⟨rfl, hy0⟩; subst y0)
    | (go_at_call 69; refine (HBY.out _).mono ?_; rintro r y1 ⟨v1, rfl, hown1, hb1⟩; obtain ⟨a1, c1, rfl, -, -⟩ := owns_form hown1
       have e1 : Ext w y1 := Ext.tr hup hb1
       have hp1 := owns_below h6 hb1)
    | (go_at_call 122; refine (HSD.out _).mono ?_; rintro r y2 ⟨rfl, hb2⟩; have e2 : Ext w y2 := Ext.tr e1 hb2; have hp2 := owns_below hp1 hb2; have ho2 := owns_below hown1 hb2)
    | (go_at_call 119; refine (Seal_any K [] PL _ _ _ HKL.out (Sees.nil _ _) (sees_of_owns hp2) (by simp) (by have := HPL.out; omega)).mono ?_; rintro r y3 ⟨v3, rfl, hown3, hb3⟩; rw [HZ.out] at hown3; obtain ⟨a3, c3, rfl, -, -⟩ := owns_form hown3; have e3 : Ext w y3 := Ext.tr e2 hb3; have ho3 := owns_below ho2 hb3)
    | (go_at_call 121; refine (Concat_any [PY, Z] _ _ (seesBB_2 _ (sees_of_owns ho3) (sees_of_owns hown3)) (by have h1 := HYL.out; have h2 := HZL.out; have h3 := HPL.out; simp; omega)).mono ?_; rintro r y4 ⟨v4, rfl, hown4, hb4⟩; have e4 : Ext w y4 := Ext.tr e3 (Ext.tr (Ext.alloc _ _) hb4)))
  go_ret
  rw [HB.out]
  exact RetB.mk (owns_mono hown4 (Ext.tr e3 (Ext.alloc _ _)).size) e4
end Go.Proofs.YtbgnfioggmkdeaaGreatDoor
