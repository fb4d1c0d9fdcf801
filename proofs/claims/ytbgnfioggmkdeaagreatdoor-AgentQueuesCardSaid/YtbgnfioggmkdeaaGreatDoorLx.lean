/-
  Two users who talk: the plain law of what they say, lose and take.
  Bytes put together: the library's Grow and Concat.
  Chains of a user's set: the program.
  Maps by keys of 32 bytes, of at most one entry: looked into, written.
-/
import Derived.Test.YtbgnfioggmkdeaaGreatDoorPa
import Derived.Test.YtbgnfioggmkdeaaGreatDoorUtl
import Derived.Lib.AppendZeros
import Derived.Test.YtbgnfioggmkdeaaGreatDoorInts
import Derived.Test.YtbgnfioggmkdeaaGreatDoorSub
import Derived.MapKept
namespace Go.Proofs.YtbgnfioggmkdeaaGreatDoor
set_option linter.unusedVariables false
set_option linter.unusedSimpArgs false
open Go Go.RowKit

structure NoteL where
  seq : Nat
  ack : Nat
  pay : List UInt8
structure PeerL where
  pub : Int
  said : List (List UInt8)
  took : Nat
  sent : Nat
  ahead : Nat
  round : Int
  taken : Nat
def zpay : List UInt8 := List.replicate 32 0
/-- How far is sent at the next Send. -/
def PeerL.from (p : PeerL) : Nat := max p.sent p.took
def PeerL.sends (p : PeerL) (r : Int) : PeerL := ⟨p.pub, p.said, p.took, if p.from < p.said.length then p.from + 1 else p.from, p.from, r, p.taken⟩
def PeerL.note (p : PeerL) : NoteL := if p.from < p.said.length then ⟨p.from + 1, p.taken, p.said.getD p.from zpay⟩ else ⟨0, p.taken, zpay⟩
def PeerL.ack1 (p : PeerL) (ack : Nat) : PeerL := if p.took < ack ∧ ack ≤ p.said.length then ⟨p.pub, p.said, ack, p.sent, p.ahead, p.round, p.taken⟩ else p
def PeerL.ack2 (p : PeerL) (r : Int) (ack : Nat) : PeerL := if r = p.round ∧ p.round ≠ -1 ∧ ack < p.ahead then ⟨p.pub, p.said, p.took, p.took, p.ahead, p.round, p.taken⟩ else p
def PeerL.acked (p : PeerL) (r : Int) (ack : Nat) : PeerL := (p.ack1 ack).ack2 r ack
def PeerL.takes (p : PeerL) (n : NoteL) : PeerL := if n.seq = p.taken + 1 then ⟨p.pub, p.said, p.took, p.sent, p.ahead, p.round, p.taken + 1⟩ else p
def PeerL.gets (p : PeerL) (g : List (List UInt8)) (n : NoteL) : List (List UInt8) := if n.seq = p.taken + 1 then g ++ [n.pay] else g
/-- A round at one side: it sends, and takes what came, if it came. -/
def PeerL.turn (p : PeerL) (r : Int) (n : NoteL) (came : Bool) : PeerL := if came then ((p.sends r).acked r n.ack).takes n else p.sends r
def PeerL.turnG (p : PeerL) (r : Int) (g : List (List UInt8)) (n : NoteL) (came : Bool) : List (List UInt8) := if came then ((p.sends r).acked r n.ack).gets g n else g

theorem acked_taken (p : PeerL) (r : Int) (a : Nat) : (p.acked r a).taken = p.taken := by unfold PeerL.acked PeerL.ack2 PeerL.ack1; split <;> split <;> rfl
theorem acked_said (p : PeerL) (r : Int) (a : Nat) : (p.acked r a).said = p.said := by unfold PeerL.acked PeerL.ack2 PeerL.ack1; split <;> split <;> rfl
theorem acked_pub (p : PeerL) (r : Int) (a : Nat) : (p.acked r a).pub = p.pub := by unfold PeerL.acked PeerL.ack2 PeerL.ack1; split <;> split <;> rfl
theorem takes_sent (p : PeerL) (n : NoteL) : (p.takes n).sent = p.sent := by unfold PeerL.takes; split <;> rfl
theorem takes_took (p : PeerL) (n : NoteL) : (p.takes n).took = p.took := by unfold PeerL.takes; split <;> rfl
theorem takes_said (p : PeerL) (n : NoteL) : (p.takes n).said = p.said := by unfold PeerL.takes; split <;> rfl
theorem takes_pub (p : PeerL) (n : NoteL) : (p.takes n).pub = p.pub := by unfold PeerL.takes; split <;> rfl
theorem turn_said (p : PeerL) (r : Int) (n : NoteL) (b : Bool) : (p.turn r n b).said = p.said := by
  unfold PeerL.turn; split
  · rw [takes_said, acked_said]; rfl
  · rfl
theorem turn_pub (p : PeerL) (r : Int) (n : NoteL) (b : Bool) : (p.turn r n b).pub = p.pub := by
  unfold PeerL.turn; split
  · rw [takes_pub, acked_pub]; rfl
  · rfl
theorem note_ack (p : PeerL) : p.note.ack = p.taken := by unfold PeerL.note; split <;> rfl
/-- What Y took of what X said. -/
structure Lnk (X Y : PeerL) (gy : List (List UInt8)) : Prop where
  le1 : X.took ≤ Y.taken
  le2 : Y.taken ≤ X.said.length
  le3 : X.sent ≤ X.said.length
  le4 : Y.taken ≤ X.from
  got : gy = X.said.take Y.taken
def Syn (X Y : PeerL) : Prop := X.from = Y.taken
theorem take_snocD {α : Type} (l : List α) (k : Nat) (d : α) (h : k < l.length) : l.take k ++ [l.getD k d] = l.take (k + 1) := by
  rw [List.take_add_one, List.getD_eq_getElem?_getD, List.getElem?_eq_getElem h]; rfl
/-- The one's side. -/
theorem side_send (X : PeerL) (r : Int) (n : NoteL) (b : Bool) (t : Nat) (ht : n.ack = t) (h1 : X.took ≤ t) (h2 : t ≤ X.said.length) (h4 : t ≤ X.from) (hr : r ≠ -1) :
    (X.turn r n b).took = (if b then t else X.took) ∧ (X.turn r n b).sent = (if b ∧ t < X.from then t else if X.from < X.said.length then X.from + 1 else X.from) := by
  cases b
  · exact ⟨rfl, by simp [PeerL.turn, PeerL.sends]⟩
  · unfold PeerL.turn
    rw [if_pos rfl, takes_took, takes_sent, ht]
    unfold PeerL.acked
    by_cases ha : X.took < t
    · have e1 : (X.sends r).ack1 t = ⟨X.pub, X.said, t, if X.from < X.said.length then X.from + 1 else X.from, X.from, r, X.taken⟩ := by
        unfold PeerL.ack1; rw [if_pos ⟨ha, h2⟩]; rfl
      rw [e1]
      unfold PeerL.ack2
      by_cases hb : t < X.from
      · rw [if_pos ⟨rfl, hr, hb⟩]; simp [hb]
      · rw [if_neg (fun h => hb h.2.2)]; simp [hb]
    · have hte : X.took = t := by omega
      have e1 : (X.sends r).ack1 t = X.sends r := by
        unfold PeerL.ack1; rw [if_neg (fun h => ha h.1)]
      rw [e1]
      unfold PeerL.ack2
      by_cases hb : t < X.from
      · rw [if_pos ⟨rfl, hr, hb⟩]; simp [hb, PeerL.sends, hte]
      · rw [if_neg (fun h => hb h.2.2)]; simp [hb, PeerL.sends, hte]
/-- The other's side. -/
theorem side_take (Y : PeerL) (r : Int) (X : PeerL) (b : Bool) (gy : List (List UInt8)) (h2 : Y.taken ≤ X.said.length) (h4 : Y.taken ≤ X.from) (hg : gy = X.said.take Y.taken) :
    (Y.turn r X.note b).taken = (if b ∧ X.from = Y.taken ∧ X.from < X.said.length then Y.taken + 1 else Y.taken) ∧ Y.turnG r gy X.note b = X.said.take (Y.turn r X.note b).taken := by
  cases b
  · exact ⟨by simp [PeerL.turn, PeerL.sends], by simp [PeerL.turn, PeerL.turnG, PeerL.sends, hg]⟩
  · unfold PeerL.turn PeerL.turnG
    rw [if_pos rfl, if_pos rfl]
    have ht : ((Y.sends r).acked r X.note.ack).taken = Y.taken := by rw [acked_taken]; rfl
    generalize (Y.sends r).acked r X.note.ack = Z at *
    unfold PeerL.takes PeerL.gets
    rw [ht]
    unfold PeerL.note
    by_cases hl : X.from < X.said.length
    · simp only [if_pos hl]
      by_cases he : X.from = Y.taken
      · have h1 : X.from + 1 = Y.taken + 1 := by omega
        rw [if_pos h1, if_pos h1]
        refine ⟨by simp [he, show Y.taken < X.said.length from by omega], ?_⟩
        rw [hg, he, take_snocD _ _ _ (by omega)]
      · have h1 : ¬ X.from + 1 = Y.taken + 1 := by omega
        rw [if_neg h1, if_neg h1, ht]
        exact ⟨by simp [he], hg⟩
    · simp only [if_neg hl]
      have h1 : ¬ 0 = Y.taken + 1 := by omega
      rw [if_neg h1, if_neg h1, ht]
      exact ⟨by simp [hl], hg⟩
/-- One direction of one round: b1: what X sent came, b2: what Y sent came. -/
theorem dir_turn (X Y : PeerL) (gy : List (List UInt8)) (r : Int) (nY : NoteL) (b1 b2 : Bool) (hn : nY.ack = Y.taken) (hr : r ≠ -1) (h : Lnk X Y gy) :
    Lnk (X.turn r nY b2) (Y.turn r X.note b1) (Y.turnG r gy X.note b1) ∧
    (b1 = true → b2 = true → Syn (X.turn r nY b2) (Y.turn r X.note b1) ∧ (Syn X Y → (Y.turn r X.note b1).taken = min (Y.taken + 1) X.said.length)) := by
  obtain ⟨h1, h2, h3, h4, hg⟩ := h
  obtain ⟨s1, s2⟩ := side_send X r nY b2 Y.taken hn h1 h2 h4 hr
  obtain ⟨t1, t2⟩ := side_take Y r X b1 gy h2 h4 hg
  have hs := turn_said X r nY b2
  have hf : X.from ≤ X.said.length := by unfold PeerL.from; omega
  have hfd : (X.turn r nY b2).from = max (X.turn r nY b2).sent (X.turn r nY b2).took := rfl
  have hS : Lnk (X.turn r nY b2) (Y.turn r X.note b1) (Y.turnG r gy X.note b1) := by
    refine ⟨?_, ?_, ?_, ?_, ?_⟩
    · rw [s1, t1]; split <;> split <;> omega
    · rw [hs, t1]; split <;> omega
    · rw [s2, hs]; split
      · omega
      · split <;> omega
    · rw [hfd, s1, s2, t1]
      clear s1 s2 t1 hfd hs t2
      cases b1 <;> cases b2 <;> simp only [Bool.false_eq_true, false_and, if_false, true_and, if_true] <;> (repeat' split) <;> omega
    · rw [t2, hs]
  refine ⟨hS, fun e1 e2 => ?_⟩
  subst e1; subst e2
  unfold Syn
  rw [hfd, s1, s2, t1]
  refine ⟨?_, fun hy => ?_⟩
  · simp only [true_and, if_true] ; (repeat' split) <;> omega
  · have hy : X.from = Y.taken := hy
    rw [hy]; by_cases c4 : Y.taken < X.said.length <;> simp [c4] <;> omega
def peer0 (pub : Int) (said : List (List UInt8)) : PeerL := ⟨pub, said, 0, 0, 0, -1, 0⟩
theorem lnk0 (p q : Int) (s t : List (List UInt8)) : Lnk (peer0 p s) (peer0 q t) [] := ⟨Nat.le_refl _, Nat.zero_le _, Nat.zero_le _, Nat.zero_le _, rfl⟩
theorem syn0 (p q : Int) (s t : List (List UInt8)) : Syn (peer0 p s) (peer0 q t) := rfl
end Go.Proofs.YtbgnfioggmkdeaaGreatDoor
namespace Go.Proofs.YtbgnfioggmkdeaaGreatDoor
set_option linter.unusedVariables false
set_option linter.unusedSimpArgs false
open Go Go.RowKit

theorem zeroCells_size (z : Array Value) (n : Nat) : (Builtin.zeroCells z n).size = n * z.size := by
  unfold Builtin.zeroCells; simp
set_option maxRecDepth 100000 in
set_option maxHeartbeats 1000000 in
theorem Grow_any (n : Nat) (w : World) (hn : n ≤ 70368744177000) :
    Calls Tryz.prog 167 #[.slice none 0 0, .int .i64 n] w fun e w' => ∃ v, e = .returned v ∧ OwnB w' w.heap.size v [] ∧ Below w.heap.size w w' := by
  obtain ⟨i, hi, hz, hsize, hby⟩ := info_parts info_u8
  by_cases h0 : 0 < n
  · have h1 := Lib.hid fun W => Lib.run_append_nil_zeros (P := Tryz.prog) W 44 3 44 5 i (.int .u8 0) .i64 .i64 Tryz.underlying44 Tryz.underlying3 hi hz n h0 (by rw [hsize]; decide) (by omega) (by rw [hby]; omega)
    have hge := grownCap_ge w n 0 5
    have hle := grownCap_le_maxLen w n 0 5 (by unfold maxLen; omega)
    go_enter Tryz.func167, Tryz.ntmps167
    go_wp2_with (at_builtin; refine Lib.wpList_append_run _ rfl _ _ _ _ rfl _ _ rfl rfl _ _ (h1.out _) ?_)
    go_ret
    generalize grownCap w n 0 5 = c at *
    have hsz : (Builtin.zeroCells #[Value.int IntKind.u8 0] n ++ Builtin.zeroCells #[Value.int IntKind.u8 0] (c - n)).size = c := by
      rw [Array.size_append, zeroCells_size, zeroCells_size]; simp; omega
    generalize Builtin.zeroCells #[Value.int IntKind.u8 0] n ++ Builtin.zeroCells #[Value.int IntKind.u8 0] (c - n) = cs at *
    exact ⟨_, rfl, ⟨rfl, .inr ⟨w.heap.size, c, cs, rfl, Nat.le_refl _, heap_alloc_new w _, Nat.zero_le _, hle, by rw [hsz, Nat.mul_one], by simp⟩⟩, Below.drew (by go_grown)⟩
  · obtain rfl : n = 0 := by omega
    go_enter Tryz.func167, Tryz.ntmps167
    go_wp2_with fail
    go_ret
    exact ⟨_, rfl, World.ownsRow_nil _ _ _ _, Below.refl _ _⟩
theorem flat_take {ll : List (List UInt8)} {k : Nat} (h : k < ll.length) : (ll.take (k + 1)).flatten = (ll.take k).flatten ++ ll[k] := by
  rw [List.take_succ_eq_append_getElem h, List.flatten_append, List.flatten_cons, List.flatten_nil, List.append_nil]
theorem flat_take_le (ll : List (List UInt8)) (k : Nat) : ((ll.take k).flatten).length ≤ ll.flatten.length := by
  conv => rhs; rw [← List.take_append_drop k ll]
  rw [List.flatten_append, List.length_append]; omega
def SizRel (w : World) (ll : List (List UInt8)) (s i : Value) (wr : World) : Prop := ∃ k : Nat, k ≤ ll.length ∧ i = .int .i64 k ∧ s = .int .i64 ((ll.take k).flatten.length : Nat) ∧ wr = w
def CatRel (w : World) (ll : List (List UInt8)) (v i : Value) (wr : World) : Prop := ∃ k : Nat, k ≤ ll.length ∧ i = .int .i64 k ∧ OwnB wr w.heap.size v (ll.take k).flatten ∧ Below w.heap.size w wr
set_option maxRecDepth 100000 in
set_option maxHeartbeats 1000000 in
theorem Concat_any (ll : List (List UInt8)) (v : Value) (w : World) (hv : SeesBB w v ll) (hl : ll.flatten.length ≤ 70368744177000) :
    Calls Tryz.prog 121 #[v] w (RetB ll.flatten w) := by
  have HV := Lib.hid hv
  obtain ⟨vs, hvs, hel⟩ := hv
  obtain ⟨a0, c0, rfl, hac0, hc0⟩ := sees_form hvs
  have HE := Lib.hid hel; clear hel
  have HG := Lib.hid (Grow_any ll.flatten.length w hl)
  have hvl : vs.length = ll.length := by have := hvs.1; omega
  go_enter Tryz.func121, Tryz.ntmps121
  go_wp2_with fail
  go_loopw [3, 5, 11] (fun s _ i wr => SizRel w ll s i wr) (fun _ _ i _ => ll.length - (intOf i).toNat)
  case atStart => exact ⟨0, by omega, rfl, rfl, rfl⟩
  case round =>
    obtain ⟨k, hk, rfl, rfl, hw⟩ := hrel
    have hw := hw.symm
    subst hw
    by_cases hlt : k < ll.length
    · have hbel := Below.refl w.heap.size w
      obtain ⟨hl1, a1, c1, he1, hn1, hm1, hnc1, hcellx⟩ := hvs.below hbel (by decide)
      cases he1
      obtain ⟨b, o, rfl, hcell⟩ := hcellx (by omega)
      clear hcellx
      have hx : vs[k]? = some (vs[k]'(by omega)) := List.getElem?_eq_getElem _
      have hcx := hcell k _ hx
      have hsx := (HE.out k (ll[k]) _ (List.getElem?_eq_getElem hlt) hx).below hbel (by decide)
      clear hcell
      have HX := Lib.hid hx; clear hx
      generalize vs[k]'(by omega) = vx at hcx hsx
      obtain ⟨ax, cx, rfl, hacx, hcx2⟩ := sees_form hsx
      have HSN := Lib.hid (flat_take hlt)
      have hle := flat_take_le ll (k + 1)
      rw [HSN.out, List.length_append] at hle
      have hl1 : (ll.take k).flatten.length + ll[k].length ≤ 70368744177000 := by omega
      generalize HS : (ll.take k).flatten.length = S at *
      go_wp2_with fail
      go_roundw
      case rel => exact ⟨k + 1, by omega, by go_num, by rw [HSN.out, List.length_append]; simp [HS], rfl⟩
      case measure => simp [intOf]; omega
    · obtain rfl : k = ll.length := by omega
      rw [List.take_length]
      obtain ⟨N, hN0⟩ : ∃ N, N = ll.flatten.length := ⟨_, rfl⟩
      rw [← hN0] at HG ⊢
      have HN := Lib.hid hN0
      clear hN0
      go_wp2_with (first
        | (go_at_call 167; refine HG.out.mono ?_; rintro e w1 ⟨v1, rfl, hown1, hb1⟩; obtain ⟨a1, c1, rfl, -, -⟩ := owns_form hown1))
      go_loopw [6, 8, 27] (fun v _ i wr => CatRel w ll v i wr) (fun _ _ i _ => ll.length - (intOf i).toNat)
      case atStart => exact ⟨0, by omega, rfl, by rw [List.take_zero]; exact hown1, hb1⟩
      case round =>
        clear hown1 hb1
        obtain ⟨k, hk, rfl, hown, hbel⟩ := hrel
        obtain ⟨a6, c6, rfl, -, -⟩ := owns_form hown
        by_cases hlt : k < ll.length
        · skip
          obtain ⟨hl1, a1, c1, he1, hn1, hm1, hnc1, hcellx⟩ := hvs.below hbel (by decide)
          cases he1
          obtain ⟨b, o, rfl, hcell⟩ := hcellx (by omega)
          clear hcellx
          have hx : vs[k]? = some (vs[k]'(by omega)) := List.getElem?_eq_getElem _
          have hcx := hcell k _ hx
          have hsx := (HE.out k (ll[k]) _ (List.getElem?_eq_getElem hlt) hx).below hbel (by decide)
          clear hcell
          have HX := Lib.hid hx; clear hx
          generalize vs[k]'(by omega) = vx at hcx hsx
          obtain ⟨ax, cx, rfl, hacx, hcx2⟩ := sees_form hsx
          have HSN := Lib.hid (flat_take hlt)
          have hle := flat_take_le ll (k + 1)
          rw [HSN.out, List.length_append] at hle
          have hl1 : (ll.take k).flatten.length + ll[k].length ≤ 70368744177000 := by omega
          go_wp2_with (at_builtin; refine appB (W := w) rfl _ _ rfl _ _ rfl hown _ (ll[k]) rfl hsx (by omega) hbel ?_; intro v7 w7 hown7 hgr7 hb7)
          go_roundw
          case rel => exact ⟨k + 1, by omega, by go_num, by rw [HSN.out]; exact hown7, hb7⟩
          case measure => simp [intOf]; omega
        · obtain rfl : k = ll.length := by omega
          rw [List.take_length] at *
          go_wp2_with fail
          go_ret
          exact RetB.mk hown hbel
end Go.Proofs.YtbgnfioggmkdeaaGreatDoor
namespace Go.Proofs.YtbgnfioggmkdeaaGreatDoor
set_option linter.unusedVariables false
set_option linter.unusedSimpArgs false
open Go Go.RowKit

/-- How many chains a set has: the least l with l (l + 1) / 2 at least n. -/
def sidesF : Nat → Nat → Nat → Nat
  | 0, l, _ => l
  | f + 1, l, n => if l * (l + 1) / 2 < n then sidesF f (l + 1) n else l
def sidesN (n : Nat) : Nat := sidesF n 1 n
def triN (l : Nat) : Nat := l * (l + 1) / 2
theorem triN_succ (l : Nat) : triN (l + 1) = triN l + (l + 1) := by
  unfold triN
  have h : l * (l + 1) % 2 = 0 := by
    rcases Nat.mod_two_eq_zero_or_one l with h | h
    · rw [Nat.mul_mod, h]; simp
    · rw [Nat.mul_mod, Nat.add_mod, h]
  have e : (l + 1) * (l + 1 + 1) = l * (l + 1) + 2 * (l + 1) := by rw [show l + 1 + 1 = l + 2 from rfl, Nat.mul_add, Nat.mul_comm (l + 1) l, Nat.mul_comm (l + 1) 2]
  rw [e]; omega
theorem triN_ge (l : Nat) : l ≤ triN l := by
  induction l with
  | zero => exact Nat.zero_le _
  | succ l ih => rw [triN_succ]; omega
theorem sidesF_spec (n : Nat) : ∀ (f l : Nat), n ≤ l + f → (∀ k, k < l → 1 ≤ k → triN k < n) → n ≤ triN (sidesF f l n) ∧ (∀ k, k < sidesF f l n → 1 ≤ k → triN k < n) ∧ l ≤ sidesF f l n
  | 0, l, h, hk => ⟨by have := triN_ge l; simp only [sidesF]; omega, hk, Nat.le_refl _⟩
  | f + 1, l, h, hk => by
    unfold sidesF
    by_cases hc : l * (l + 1) / 2 < n
    · rw [if_pos hc]
      obtain ⟨h1, h2, h3⟩ := sidesF_spec n f (l + 1) (by omega) (fun k hk1 hk2 => by
        by_cases e : k = l
        · subst e; exact hc
        · exact hk k (by omega) hk2)
      exact ⟨h1, h2, by omega⟩
    · rw [if_neg hc]
      exact ⟨by show n ≤ l * (l + 1) / 2; omega, hk, Nat.le_refl _⟩
theorem sides_spec (n : Nat) : n ≤ triN (sidesN n) ∧ (∀ k, k < sidesN n → 1 ≤ k → triN k < n) ∧ 1 ≤ sidesN n := sidesF_spec n n 1 (by omega) (fun k h1 h2 => by omega)
theorem sides_le {n : Nat} (h : 1 ≤ n) : sidesN n ≤ n := by
  obtain ⟨h1, h2, h3⟩ := sides_spec n
  by_cases hc : sidesN n ≤ n
  · exact hc
  · have := h2 n (by omega) h
    have := triN_ge n
    omega
/-- Where the search begins it has not passed the end. -/
theorem sides_start {n r : Nat} (h : r * r ≤ 8 * n + 1) (hr : 1 ≤ r) : (r - 1) / 2 ≤ sidesN n := by
  obtain ⟨h1, h2, h3⟩ := sides_spec n
  by_cases hc : (r - 1) / 2 ≤ sidesN n
  · exact hc
  · exfalso
    obtain ⟨s, hs⟩ : ∃ s, sidesN n = s := ⟨_, rfl⟩
    rw [hs] at h1 hc
    have hr2 : 2 * s + 3 ≤ r := by omega
    have h4 : (2 * s + 3) * (2 * s + 3) ≤ 8 * n + 1 := Nat.le_trans (Nat.mul_le_mul hr2 hr2) h
    have e : (2 * s + 3) * (2 * s + 3) = 4 * (s * s) + 12 * s + 9 := by
      rw [Nat.mul_add, Nat.add_mul, Nat.add_mul]
      have : 2 * s * (2 * s) = 4 * (s * s) := by rw [Nat.mul_mul_mul_comm]
      omega
    have e2 : 2 * triN s = s * (s + 1) := by
      unfold triN
      have h : s * (s + 1) % 2 = 0 := by
        rcases Nat.mod_two_eq_zero_or_one s with h | h
        · rw [Nat.mul_mod, h]; simp
        · rw [Nat.mul_mod, Nat.add_mod, h]
      omega
    have e3 : s * (s + 1) = s * s + s := by rw [Nat.mul_add, Nat.mul_one]
    omega

set_option maxRecDepth 100000 in
theorem SRight_any (n : Int) (w : World) : Calls Tryz.prog 156 #[.int .i64 n] w fun e w' => e = .returned (.bool (decide (1 ≤ n ∧ n ≤ 1048576))) ∧ w' = w := by
  go_enter Tryz.func156, Tryz.ntmps156
  by_cases h1 : 1 ≤ n
  · by_cases h2 : n ≤ 1048576
    · go_wp2_with fail
      go_ret
      exact ⟨by simp [h1, h2], rfl⟩
    · go_wp2_with fail
      go_ret
      exact ⟨by simp [h2], rfl⟩
  · go_wp2_with fail
    go_ret
    exact ⟨by simp; omega, rfl⟩
def RootRel (m : Nat) (w : World) (x b : Value) (wr : World) : Prop := ∃ X B : Nat, x = .int .i64 X ∧ b = .int .i64 B ∧ X * X ≤ m ∧ B ≤ 2147483648 ∧ wr = w
set_option maxRecDepth 100000 in
set_option maxHeartbeats 1000000 in
theorem Root_any (m : Nat) (w : World) (hm1 : 1 ≤ m) (hm : m ≤ 1000000000) : Calls Tryz.prog 186 #[.int .i64 m] w fun e w' => ∃ r : Nat, e = .returned (.int .i64 r) ∧ r * r ≤ m ∧ w' = w := by
  go_enter Tryz.func186, Tryz.ntmps186
  go_wp2_with fail
  go_loopw [3, 4, 5] (fun x b _ wr => RootRel m w x b wr) (fun _ b _ _ => (intOf b).toNat)
  case atStart => exact ⟨0, 2147483648, rfl, rfl, by omega, Nat.le_refl _, rfl⟩
  case round =>
    obtain ⟨X, B, rfl, rfl, hX, hB, rfl⟩ := hrel
    have hXm : X ≤ 100000 := by
      by_cases h : X ≤ 100000
      · exact h
      · have := Nat.mul_le_mul (show 100001 ≤ X by omega) (show 100001 ≤ X by omega); omega
    by_cases h0 : 0 < B
    · have hw : wrap64 ((m : Int) / ((X : Int) + (B : Int))) = ((m / (X + B) : Nat) : Int) := by
        have h1 : ((m / (X + B) : Nat) : Int) = (m : Int) / ((X : Int) + (B : Int)) := by simp
        have h2 : m / (X + B) ≤ m := Nat.div_le_self _ _
        rw [← h1]
        clear h1
        generalize m / (X + B) = q at *
        unfold wrap64
        omega
      have HW := Lib.hid hw
      clear hw
      go_wp2_with fail
      case roundEnd =>
        rename_i hq
        rw [HW.out] at hq
        have hy := (Nat.le_div_iff_mul_le (show 0 < X + B by omega)).1 (show X + B ≤ m / (X + B) by omega)
        exact ⟨⟨X + B, B / 2, by rw [Int.natCast_add], by simp, hy, by omega, rfl⟩, by simp [intOf]; omega⟩
      case roundEnd =>
        exact ⟨⟨X, B / 2, rfl, by simp, hX, by omega, rfl⟩, by simp [intOf]; omega⟩
    · go_wp2_with fail
      go_ret
      exact ⟨X, rfl, hX, rfl⟩
def SidRel (n : Nat) (w : World) (l : Value) (wr : World) : Prop := ∃ L : Nat, l = .int .i64 L ∧ 1 ≤ L ∧ L ≤ sidesN n ∧ wr = w
set_option maxRecDepth 100000 in
set_option maxHeartbeats 1000000 in
theorem Sides_any (n : Nat) (w : World) (h1 : 1 ≤ n) (h2 : n ≤ 1000000) : Calls Tryz.prog 159 #[.int .i64 n] w fun e w' => e = .returned (.int .i64 (sidesN n)) ∧ w' = w := by
  have HR := Lib.hid (SRight_any (n : Int) w)
  have HD := Lib.hid (show decide (1 ≤ (n : Int) ∧ (n : Int) ≤ 1048576) = true by simp; omega)
  have HT := Lib.hid (Root_any (8 * n + 1) w (by omega) (by omega))
  have HS := Lib.hid (sides_spec n)
  have hsl := sides_le h1
  have HST := Lib.hid (fun (r : Nat) (h : r * r ≤ 8 * n + 1) (hr : 1 ≤ r) => sides_start h hr)
  have HT3 := Lib.hid (show ((8 * n + 1 : Nat) : Int) = 8 * (n : Int) + 1 by omega)
  go_enter Tryz.func159, Tryz.ntmps159
  go_wp2_with (first
    | (go_at_call 156; refine HR.out.mono ?_; rintro e w' ⟨rfl, rfl⟩; rw [HD.out])
    | (go_at_call 186; rw [← HT3.out]; refine HT.out.mono ?_; rintro e w' ⟨r, rfl, hr, rfl⟩; have hrb : r ≤ 10000000 := (by
         by_cases h : r ≤ 10000000
         · exact h
         · have := Nat.mul_le_mul (show 10000001 ≤ r by omega) (show 10000001 ≤ r by omega); omega)))
  · have ht : ((r : Int) - 1).tdiv 2 = (((r - 1) / 2 : Nat) : Int) := by
      have hr1 : 1 ≤ r := by
        by_cases hc : 1 ≤ r
        · exact hc
        · obtain rfl : r = 0 := by omega
          simp at h
      rw [show (r : Int) - 1 = ((r - 1 : Nat) : Int) from by omega, Int.tdiv_eq_ediv_of_nonneg (by omega)]; simp
    have hb := HST.out r hr (by
      by_cases hc : 1 ≤ r
      · exact hc
      · obtain rfl : r = 0 := by omega
        simp at h)
    rw [ht] at h
    simp only [ht]
    generalize (r - 1) / 2 = L0 at *
    have hst := Lib.hid (show SidRel n w' (.int .i64 (L0 : Int)) w' from ⟨L0, rfl, by omega, hb, rfl⟩)
    clear HR HT hr hrb h HST
    go_loopw [3] (fun l wr => SidRel n w' l wr) (fun l _ => sidesN n - (intOf l).toNat)
    case atStart => exact hst.out
    case round =>
      clear hst
      obtain ⟨L, rfl, hL1, hL2, rfl⟩ := hrel
      have hm : L ≤ 1000000 := by omega
      have hq : ((L : Int) * ((L : Int) + 1)).tdiv 2 = ((triN L : Nat) : Int) := by
        unfold triN
        rw [Int.tdiv_eq_ediv_of_nonneg (Int.mul_nonneg (by omega) (by omega))]; simp
      have hmul : (L : Int) * ((L : Int) + 1) ≤ 1000000 * 1000001 := Int.mul_le_mul (by omega) (by omega) (by omega) (by omega)
      have hmul0 : 0 ≤ (L : Int) * ((L : Int) + 1) := Int.mul_nonneg (by omega) (by omega)
      by_cases hlt : triN L < n
      · have hls : L < sidesN n := by
          by_cases hc : L < sidesN n
          · exact hc
          · obtain rfl : L = sidesN n := by omega
            have := HS.out.1; omega
        go_wp2_with fail
        case roundEnd => exact ⟨⟨L + 1, by simp, by omega, by omega, rfl⟩, by simp [intOf]; omega⟩
      · have hls : L = sidesN n := by
          by_cases hc : L < sidesN n
          · exact absurd (HS.out.2.1 L hc hL1) hlt
          · omega
        have HLS := Lib.hid hls
        clear hls
        have hge : n ≤ triN L := by omega
        have htb : triN L ≤ 1000000000000 := by
          have : L * (L + 1) ≤ 1000000 * 1000001 := Nat.mul_le_mul hm (by omega)
          unfold triN; omega
        go_wp2_with fail
        go_ret
        exact ⟨by rw [HLS.out]; rfl, rfl⟩
  · have hst := Lib.hid (show SidRel n w' (.int .i64 1) w' from ⟨1, rfl, by omega, HS.out.2.2, rfl⟩)
    clear HR HT hr hrb h HST
    go_loopw [3] (fun l wr => SidRel n w' l wr) (fun l _ => sidesN n - (intOf l).toNat)
    case atStart => exact hst.out
    case round =>
      clear hst
      obtain ⟨L, rfl, hL1, hL2, rfl⟩ := hrel
      have hm : L ≤ 1000000 := by omega
      have hq : ((L : Int) * ((L : Int) + 1)).tdiv 2 = ((triN L : Nat) : Int) := by
        unfold triN
        rw [Int.tdiv_eq_ediv_of_nonneg (Int.mul_nonneg (by omega) (by omega))]; simp
      have hmul : (L : Int) * ((L : Int) + 1) ≤ 1000000 * 1000001 := Int.mul_le_mul (by omega) (by omega) (by omega) (by omega)
      have hmul0 : 0 ≤ (L : Int) * ((L : Int) + 1) := Int.mul_nonneg (by omega) (by omega)
      by_cases hlt : triN L < n
      · have hls : L < sidesN n := by
          by_cases hc : L < sidesN n
          · exact hc
          · obtain rfl : L = sidesN n := by omega
            have := HS.out.1; omega
        go_wp2_with fail
        case roundEnd => exact ⟨⟨L + 1, by simp, by omega, by omega, rfl⟩, by simp [intOf]; omega⟩
      · have hls : L = sidesN n := by
          by_cases hc : L < sidesN n
          · exact absurd (HS.out.2.1 L hc hL1) hlt
          · omega
        have HLS := Lib.hid hls
        clear hls
        have hge : n ≤ triN L := by omega
        have htb : triN L ≤ 1000000000000 := by
          have : L * (L + 1) ≤ 1000000 * 1000001 := Nat.mul_le_mul hm (by omega)
          unfold triN; omega
        go_wp2_with fail
        go_ret
        exact ⟨by rw [HLS.out]; rfl, rfl⟩

/-- The number of a pair of groups. -/
def pairN (a b : Nat) : Nat := max a b * (max a b - 1) / 2 + min a b
theorem pairN_comm (a b : Nat) : pairN a b = pairN b a := by unfold pairN; rw [Nat.max_comm, Nat.min_comm]
set_option maxRecDepth 100000 in
set_option maxHeartbeats 1000000 in
theorem Pair_any (a b : Nat) (w : World) (ha : a ≤ 1000000) (hb : b ≤ 1000000) (hne : a ≠ b) : Calls Tryz.prog 161 #[.int .i64 a, .int .i64 b] w fun e w' => e = .returned (.tuple #[.int .i64 (pairN a b), .int .i64 0]) ∧ w' = w := by
  have hne2 : ((a : Int) == (b : Int)) = false := by rw [beq_eq_false_iff_ne]; omega
  have ha0 : ((a : Int) < 0) = False := by simp

  have H := fun (M : Nat) (h : 1 ≤ M) (h2 : M ≤ 1000000) => (show ((M : Int) * ((M : Int) - 1)).tdiv 2 = ((M * (M - 1) / 2 : Nat) : Int) from by
    rw [show (M : Int) - 1 = ((M - 1 : Nat) : Int) from by omega, ← Int.natCast_mul, Int.tdiv_eq_ediv_of_nonneg (by omega)]; simp)
  have H2 := fun (M : Nat) (h : 1 ≤ M) (h2 : M ≤ 1000000) => (show 0 ≤ (M : Int) * ((M : Int) - 1) ∧ (M : Int) * ((M : Int) - 1) ≤ 1000000 * 1000000 from
    ⟨Int.mul_nonneg (by omega) (by omega), Int.mul_le_mul (by omega) (by omega) (by omega) (by omega)⟩)
  by_cases hab : a < b
  · skip
    have h1 := H b (by omega) (by omega)
    obtain ⟨h2, h3⟩ := H2 b (by omega) (by omega)
    have hq : b * (b - 1) / 2 ≤ 1000000000000 := by
      have : b * (b - 1) ≤ 1000000 * 1000000 := Nat.mul_le_mul (by omega) (by omega)
      omega
    have HP := Lib.hid (show pairN a b = b * (b - 1) / 2 + a by unfold pairN; rw [Nat.max_eq_right (by omega), Nat.min_eq_left (by omega)])
    have hmx : max (a : Int) (b : Int) = b := by omega
    have hmn : min (a : Int) (b : Int) = a := by omega
    clear H H2
    generalize b * (b - 1) / 2 = Q at *
    go_enter Tryz.func161, Tryz.ntmps161
    go_wp2_with fail
    all_goals first
      | (go_ret2; exact ⟨by rw [HP.out, Int.natCast_add]; rfl, rfl⟩)
      | (exfalso; omega)
  · skip
    have h1 := H a (by omega) (by omega)
    obtain ⟨h2, h3⟩ := H2 a (by omega) (by omega)
    have hq : a * (a - 1) / 2 ≤ 1000000000000 := by
      have : a * (a - 1) ≤ 1000000 * 1000000 := Nat.mul_le_mul (by omega) (by omega)
      omega
    have HP := Lib.hid (show pairN a b = a * (a - 1) / 2 + b by unfold pairN; rw [Nat.max_eq_left (by omega), Nat.min_eq_right (by omega)])
    have hmx : max (a : Int) (b : Int) = a := by omega
    have hmn : min (a : Int) (b : Int) = b := by omega
    clear H H2
    generalize a * (a - 1) / 2 = Q at *
    go_enter Tryz.func161, Tryz.ntmps161
    go_wp2_with fail
    all_goals first
      | (go_ret2; exact ⟨by rw [HP.out, Int.natCast_add]; rfl, rfl⟩)
      | (exfalso; omega)
set_option maxRecDepth 100000 in
theorem PairSame_any (a : Nat) (w : World) : Calls Tryz.prog 161 #[.int .i64 a, .int .i64 a] w fun e w' => e = .returned (.tuple #[.int .i64 0, .int .i64 1]) ∧ w' = w := by
  go_enter Tryz.func161, Tryz.ntmps161
  go_wp2_with fail
  go_ret2
  exact ⟨rfl, rfl⟩
set_option maxRecDepth 100000 in
theorem SGroup_any (g n : Nat) (w : World) (h1 : 1 ≤ n) (h2 : n ≤ 1000000) (hg : g ≤ sidesN n) : Calls Tryz.prog 160 #[.int .i64 g, .int .i64 n] w fun e w' => e = .returned (.bool true) ∧ w' = w := by
  have HR := Lib.hid (SRight_any (n : Int) w)
  have HD := Lib.hid (show decide (1 ≤ (n : Int) ∧ (n : Int) ≤ 1048576) = true by simp; omega)
  have HS := Lib.hid (Sides_any n w h1 h2)
  have hgi : (g : Int) ≤ (sidesN n : Int) := by omega
  have hsl := sides_le h1
  generalize sidesN n = L at *
  go_enter Tryz.func160, Tryz.ntmps160
  go_wp2_with (first
    | (go_at_call 156; refine HR.out.mono ?_; rintro e w' ⟨rfl, rfl⟩; rw [HD.out])
    | (go_at_call 159; refine HS.out.mono ?_; rintro e w' ⟨rfl, rfl⟩))
  go_ret
  exact ⟨rfl, rfl⟩
/-- The chains of a group's set, of the first k groups. -/
def setK (g n k : Nat) : List Int := ((List.range k).filter (fun o => o != g)).map (fun o => ((pairN g o % n : Nat) : Int))
def setL (g n : Nat) : List Int := setK g n (sidesN n + 1)
theorem setK_succ (g n k : Nat) : setK g n (k + 1) = setK g n k ++ (if k = g then [] else [((pairN g k % n : Nat) : Int)]) := by
  unfold setK
  rw [List.range_succ, List.filter_append, List.map_append]
  by_cases h : k = g
  · simp [h]
  · simp [h]
theorem length_setK (g n k : Nat) : (setK g n k).length ≤ k := by
  unfold setK; rw [List.length_map]
  exact Nat.le_trans (List.length_filter_le _ _) (by simp)
def SetRel (w : World) (g n L : Nat) (v i : Value) (wr : World) : Prop := ∃ k : Nat, k ≤ L + 1 ∧ i = .int .i64 k ∧ OwR intR w.heap.size w.heap.size wr v (setK g n k) ∧ Below w.heap.size w wr
set_option maxRecDepth 100000 in
set_option maxHeartbeats 1000000 in
theorem Set_any (g n : Nat) (w : World) (h1 : 1 ≤ n) (h2 : n ≤ 1000) (hg : g ≤ sidesN n) :
    Calls Tryz.prog 112 #[.int .i64 g, .int .i64 n] w fun e w' => ∃ v, e = .returned (.tuple #[v, .int .i64 0]) ∧ OwR intR w.heap.size w.heap.size w' v (setL g n) ∧ Below w.heap.size w w' := by
  have HG := Lib.hid (fun W => SGroup_any g n W h1 (by omega) hg)
  have HS := Lib.hid (fun W => Sides_any n W h1 (by omega))
  have hsl := sides_le h1
  have HL := Lib.hid (show setL g n = setK g n (sidesN n + 1) from rfl)
  obtain ⟨L, hsn⟩ : ∃ L, sidesN n = L := ⟨_, rfl⟩
  have HSN := Lib.hid hsn
  rw [hsn] at hsl HS hg HL
  clear hsn
  go_enter Tryz.func112, Tryz.ntmps112
  go_wp2_with (first
    | (go_at_call 160; refine (HG.out _).mono ?_; rintro e y ⟨rfl, hy⟩; subst y)
    | (go_at_call 159; refine (HS.out _).mono ?_; rintro e y ⟨rfl, hy⟩; subst y))
  go_loopw [6, 7, 8, 9, 17] (fun v _ _ _ i wr => SetRel w g n L v i wr) (fun _ _ _ _ i _ => L + 1 - (intOf i).toNat)
  case atStart => exact ⟨0, by omega, rfl, OwR.nil _ _ _, Below.refl _ _⟩
  case round =>
    obtain ⟨k, hk, rfl, hown, hb⟩ := hrel
    have hle := length_setK g n k
    have HSU := Lib.hid (setK_succ g n k)
    generalize hsk : setK g n k = l at *
    have HSK := Lib.hid hsk; clear hsk
    by_cases hlt : k < L + 1
    · by_cases he : k = g
      · subst he
        have HP := Lib.hid (fun W => PairSame_any k W)
        have HE := Lib.hid (show setK k n (k + 1) = l by rw [HSU.out, if_pos rfl, List.append_nil])
        go_wp2_with (first
          | (go_at_call 161; refine (HP.out _).mono ?_; rintro e y ⟨rfl, hy⟩; subst y))
        go_roundw
        case rel => exact ⟨k + 1, by omega, by go_num, by rw [HE.out]; exact hown, hb⟩
        case measure => simp [intOf]; omega
      · have HP := Lib.hid (fun W => Pair_any g k W (by omega) (by omega) (fun e => he e.symm))
        have HE := Lib.hid (show setK g n (k + 1) = l ++ [((pairN g k % n : Nat) : Int)] by rw [HSU.out, if_neg he])
        have hpb : pairN g k ≤ 10000000 := by
          unfold pairN
          have : max g k * (max g k - 1) ≤ 1001 * 1001 := Nat.mul_le_mul (by omega) (by omega)
          omega
        clear HSU
        obtain ⟨a1, c1, rfl, -, -⟩ := hown.form
        generalize pairN g k = P at *
        have HPN := Lib.hid (show ((P % n : Nat) : Int) = (P : Int) % (n : Int) by simp)
        go_wp2_with (first
          | (go_at_call 161; refine (HP.out _).mono ?_; rintro e y ⟨rfl, hy⟩; subst y)
          | (at_builtin; refine appI (W := w) (B := w.heap.size) rfl _ _ rfl (Nat.le_refl _) _ l rfl (hown.ext (Ext.alloc _ _)) (.slice (some ⟨wr.heap.size, 0, none⟩) 1 1) [(P : Int) % (n : Int)] rfl (SlR.lit1 (R := intR) (y := (P : Int) % (n : Int)) (c := [.int .i64 ((P : Int) % (n : Int))]) rfl) (by simp only [List.length_cons, List.length_nil]; omega) (hb.trans (Below.mono (Ext.alloc _ _) hb.size)) ?_; intro v2 w2 hown2 hg2 hb2))
        go_roundw
        case rel => exact ⟨k + 1, by omega, by go_num, by rw [HE.out, HPN.out]; exact hown2, hb2⟩
        case measure => simp [intOf]; omega
    · obtain rfl : k = L + 1 := by omega
      obtain ⟨a1, c1, rfl, -, -⟩ := hown.form
      go_wp2_with fail
      go_ret2
      exact ⟨_, rfl, by rw [HL.out, HSK.out]; exact hown, hb⟩
theorem setK_len (g n k : Nat) : (setK g n k).length = if g < k then k - 1 else k := by
  induction k with
  | zero => simp [setK]
  | succ k ih =>
    rw [setK_succ, List.length_append, ih]
    by_cases h1 : g < k
    · simp [h1, show ¬ k = g from by omega, show g < k + 1 from by omega]; omega
    · by_cases h2 : k = g
      · simp [h1, h2]
      · simp [h1, h2, show ¬ g < k + 1 from by omega]
theorem length_setL {g n : Nat} (hg : g ≤ sidesN n) : (setL g n).length = sidesN n := by
  unfold setL; rw [setK_len, if_pos (by omega)]; omega
theorem setK_in (g n k : Nat) (hn : 1 ≤ n) : ∀ x ∈ setK g n k, ∃ c : Nat, x = c ∧ c < n := by
  intro x hx
  unfold setK at hx
  obtain ⟨o, _, rfl⟩ := List.mem_map.1 hx
  exact ⟨_, rfl, Nat.mod_lt _ (by omega)⟩
theorem setL_in (g n : Nat) (hn : 1 ≤ n) : ∀ x ∈ setL g n, ∃ c : Nat, x = c ∧ c < n := setK_in g n _ hn
/-- A chain that two groups have in common. -/
def sharedI (a b n : Nat) : Int := if a = b then (setL a n).headD 0 else ((pairN a b % n : Nat) : Int)
set_option maxRecDepth 100000 in
set_option maxHeartbeats 1000000 in
theorem Shared_any (a b n : Nat) (w : World) (h1 : 1 ≤ n) (h2 : n ≤ 1000) (ha : a ≤ sidesN n) (hb : b ≤ sidesN n) :
    Calls Tryz.prog 113 #[.int .i64 a, .int .i64 b, .int .i64 n] w fun e w' => e = .returned (.tuple #[.int .i64 (sharedI a b n), .int .i64 0]) ∧ Below w.heap.size w w' := by
  have HGA := Lib.hid (fun W => SGroup_any a n W h1 (by omega) ha)
  have HGB := Lib.hid (fun W => SGroup_any b n W h1 (by omega) hb)
  have hsl := sides_le h1
  have hs1 := (sides_spec n).2.2
  by_cases hab : a = b
  · subst hab
    have hlen := length_setL ha
    have hS := Set_any a n w h1 h2 ha
    have HE := Lib.hid (show sharedI a a n = (setL a n).headD 0 by unfold sharedI; rw [if_pos rfl])
    generalize sharedI a a n = E at *
    generalize setL a n = l at *
    have hl0 : 0 < l.length := by omega
    have HS := Lib.hid hS
    clear hlen hS
    obtain ⟨x, l', rfl⟩ : ∃ x l', l = x :: l' := by cases l with | nil => simp at hl0 | cons x l' => exact ⟨x, l', rfl⟩
    have HE2 := Lib.hid (show E = x from HE.out)
    clear HE
    go_enter Tryz.func113, Tryz.ntmps113
    go_wp2_with (first
      | (go_at_call 160; refine (SGroup_any _ n _ h1 (by omega) (by assumption)).mono ?_; rintro e y ⟨rfl, hy⟩; subst y)
      | (go_at_call 112; refine HS.out.mono ?_; rintro e y ⟨v, rfl, hown, hbl⟩; obtain ⟨b1, o1, c1, rfl, -, -⟩ := hown.sl.open hl0; have hcx := slI_at hown.sl 0 x rfl; rw [Nat.add_zero] at hcx))
    go_ret2
    exact ⟨by rw [HE2.out]; rfl, hbl⟩
  · have hP := Pair_any a b w (by omega) (by omega) hab
    have HE := Lib.hid (show sharedI a b n = (((pairN a b : Nat) : Int) % (n : Int)) by unfold sharedI; rw [if_neg hab]; simp)
    have hpb : pairN a b ≤ 10000000 := by
      unfold pairN
      have : max a b * (max a b - 1) ≤ 1001 * 1001 := Nat.mul_le_mul (by omega) (by omega)
      omega
    generalize sharedI a b n = E at *
    generalize pairN a b = P at *
    have HP := Lib.hid hP
    clear hP
    go_enter Tryz.func113, Tryz.ntmps113
    go_wp2_with (first
      | (go_at_call 160; refine (SGroup_any _ n _ h1 (by omega) (by assumption)).mono ?_; rintro e y ⟨rfl, hy⟩; subst y)
      | (go_at_call 161; refine HP.out.mono ?_; rintro e y ⟨rfl, hy⟩; subst y))
    go_ret2
    exact ⟨by rw [HE.out]; rfl, Below.refl _ _⟩
/-- Where a number stands first; -1: nowhere. -/
def idxI (l : List Int) (x : Int) : Int := if x ∈ l then (l.idxOf x : Int) else -1
theorem idxI_at {l : List Int} {x : Int} {k : Nat} (hk : k < l.length) (he : l[k] = x) (hn : ∀ j, (h : j < k) → l[j]'(by omega) ≠ x) : idxI l x = k := by
  unfold idxI
  rw [if_pos (by rw [← he]; exact List.getElem_mem hk)]
  congr 1
  induction l generalizing k with
  | nil => simp at hk
  | cons y l ih =>
    cases k with
    | zero => simp at he; simp [he]
    | succ k =>
      have h0 := hn 0 (by omega)
      simp at h0
      rw [List.idxOf_cons, show (y == x) = false from by rw [beq_eq_false_iff_ne]; exact h0, cond_false]
      have := ih (k := k) (by simpa using hk) (by simpa using he) (fun j h => by have := hn (j + 1) (by omega); simpa using this)
      rw [this]
theorem idxI_none {l : List Int} {x : Int} (hn : ∀ j, (h : j < l.length) → l[j] ≠ x) : idxI l x = -1 := by
  unfold idxI
  rw [if_neg]
  intro h
  obtain ⟨j, hj, e⟩ := List.getElem_of_mem h
  exact hn j hj e
def IdxRel (w : World) (l : List Int) (x : Int) (i : Value) (wr : World) : Prop := ∃ k : Nat, k ≤ l.length ∧ i = .int .i64 k ∧ (∀ j, (h : j < k) → (h2 : j < l.length) → l[j] ≠ x) ∧ wr = w
set_option maxRecDepth 100000 in
set_option maxHeartbeats 1000000 in
theorem Index_any (l : List Int) (v : Value) (x : Int) (B : Nat) (w : World) (hv : SlR intR B w v l) (hl : l.length ≤ 1000000) :
    Calls Tryz.prog 114 #[v, .int .i64 x] w fun e w' => e = .returned (.int .i64 (idxI l x)) ∧ w' = w := by
  have HV := Lib.hid hv
  obtain ⟨a0, c0, rfl, hac0, hc0⟩ := hv.form
  clear hv
  go_enter Tryz.func114, Tryz.ntmps114
  go_wp2_with fail
  go_loopw [5, 8] (fun _ i wr => IdxRel w l x i wr) (fun _ i _ => l.length - (intOf i).toNat)
  case atStart => exact ⟨0, by omega, rfl, fun j h => by omega, rfl⟩
  case round =>
    obtain ⟨k, hk, rfl, hne, hy⟩ := hrel
    subst wr
    by_cases hlt : k < l.length
    · obtain ⟨b, o, c, he, -, -⟩ := HV.out.open (by omega)
      cases he
      have hcx := slI_at HV.out k l[k] (List.getElem?_eq_getElem hlt)
      by_cases he : l[k] = x
      · have HI := Lib.hid (idxI_at hlt he (fun j h => hne j h (by omega)))
        rw [he] at hcx
        clear hne
        go_wp2_with fail
        go_ret
        exact ⟨by rw [HI.out]; rfl, rfl⟩
      · have hne2 : ∀ j, (h : j < k + 1) → (h2 : j < l.length) → l[j] ≠ x := fun j h h2 => by
          by_cases e : j = k
          · subst e; exact he
          · exact hne j (by omega) h2
        have HN2 := Lib.hid hne2
        clear hne hne2
        generalize l[k] = z at *
        have he2 : (x == z) = false := by rw [beq_eq_false_iff_ne]; exact fun e => he e.symm
        go_wp2_with fail
        go_roundw
        case rel => exact ⟨k + 1, by omega, by go_num, HN2.out, rfl⟩
        case measure => simp [intOf]; omega
    · obtain rfl : k = l.length := by omega
      have HI := Lib.hid (idxI_none (fun j h => hne j h h))
      clear hne
      go_wp2_with fail
      go_ret
      exact ⟨by rw [HI.out]; rfl, rfl⟩
def groupS : List UInt8 := [103, 114, 111, 117, 112]
/-- The group of a name. -/
def groupN (nm : List UInt8) (n : Nat) : Nat := beN ((parts [groupS, nm]).take 8) % (sidesN n + 1)
theorem groupN_le (nm : List UInt8) (n : Nat) : groupN nm n ≤ sidesN n := by
  have : groupN nm n < sidesN n + 1 := Nat.mod_lt _ (by omega)
  omega
theorem conv5 (a b c d f : Int) (W : World) : (convert 44 44 (.slice (some ⟨W.heap.size, 0, none⟩) 5 5)).run Tryz.prog (W.alloc (.cells #[.int .u8 a, .int .u8 b, .int .u8 c, .int .u8 d, .int .u8 f] 5)) = .ok (.slice (some ⟨W.heap.size, 0, none⟩) 5 5) (W.alloc (.cells #[.int .u8 a, .int .u8 b, .int .u8 c, .int .u8 d, .int .u8 f] 5 (5, 6))) :=
  Lib.run_convert_bytes_const W 44 5 #[.int .u8 a, .int .u8 b, .int .u8 c, .int .u8 d, .int .u8 f] 5 5 u_bytes u_byte
theorem seesBB_2 {w : World} {u1 u2 : Value} {l1 l2 : List UInt8} (t : TypeId) (h1 : SeesB w u1 l1) (h2 : SeesB w u2 l2) :
    SeesBB (w.alloc (.cells #[u1, u2] t)) (.slice (some ⟨w.heap.size, 0, none⟩) 2 2) [l1, l2] :=
  seesBB_new [u1, u2] t [l1, l2] rfl (by show 2 ≤ 1000; decide) (fun i l u hl hu => by
    match i with
    | 0 => cases hl; cases hu; exact h1
    | 1 => cases hl; cases hu; exact h2
    | n + 2 => simp at hl)
set_option maxRecDepth 100000 in
set_option maxHeartbeats 1000000 in
theorem Group_any (nm : List UInt8) (n : Nat) (w : World) (h32 : nm.length = 32) (h1 : 1 ≤ n) (h2 : n ≤ 1000) :
    Calls Tryz.prog 111 #[.agg (keyA nm), .int .i64 n] w fun e w' => e = .returned (.tuple #[.int .i64 (groupN nm n), .int .i64 0]) ∧ Below w.heap.size w w' := by
  have HR := Lib.hid (fun W => SRight_any (n : Int) W)
  have HD := Lib.hid (show decide (1 ≤ (n : Int) ∧ (n : Int) ≤ 1048576) = true by simp; omega)
  have HS := Lib.hid (fun W => Sides_any n W h1 (by omega))
  have HK := Lib.hid h32
  have hsl := sides_le h1
  have HGN := Lib.hid (show ((groupN nm n : Nat) : Int) = ((beN ((parts [groupS, nm]).take 8) : Nat) : Int) % ((sidesN n : Int) + 1) by unfold groupN; simp)
  have HSL := Lib.hid (length_parts [groupS, nm])
  have HFL : Hid ((flatP [groupS, nm]).length ≤ 70368744177000) := by
    show _ ≤ _
    simp only [flatP, List.flatMap_cons, List.flatMap_nil, List.length_append, length_put64, List.length_nil, h32]
    have : groupS.length = 5 := rfl
    omega
  have hbe := beN_lt ((parts [groupS, nm]).take 8)
  have hb8 : ((parts [groupS, nm]).take 8).length = 8 := by rw [List.length_take, length_parts]; rfl
  rw [hb8] at hbe
  have hbe : beN ((parts [groupS, nm]).take 8) < 18446744073709551616 := hbe
  have HB := Lib.hid (show (((parts [groupS, nm]).drop (0 : Int).toNat).take 8) = (parts [groupS, nm]).take 8 from rfl)
  have hB0 := Lib.hid (Blk.new w (keyA nm) 24)
  have hlit0 := (seesB_litF (w.alloc (.cells (keyA nm) 24)) [BV 103, BV 114, BV 111, BV 117, BV 112] 5 (5, 6) groupS 5 rfl rfl (by decide))
  rw [World.size_alloc] at hlit0
  have hlit := Lib.hid hlit0; clear hlit0
  have hK1 := hB0.out.alloc (.cells [BV 103, BV 114, BV 111, BV 117, BV 112].toArray 5 (5, 6))
  have hkey := Lib.hid (seesB_key hK1 h32)
  have hb0 := Lib.hid (show Below w.heap.size w ((w.alloc (.cells (keyA nm) 24)).alloc (.cells [BV 103, BV 114, BV 111, BV 117, BV 112].toArray 5 (5, 6))) by go_grown)
  have hP := Parts_any _ _ [groupS, nm] (seesBB_2 44 hlit.out hkey.out) HFL.out
  have hb1 := (Below.alloc hb0.out hb0.out.size (.cells #[.slice (some ⟨w.heap.size + 1, 0, none⟩) 5 5, .slice (some ⟨w.heap.size, 0, none⟩) 32 32] 44))
  obtain ⟨W2, hW2⟩ : ∃ W2, ((w.alloc (.cells (keyA nm) 24)).alloc (.cells [BV 103, BV 114, BV 111, BV 117, BV 112].toArray 5 (5, 6))) = W2 := ⟨_, rfl⟩
  have HSZ : W2.heap.size = w.heap.size + 1 + 1 := by rw [← hW2, World.size_alloc, World.size_alloc]
  rw [hW2] at hP hb1
  rw [HSZ] at hP
  have HP := Lib.hid hP
  have HB1 := Lib.hid hb1
  have HW2 := Lib.hid hW2.symm
  clear hW2 HSZ hP hb1
  have hcv := conv5 103 114 111 117 112 (w.alloc (.cells (keyA nm) 24))
  rw [World.size_alloc] at hcv
  generalize hG : beN ((parts [groupS, nm]).take 8) = G at *
  have HG := Lib.hid hG; clear hG
  generalize groupN nm n = GN at *
  generalize sidesN n = L at *
  clear hb8 hK1
  go_enter Tryz.func111, Tryz.ntmps111
  go_wp2_with (first
    | (go_at_call 156; refine (HR.out _).mono ?_; rintro e y ⟨rfl, hy⟩; subst y; rw [HD.out])
    | (go_at_call 157; show Calls _ _ _ (((w.alloc (.cells (keyA nm) 24)).alloc (.cells [BV 103, BV 114, BV 111, BV 117, BV 112].toArray 5 (5, 6))).alloc _) _; rw [← HW2.out]; refine HP.out.mono ?_; rintro e w5 ⟨rfl, hb5⟩
       have hbel5 := HB1.out.trans (Below.mono hb5 HB1.out.size))
    | (refine wpList_store_row rfl 24 _ _ rfl w5.heap.size (keyA (parts [groupS, nm])) _ _ rfl rfl (Blk.new _ _ _) (by rw [keyA_size, HSL.out]; rfl) (by rw [keyA_size, HSL.out]; exact info_key) (keyA_one _) ?_; intro w7 hg7 hs7 hR7
       have hsee := seesB_key hR7 HSL.out
       have hbel7 : Below w.heap.size w w7 := (hbel5.alloc hbel5.size _).grown hg7 (by simp only [World.size_alloc]; exact Nat.le_succ_of_le hbel5.size) (fun k hk => by cases hk; exact hbel5.size))
    | (go_at_call 158; refine (Get64_ok _ _ _ 0 hsee (by decide) (by rw [HSL.out]; decide)).mono ?_; rintro e y ⟨rfl, hy⟩; subst y; rw [HB.out, HG.out])
    | (go_at_call 159; refine (HS.out _).mono ?_; rintro e y ⟨rfl, hy⟩; subst y))
  have hgm0 : 0 ≤ (G : Int) % ((L : Int) + 1) := Int.emod_nonneg _ (by omega)
  have hgm1 : (G : Int) % ((L : Int) + 1) < (L : Int) + 1 := Int.emod_lt_of_pos _ (by omega)
  have hwr : wrap64 ((G : Int) % ((L : Int) + 1)) = (G : Int) % ((L : Int) + 1) := by unfold wrap64; omega
  go_ret2
  refine ⟨?_, hbel7⟩
  rw [HGN.out]
  show Ending.returned (.tuple #[.int .i64 (wrap64 ((G : Int) % ((L : Int) + 1))), _]) = _
  rw [hwr]
  rfl
end Go.Proofs.YtbgnfioggmkdeaaGreatDoor
namespace Go.Proofs.YtbgnfioggmkdeaaGreatDoor
set_option linter.unusedVariables false
set_option linter.unusedSimpArgs false
open Go Go.RowKit

set_option maxRecDepth 100000 in
theorem run_checkKey32 (b : Bool) (n : Nat) (k : List UInt8) (h : k.length = 32) (w : World) : (Instr.checkKey b (n + 2) 24 (.agg (keyA k))).run Tryz.prog w = .ok () w := by
  have h1 : (Tryz.prog.info? 5).map (·.size) = some 1 := by kernel_rfl
  obtain ⟨ti, hti, hsz⟩ := Option.map_eq_some_iff.1 h1
  have hsz : ∀ w, (sizeOf 5).run Tryz.prog w = .ok 1 w := fun w => by simp [sizeOf, typeInfo, hti, hsz]
  rw [Instr.checkKey]
  simp only [Sem.run_bind, run_underlying under_key, Result.andThen_ok, hsz, Std.Legacy.Range.forIn_eq_forIn_range', Std.Legacy.Range.size, Nat.sub_zero, Nat.add_sub_cancel, Nat.div_one]
  have hl : ∀ i ∈ List.range' 0 32 1, i < 32 := fun i hi => by simpa using (List.mem_range'_1.1 hi).2
  generalize List.range' 0 32 1 = l at hl ⊢
  induction l with
  | nil => simp
  | cons i l ih =>
    have hi : i < 32 := hl i (by simp)
    have px : (part 5 (keyA k) (i * 1)).run Tryz.prog w = .ok (BV (k.getD i 0)) w := by
      simp [part, isAgg, run_underlying u_byte, keyA, List.getD, List.getElem?_eq_getElem (show i < k.length by omega)]
    have pc : (Instr.checkKey b (n + 1) 5 (BV (k.getD i 0))).run Tryz.prog w = .ok () w := by
      rw [Instr.checkKey]; simp only [Sem.run_bind, run_underlying u_byte, Result.andThen_ok]; rfl
    have ih := ih fun j hj => hl j (by simp [hj])
    simp only [Sem.run_pure] at ih
    simp only [List.forIn_cons, Sem.run_bind, hsz, px, pc, Result.andThen_ok, Sem.run_pure]
    exact ih
theorem run_findNil (k : Value) (w : World) : (Instr.findKey 24 k []).run Tryz.prog w = .ok none w := by
  simp [Instr.findKey, Instr.findNow, run_underlying under_key]
set_option maxRecDepth 100000 in
theorem run_findOne (k : List UInt8) (h : k.length = 32) (v : Value) (n : Nat) (w : World) : (Instr.findKey 24 (.agg (keyA k)) [⟨.agg (keyA k), v, n⟩]).run Tryz.prog w = .ok (some (0, v)) w := by
  have h1 : (Tryz.prog.info? 5).map (·.size) = some 1 := by kernel_rfl
  obtain ⟨ti, hti, hsz⟩ := Option.map_eq_some_iff.1 h1
  have he : (Op.equal 24 (.agg (keyA k)) (.agg (keyA k))).run Tryz.prog w = .ok true w := by
    have := run_equalIn_bytes (P := Tryz.prog) w 9998 24 5 32 under_key u_byte (fun w => by simp [sizeOf, typeInfo, hti, hsz]) k k h h
    rw [beq_self_eq_true] at this; exact this
  simp [Instr.findKey, Instr.findNow, Instr.sameNow, Instr.findAsking, run_underlying under_key, he]
theorem run_zeroPeer (w : World) : (zeroValue 92).run Tryz.prog w = .ok (.pointer none) w := by simp [go_sem]
theorem run_lookNil (m : Nat) (clock : Nat) (k : List UInt8) (h : k.length = 32) (w : World) (hm : w.heap[m]? = some (.map #[] clock)) :
    (Instr.lookup 91 (.map (some m)) (.agg (keyA k)) false).run Tryz.prog w = .ok (.pointer none) w := by
  have hc := run_checkKey32 true 9998 k h w
  have hf := run_findNil (.agg (keyA k)) w
  simp [Instr.lookup, run_underlying Tryz.underlying91, MapKept.run_getObj_map hm, hc, hf, run_zeroPeer]
theorem run_lookOne (m : Nat) (clock n : Nat) (k : List UInt8) (v : Value) (h : k.length = 32) (w : World) (hm : w.heap[m]? = some (.map #[⟨.agg (keyA k), v, n⟩] clock)) :
    (Instr.lookup 91 (.map (some m)) (.agg (keyA k)) false).run Tryz.prog w = .ok v w := by
  have hc := run_checkKey32 false 9998 k h w
  have hf := run_findOne k h v n w
  simp [Instr.lookup, run_underlying Tryz.underlying91, MapKept.run_getObj_map hm, hc, hf]
theorem run_updNil (m : Nat) (clock : Nat) (k : List UInt8) (v : Value) (h : k.length = 32) (w : World) (hm : w.heap[m]? = some (.map #[] clock)) :
    (Instr.mapUpdate 91 (.map (some m)) (.agg (keyA k)) v).run Tryz.prog w = .ok () { w with heap := w.heap.setIfInBounds m (.map #[⟨.agg (keyA k), v, clock⟩] (clock + 1)) } := by
  have hc := run_checkKey32 false 9998 k h w
  have hf := run_findNil (.agg (keyA k)) w
  simp [Instr.mapUpdate, run_underlying Tryz.underlying91, MapKept.run_getObj_map hm, hc, hf, MapKept.run_setObj_map _ hm]
/-- An operation that looks into a map, where what it finds is known. -/
theorem wpList_look {P : Program} {ops : Array Oper} {rest : List Oper} {o : Oper} {a : Act} {w : World} {Q : Exit → Act → World → Prop} (hgd : Region.wanted o (yielded ops a.tmps) = true) (ty : TypeId) (x y : Operand) (b : Bool) (ho : o.op = .lookup ty x y b)
    (vx vy r : Value) (hx : a.eval x = vx) (hy : a.eval y = vy) (hr : (Instr.lookup ty vx vy b).run P w = .ok r w) (h : wpList P ops Q rest (a.put o.dst r) w) : wpList P ops Q (o :: rest) a w := by
  unfold wpList
  rw [if_pos hgd]
  refine .inl ?_
  unfold Oper.wp
  simp only [execOp, ho, hx, hy, Sem.run_bind, hr, Result.andThen_ok, Sem.run_pure]
  exact h
theorem wpList_upd {P : Program} {ops : Array Oper} {rest : List Oper} {o : Oper} {a : Act} {w : World} {Q : Exit → Act → World → Prop} (hgd : o.guard = none) (ty : TypeId) (x y z : Operand) (ho : o.op = .mapUpdate ty x y z) (hd : o.dst = none)
    (vx vy vz : Value) (w' : World) (hx : a.eval x = vx) (hy : a.eval y = vy) (hz : a.eval z = vz) (hr : (Instr.mapUpdate ty vx vy vz).run P w = .ok () w') (h : wpList P ops Q rest a w') : wpList P ops Q (o :: rest) a w := by
  refine wpList_plain hgd fun K hK => ?_
  unfold Oper.wp
  simp only [execOp, ho, hx, hy, hz, Sem.run_bind, hr, Result.andThen_ok, Sem.run_pure]
  show K (a.put o.dst undef) w'
  rw [hd]
  exact hK a w' h
end Go.Proofs.YtbgnfioggmkdeaaGreatDoor
