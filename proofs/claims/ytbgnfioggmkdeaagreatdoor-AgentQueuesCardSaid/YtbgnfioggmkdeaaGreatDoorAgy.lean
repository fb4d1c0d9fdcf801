/-
  A user's onions of a round.
  What a user sends in a round.
  The example of the document: a user that sends.
-/
import Derived.Test.YtbgnfioggmkdeaaGreatDoorAgx
namespace Go.Proofs.YtbgnfioggmkdeaaGreatDoor
set_option linter.unusedVariables false
set_option linter.unusedSimpArgs false
open Go Go.RowKit

/-- The onion at j: to which chain, and of what. -/
def oneO (s round : Int) (ls : List (List Pub)) (set : List Int) (lt : Nat → List UInt8 × List UInt8) (j : Nat) : MadeO :=
  ⟨set.getD j 0, drawW s round j 0, envB (innerP (ls.getD (set.getD j 0).toNat [])) (drawW s round j 2) (lt j).1 (lt j).2,
    onionL (ls.getD (set.getD j 0).toNat []) s (drawW s round j 0) (drawW s round j 1) round (set.getD j 0) (envB (innerP (ls.getD (set.getD j 0).toNat [])) (drawW s round j 2) (lt j).1 (lt j).2)⟩
def outsO (s round : Int) (ls : List (List Pub)) (set : List Int) (lt : Nat → List UInt8 × List UInt8) (k : Nat) : List MadeO := (List.range k).map (oneO s round ls set lt)
theorem outsO_succ (s round : Int) (ls : List (List Pub)) (set : List Int) (lt : Nat → List UInt8 × List UInt8) (k : Nat) : outsO s round ls set lt (k + 1) = outsO s round ls set lt k ++ [oneO s round ls set lt k] := by
  unfold outsO; rw [List.range_succ, List.map_append]; rfl
theorem length_outsO (s round : Int) (ls : List (List Pub)) (set : List Int) (lt : Nat → List UInt8 × List UInt8) (k : Nat) : (outsO s round ls set lt k).length = k := by
  unfold outsO; simp
def loopL (s round : Int) : List UInt8 × List UInt8 := (nameL (timesP 37 s), loopB s round)
def talkL (s round : Int) (q : PeerL) : List UInt8 × List UInt8 := (nameL q.pub, talkB s q.pub round q.note.seq q.note.ack q.note.pay)
def ltS (s round at_ : Int) (q : PeerL) (j : Nat) : List UInt8 × List UInt8 := if (j : Int) = at_ then talkL s round q else loopL s round
/-- What no agent writes stays. -/
def agT : List TypeId := [94, 97, 23]
structure KeepX (w u : World) : Prop where
  size : w.heap.size ≤ u.heap.size
  same : ∀ (k : Nat) (cs : Array Value) (t : TypeId) (fr : Nat × Nat), w.heap[k]? = some (Obj.cells cs t fr) → t ∉ agT → u.heap[k]? = some (Obj.cells cs t fr)
theorem KeepX.refl (w : World) : KeepX w w := ⟨Nat.le_refl _, fun _ _ _ _ h _ => h⟩
theorem KeepX.tr {w u x : World} (h : KeepX w u) (k : KeepX u x) : KeepX w x := ⟨Nat.le_trans h.size k.size, fun i cs t fr h1 h2 => k.same i cs t fr (h.same i cs t fr h1 h2) h2⟩
theorem Ext.kx {w u : World} (e : Ext w u) : KeepX w u := ⟨Below.size e, fun k cs t fr h _ => ext_heap e h⟩
theorem Mod.kx {w u : World} {G : List Nat} (h : Mod G w u) (hg : ∀ g ∈ G, ∀ (cs : Array Value) (t : TypeId) (fr : Nat × Nat), w.heap[g]? = some (Obj.cells cs t fr) → t ∈ agT) : KeepX w u := ⟨h.size, fun k cs t fr h1 h2 => h.heap h1 (fun hm => h2 (hg k hm cs t fr h1))⟩
theorem Mod.kx1 {w u : World} {P : Nat} {q : PeerL} {vs : Value} (h : Mod [P] w u) (hP : PeB w P q vs) : KeepX w u := h.kx fun g hg cs t fr hh => by
  rw [List.mem_singleton] at hg; subst hg
  unfold PeB Blk at hP; rw [hP] at hh; cases hh; decide
/-- Itoa answers, whatever agents do. -/
def ItoaM (n : Int) (w : World) : Prop := ∀ u, KeepX w u → ItoaOk u n
theorem ItoaM.kx {n : Int} {w u : World} (h : ItoaM n w) (k : KeepX w u) : ItoaM n u := fun x hx => h x (k.tr hx)
theorem itoaM_small (n : Int) (w : World) (h0 : 0 ≤ n) (h1 : n < 100) : ItoaM n w := fun u _ => itoa_small u n h0 h1
/-- What the loop keeps. -/
structure MkB (w : World) (A : Nat) (s : Int) (m : Nat) (now vg : Value) (G : List Nat) (vl : Value) (ls : List (List Pub)) (vset : Value) (set : List Int) (vout : Value) (O : List MadeO) (u : World) : Prop where
  ag : AgB u A s m now vg
  keys : SlR pubsR 0 u vl ls
  set : OwR intR 0 w.heap.size u vset set
  out : OwR madeR 0 w.heap.size u vout O
  mod : Mod G w u
  kx : KeepX w u
section
variable {w u u' : World} {A : Nat} {s : Int} {m : Nat} {now vg : Value} {G : List Nat} {vl : Value} {ls : List (List Pub)} {vset : Value} {set : List Int} {vout : Value} {O : List MadeO}
theorem MkB.ext (h : MkB w A s m now vg G vl ls vset set vout O u) (e : Ext u u') : MkB w A s m now vg G vl ls vset set vout O u' :=
  ⟨h.ag.below e, h.keys.ext e, h.set.ext e, h.out.ext e, (Mod.tr h.mod (e.mod [])).mono (fun k hk _ => by simpa using hk), h.kx.tr e.kx⟩
theorem MkB.drew (h : MkB w A s m now vg G vl ls vset set vout O u) : MkB w A s m now vg G vl ls vset set vout O u.drew := h.ext (Ext.drew u)
theorem MkB.note {P : Nat} {q : PeerL} {vs : Value} (h : MkB w A s m now vg G vl ls vset set vout O u) (hP : PeB u P q vs) (hm : Mod [P] u u') (hPG : P ∈ G) (hAP : A ≠ P) : MkB w A s m now vg G vl ls vset set vout O u' :=
  ⟨hm.blk h.ag (by simpa using hAP), h.keys.keep (Same.mod1 hm hP (by decide)), h.set.keep (Same.mod1 hm hP (by decide)), h.out.keep (Same.mod1 hm hP (by decide)), (Mod.tr h.mod hm).mono (fun k hk _ => by
    rcases List.mem_append.1 hk with h | h
    · exact h
    · rw [List.mem_singleton] at h; subst h; exact hPG), h.kx.tr (hm.kx1 hP)⟩
theorem MkB.keyAt (h : MkB w A s m now vg G vl ls vset set vout O u) {b o n c : Nat} (hv : vl = .slice (some ⟨b, o, none⟩) n c) (i : Nat) (ks : List Pub) (hi : ls[i]? = some ks) : ∃ v, u.cell? ⟨b, o + i, none⟩ = some v ∧ SlR pubR 0 u v ks := by
  subst hv
  obtain ⟨ch, ⟨v, hch, hs⟩, _, hr⟩ := h.keys.at i ks hi
  subst hch
  have := hr 0 _ rfl
  rw [show pubsR.sz = 1 from rfl, Nat.mul_one, Nat.add_zero] at this
  exact ⟨v, this, hs⟩
end
theorem made_ne {w : World} {n : Nat} {v : Value} {l : List MadeO} {g : Nat} {cs : Array Value} {t : TypeId} (h : OwR madeR 0 n w v l) (hb : Blk w g cs t) (ht : t ≠ 102) : some g ≠ v.ownBlock := fun e => by
  obtain ⟨cs', fr, h'⟩ := h.row g e.symm
  unfold Blk at hb; rw [hb] at h'; cases h'; exact ht rfl
theorem MkB.app {w u u' : World} {A : Nat} {s : Int} {m : Nat} {now vg : Value} {G : List Nat} {vl : Value} {ls : List (List Pub)} {vset : Value} {set : List Int} {vout v' : Value} {O O' : List MadeO} (h : MkB w A s m now vg G vl ls vset set vout O u) (hg : u.grownBy u' vout.ownBlock) (ho : OwR madeR 0 w.heap.size u' v' O') : MkB w A s m now vg G vl ls vset set v' O' u' :=
  have hs : ∀ T : List TypeId, 102 ∉ T → Same 0 T u u' := fun T hT => Same.grown hg h.out.row hT (fun _ _ => Nat.zero_le _)
  ⟨h.ag.grownBy hg (made_ne h.out h.ag (by decide)), h.keys.keep (hs _ (by decide)), h.set.keep (hs _ (by decide)), ho,
    ⟨hg.os.trans h.mod.os, hg.tape.trans h.mod.tape, hg.output.trans h.mod.output, Nat.le_trans h.mod.size hg.size, fun k hk hn => (hg.block k (Nat.lt_of_lt_of_le hk h.mod.size) (fun e => by have := (h.out.lt k e.symm).1; omega)).trans (h.mod.block k hk hn)⟩,
    ⟨Nat.le_trans h.kx.size hg.size, fun k cs t fr h1 h2 => by
      have hk := (Array.getElem?_eq_some_iff.1 h1).1
      exact (hg.block k (Nat.lt_of_lt_of_le hk h.mod.size) (fun e => by have := (h.out.lt k e.symm).1; omega)).trans (h.kx.same k cs t fr h1 h2)⟩⟩
def Ph.sub (B : Nat) (s : Sub) : Ph Ext := ⟨fun v u => ∃ a c, v = .agg (subC s (.slice a s.e.box.length c)) ∧ OwnB u B (.slice a s.e.box.length c) s.e.box, fun _ _ _ ⟨a, c, h1, h2⟩ e => ⟨a, c, h1, owns_below h2 e⟩⟩
def Ph.made (B : Nat) (mo : MadeO) (vi : Value) : Ph Ext := ⟨fun v u => ∃ a c, v = .agg (mo.cells vi (.slice a mo.sub.e.box.length c)).toArray ∧ OwnB u B (.slice a mo.sub.e.box.length c) mo.sub.e.box, fun _ _ _ ⟨a, c, h1, h2⟩ e => ⟨a, c, h1, owns_below h2 e⟩⟩
def Ph.slM (mo : MadeO) : Ph Ext := ⟨fun v u => SlR madeR 0 u v [mo], fun _ _ _ h e => h.ext e⟩
theorem wpList_bld4 {P : Program} {ops : Array Oper} {rest : List Oper} {o : Oper} {a : Act} {w : World} {Q : Exit → Act → World → Prop} (hgd : o.guard = none) (ty : TypeId) (i j k l : Nat) (x y z t : Operand) (ho : o.op = .build ty #[(i, x), (j, y), (k, z), (l, t)])
    (vx vy vz vt r : Value) (hx : a.eval x = vx) (hy : a.eval y = vy) (hz : a.eval z = vz) (ht : a.eval t = vt) (hrun : (Instr.build ty #[(i, vx), (j, vy), (k, vz), (l, vt)]).run P w = .ok r w) (h : wpList P ops Q rest (a.put o.dst r) w) : wpList P ops Q (o :: rest) a w := by
  refine wpList_plain hgd fun K hK => ?_
  unfold Oper.wp
  simp only [execOp, ho, List.map_toArray, List.map_cons, List.map_nil, hx, hy, hz, ht, Sem.run_bind, hrun, Result.andThen_ok, Sem.run_pure]
  exact hK _ _ h
theorem wpList_slitM {ops : Array Oper} {rest : List Oper} {o : Oper} {a : Act} {w : World} {Q : Exit → Act → World → Prop} (hgd : o.guard = none) (x : Operand) (ho : o.op = .buildSlice 98 1 #[(0, x)])
    (mo : MadeO) (a1 a2 : Option Addr) (c1 c2 : Nat) (h32 : mo.sub.user.length = 32) {B1 B2 : Nat} (hi : OwnB w B1 (.slice a1 mo.inside.length c1) mo.inside) (hb : OwnB w B2 (.slice a2 mo.sub.e.box.length c2) mo.sub.e.box)
    (hx : a.eval x = .agg (mo.cells (.slice a1 mo.inside.length c1) (.slice a2 mo.sub.e.box.length c2)).toArray)
    (h : ∀ w' B, SlR madeR 0 w' (.slice (some ⟨B, 0, none⟩) 1 1) [mo] → Ext w w' → wpList Tryz.prog ops Q rest (a.put o.dst (.slice (some ⟨B, 0, none⟩) 1 1)) w') : wpList Tryz.prog ops Q (o :: rest) a w := by
  refine wpList_plain hgd fun K hK => ?_
  unfold Oper.wp
  simp only [execOp, ho, List.map_toArray, List.map_cons, List.map_nil, hx, Sem.run_bind, run_litMade mo _ _ _ _ _ _ h32, Result.andThen_ok, Sem.run_pure]
  exact hK _ _ (h _ _ (SlR.lit1 (R := madeR) (y := mo) (c := mo.cells (.slice a1 mo.inside.length c1) (.slice a2 mo.sub.e.box.length c2)) ⟨h32, _, _, rfl, slB_own hi, slB_own hb⟩) (Ext.alloc _ _))
theorem letter_ne {α : Type} {R : Rp α} {w : World} {B n : Nat} {v : Value} {l : List α} {g : Nat} {cs : Array Value} {t : TypeId} (h : OwR R B n w v l) (hb : Blk w g cs t) (ht : t ≠ R.ty) : v.ownBlock ≠ some g := fun e => by
  obtain ⟨cs', fr, h'⟩ := h.row g e
  unfold Blk at hb; rw [hb] at h'; cases h'; exact ht rfl
theorem MkB.row {w u u' : World} {A : Nat} {s : Int} {m : Nat} {now vg : Value} {G : List Nat} {vl : Value} {ls : List (List Pub)} {vset : Value} {set : List Int} {vout : Value} {O : List MadeO} (h : MkB w A s m now vg G vl ls vset set vout O u) {L : Nat} {cs : Array Value} (hg : u.grownBy u' (some L)) (hb : Blk u L cs 59) (hL : w.heap.size ≤ L) (hAL : A ≠ L) : MkB w A s m now vg G vl ls vset set vout O u' :=
  have hs : ∀ T : List TypeId, 59 ∉ T → Same 0 T u u' := fun T hT => Same.grown hg (RowT.blk hb) hT (fun _ _ => Nat.zero_le _)
  ⟨h.ag.grownBy hg (some_ne hAL), h.keys.keep (hs _ (by decide)), h.set.keep (hs _ (by decide)), h.out.keep (hs _ (by decide)),
    ⟨hg.os.trans h.mod.os, hg.tape.trans h.mod.tape, hg.output.trans h.mod.output, Nat.le_trans h.mod.size hg.size, fun k hk hn => (hg.block k (Nat.lt_of_lt_of_le hk h.mod.size) (some_ne (by omega))).trans (h.mod.block k hk hn)⟩,
    ⟨Nat.le_trans h.kx.size hg.size, fun k cs t fr h1 h2 => by
      have hk := (Array.getElem?_eq_some_iff.1 h1).1
      exact (hg.block k (Nat.lt_of_lt_of_le hk h.mod.size) (some_ne (by omega))).trans (h.kx.same k cs t fr h1 h2)⟩⟩
theorem pay_len {w : World} {v : Value} {l : List (List UInt8)} (h : OwR payR 0 0 w v l) : ∀ p ∈ l, p.length = 32 := fun p hp => by
  obtain ⟨i, hi, rfl⟩ := List.getElem_of_mem hp
  obtain ⟨chs, h1, h2⟩ := h
  have hc : chs[i]? = some (chs[i]'(by rw [h1.1]; exact hi)) := List.getElem?_eq_getElem _
  exact (h1.2 i _ _ hc (List.getElem?_eq_getElem hi)).1
theorem note_len (q : PeerL) (h : ∀ p ∈ q.said, p.length = 32) : q.note.pay.length = 32 := by
  unfold PeerL.note
  by_cases hl : q.from < q.said.length
  · rw [if_pos hl, List.getD_eq_getElem?_getD, List.getElem?_eq_getElem hl]; exact h _ (List.getElem_mem hl)
  · rw [if_neg hl]; rfl
theorem note_in (q : PeerL) (hl : q.said.length ≤ 1000) (h3 : q.taken ≤ 1000000) : in64 (q.note.seq : Int) ∧ in64 (q.note.ack : Int) := by
  unfold PeerL.note
  by_cases h : q.from < q.said.length
  · rw [if_pos h]; exact ⟨⟨by simp only; omega, by simp only; omega⟩, ⟨by simp only; omega, by simp only; omega⟩⟩
  · rw [if_neg h]; exact ⟨⟨by simp, by simp⟩, ⟨by simp only; omega, by simp only; omega⟩⟩
/-- What is kept while a letter to the peer is made. -/
def TlkS (A : Nat) (s : Int) (m P : Nat) (vg : Value) (pub : Int) (u : World) : Prop := AgB u A s m (.pointer (some ⟨P, 0, none⟩)) vg ∧ u.cell? ⟨P, 0, none⟩ = some (.int .u64 pub)
theorem tlkStab (A : Nat) (s : Int) (m P : Nat) (vg : Value) (pub : Int) : Stab (TlkS A s m P vg pub) := fun u u' ⟨h1, h2⟩ hb => ⟨h1.below hb, (Below.cell hb (World.block_lt_of_cell? u _ h2)).trans h2⟩
def MkRel (w : World) (A : Nat) (s : Int) (m : Nat) (now vg : Value) (G : List Nat) (vl : Value) (ls : List (List Pub)) (vset : Value) (set : List Int) (f : Nat → List MadeO) (PE : Nat → World → Prop) (vout i : Value) (wr : World) : Prop :=
  ∃ k : Nat, k ≤ set.length ∧ i = .int .i64 k ∧ MkB w A s m now vg G vl ls vset set vout (f k) wr ∧ PE k wr
/-- The peer, before and behind its onion. -/
def peK (at_ round : Int) (q : PeerL) (k : Nat) : PeerL := if 0 ≤ at_ ∧ at_ < k then q.sends round else q
structure MkIn (s round : Int) (ls : List (List Pub)) (set : List Int) (n : Nat) (w : World) : Prop where
  hs : in64 s
  r0 : 0 ≤ round
  r1 : round ≤ 1099511627776
  n1 : 1 ≤ n
  n2 : n ≤ 1000
  ll : ls.length = n
  ok : ∀ ks ∈ ls, (∀ p ∈ ks, p.ok) ∧ ks.length ≤ 100
  sl : set.length ≤ 90
  sin : ∀ x ∈ set, ∃ c : Nat, x = c ∧ c < n
  itr : ItoaM round w

set_option maxRecDepth 100000 in
set_option maxHeartbeats 4000000 in
theorem MakeT_any (A : Nat) (s : Int) (m P : Nat) (vg vs vl : Value) (q : PeerL) (ls : List (List Pub)) (round : Int) (n : Nat) (w : World) (hI : MkIn s round ls (setS s n) n w) (hA : AgB w A s m (.pointer (some ⟨P, 0, none⟩)) vg) (hP : PeB w P q vs) (hq : in64 q.pub)
    (hsd : OwR payR 0 0 w vs q.said) (hl : q.said.length ≤ 1000) (h1 : q.sent ≤ 1000) (h2 : q.took ≤ 1000) (h3 : q.taken ≤ 1000000) (hls : SlR pubsR 0 w vl ls) :
    Calls Tryz.prog 44 #[.pointer (some ⟨A, 0, none⟩), .int .i64 round, .int .i64 n, vl] w fun e w' => ∃ v, e = .returned (.tuple #[v, .int .i64 0]) ∧
      MkB w A s m (.pointer (some ⟨P, 0, none⟩)) vg [P] vl ls (.slice none 0 0) [] v (outsO s round ls (setS s n) (ltS s round (atS s q.pub n) q) (setS s n).length) w' ∧ PeB w' P (peK (atS s q.pub n) round q (setS s n).length) vs ∧ OwR payR 0 0 w' vs q.said := by
  have HI := Lib.hid hI; clear hI
  have HPL := Lib.hid (Plan1_any A s m P vg vs q n w hA hP hq HI.out.hs HI.out.n1 HI.out.n2)
  have hll := HI.out.ll
  have hslb := HI.out.sl
  obtain ⟨r0, r1⟩ : 0 ≤ round ∧ round ≤ 1099511627776 := ⟨HI.out.r0, HI.out.r1⟩
  obtain ⟨n1, n2⟩ : 1 ≤ n ∧ n ≤ 1000 := ⟨HI.out.n1, HI.out.n2⟩
  obtain ⟨al, cl, rfl, -, -⟩ := hls.form
  have HA := Lib.hid hA; have HP := Lib.hid hP; have HLS := Lib.hid hls; have HSD := Lib.hid hsd
  generalize setS s n = set at *
  generalize atS s q.pub n = at_ at *
  clear hA hP hls hsd
  go_enter Tryz.func44, Tryz.ntmps44
  go_wp2_with (first
    | (go_at_call 70; refine HPL.out.mono ?_; rintro e x0 ⟨v0, rfl, hset0, e0⟩; obtain ⟨a0, c0, rfl, -, -⟩ := hset0.form))
  have hst0 := Lib.hid (show MkRel w A s m (.pointer (some ⟨P, 0, none⟩)) vg [P] (.slice al ls.length cl) ls (.slice a0 set.length c0) set (outsO s round ls set (ltS s round at_ q)) (fun k u => PeB u P (peK at_ round q k) vs ∧ OwR payR 0 0 u vs q.said) (.slice none 0 0) (.int .i64 0) x0 from
    ⟨0, Nat.zero_le _, rfl, ⟨HA.out.below e0, HLS.out.ext e0, owI_mono hset0 (Nat.le_refl _), OwR.nil _ _ _, e0.mod _, e0.kx⟩, by
      unfold peK; rw [if_neg (by omega)]; exact HP.out.below e0, HSD.out.ext e0⟩)
  clear hset0 e0
  have hAP : A ≠ P := fun e => by subst e; have h1 := HA.out; have h2 := HP.out; unfold AgB Blk at h1; unfold PeB Blk at h2; rw [h1] at h2; cases h2
  go_loopw [12, 13, 14, 15, 16, 17, 18, 19, 48] (fun vout _ _ _ _ _ _ _ i wr => MkRel w A s m (.pointer (some ⟨P, 0, none⟩)) vg [P] (.slice al ls.length cl) ls (.slice a0 set.length c0) set (outsO s round ls set (ltS s round at_ q)) (fun k u => PeB u P (peK at_ round q k) vs ∧ OwR payR 0 0 u vs q.said) vout i wr) (fun _ _ _ _ _ _ _ _ i _ => set.length - (intOf i).toNat)
  case atStart => exact hst0.out
  case round =>
    clear hst0
    obtain ⟨k, hk, rfl, hM, hPE⟩ := hrel
    have HM := Lib.hid hM
    obtain ⟨ao, co, rfl, -, -⟩ := hM.out.form
    by_cases hlt : k < set.length
    · obtain ⟨b1, o1, c1', he, -, -⟩ := hM.set.sl.open (by omega)
      cases he
      have hcs := slI_at hM.set.sl k set[k] (List.getElem?_eq_getElem hlt)
      obtain ⟨c, hce, hcn⟩ := HI.out.sin _ (List.getElem_mem hlt)
      have hgd : set.getD k 0 = (c : Int) := by rw [List.getD_eq_getElem?_getD, List.getElem?_eq_getElem hlt]; exact hce
      rw [hce] at hcs
      have hll := HI.out.ll
      have hks : ls[c]? = some (ls[c]'(by omega)) := List.getElem?_eq_getElem _
      obtain ⟨hok, hkl⟩ := HI.out.ok _ (List.getElem_mem (show c < ls.length by omega))
      have hlg : ls.getD c [] = ls[c]'(by omega) := by rw [List.getD_eq_getElem?_getD, hks]; rfl
      obtain ⟨b2, o2, c2', he, -, -⟩ := hM.keys.open (by omega)
      cases he
      obtain ⟨ks, hkse⟩ : ∃ ks, ls[c]'(by omega) = ks := ⟨_, rfl⟩
      rw [hkse] at hks hok hkl hlg
      have hone : oneO s round ls set (ltS s round at_ q) k = ⟨c, drawW s round k 0, envB (innerP ks) (drawW s round k 2) ((ltS s round at_ q) k).1 ((ltS s round at_ q) k).2, onionL ks s (drawW s round k 0) (drawW s round k 1) round c (envB (innerP ks) (drawW s round k 2) ((ltS s round at_ q) k).1 ((ltS s round at_ q) k).2)⟩ := by
        unfold oneO; rw [hgd, Int.toNat_natCast, hlg]
      have HONE := Lib.hid hone
      have HSU := Lib.hid (outsO_succ s round ls set (ltS s round at_ q) k)
      have HKS := Lib.hid hks; have HOK := Lib.hid hok
      have HOL := Lib.hid (length_outsO s round ls set (ltS s round at_ q) k)
      generalize outsO s round ls set (ltS s round at_ q) k = O at *
      clear hce hkse hgd hlg hone hks hok hll
      have HD := Lib.hid (Draws_any A s m (.pointer (some ⟨P, 0, none⟩)) vg round (k : Int) wr hM.ag HI.out.hs ⟨by omega, by omega⟩ ⟨by have := HI.out.sl; omega, by have := HI.out.sl; omega⟩ (by
        intro z hz; simp at hz
        rcases hz with rfl | rfl
        · exact HI.out.itr wr hM.kx
        · exact itoa_small wr _ (by omega) (by have := HI.out.sl; omega)))
      obtain ⟨d00, d01⟩ := drawW_in s round k 0
      obtain ⟨d10, d11⟩ := drawW_in s round k 1
      obtain ⟨d20, d21⟩ := drawW_in s round k 2
      generalize drawW s round k 0 = d0 at *
      generalize drawW s round k 1 = d1 at *
      generalize drawW s round k 2 = d2 at *
      have HSIN := Lib.hid (show ltS s round at_ q k = if (k : Int) = at_ then talkL s round q else loopL s round from rfl)
      have HNL := Lib.hid (show (nameL (timesP 37 s)).length = 32 from length_nameL _)
      have HLP := Lib.hid (fun W => Loop_any s round W HI.out.hs)
      have HLB := Lib.hid (length_loopB s round)
      have HQE := Lib.hid (fun (u u' : World) (h : PeB u P (peK at_ round q (k + 1)) vs ∧ OwR payR 0 0 u vs q.said) (e : Ext u u') => (show PeB u' P (peK at_ round q (k + 1)) vs ∧ OwR payR 0 0 u' vs q.said from ⟨h.1.below e, h.2.ext e⟩))
      have HQA := Lib.hid (fun (u u' : World) (v : Value) (O : List MadeO) (n : Nat) (h : PeB u P (peK at_ round q (k + 1)) vs ∧ OwR payR 0 0 u vs q.said) (ho : OwR madeR 0 n u v O) (hg : u.grownBy u' v.ownBlock) => (show PeB u' P (peK at_ round q (k + 1)) vs ∧ OwR payR 0 0 u' vs q.said from ⟨h.1.grownBy hg (made_ne ho h.1 (by decide)), h.2.keep (Same.grown hg ho.row (by decide) (fun _ _ => Nat.zero_le _))⟩))
      by_cases hat : (k : Int) = at_
      · have hlt2 : ltS s round at_ q k = (nameL q.pub, talkB s q.pub round q.note.seq q.note.ack q.note.pay) := by rw [HSIN.out, if_pos hat]; rfl
        rw [hlt2] at HONE
        have hbe : ((k : Int) == at_) = true := by rw [beq_iff_eq]; exact hat
        have hpk0 : peK at_ round q k = q := by unfold peK; rw [if_neg (by omega)]
        have hpk1 : peK at_ round q (k + 1) = q.sends round := by unfold peK; rw [if_pos (by omega)]
        rw [hpk0] at hPE
        have HPK := Lib.hid hpk1
        clear hlt2 hpk0 hpk1 hat
        generalize nameL (timesP 37 s) = TO0 at *
        generalize loopB s round = BODY0 at *
        have HNL0 := HNL
        go_wp2_with (first
          | (go_at_call 71; refine HD.out.mono ?_; rintro e y1 ⟨rfl, e1⟩; have hc1 : y1.cell? ⟨A, 0, none⟩ = some (.int .u64 s) := (by rw [(hM.ag.below e1).cell]; rfl))
          | (go_at_call 72; refine (HLP.out _).mono ?_; rintro e y2 ⟨v2, rfl, hown2, hb2⟩; obtain ⟨a2, c2, rfl, -, -⟩ := owns_form hown2; have e2 : Ext wr y2 := Ext.tr e1 hb2)
          | (refine wpList_allocB rfl _ rfl _ run_allocLet ?_; intro y3 L hL hL0 e3)
          | (refine wpList_store_row rfl 59 _ _ rfl L (letC TO0 (.slice a2 BODY0.length c2)) _ _ rfl rfl hL (by rw [letC_size _ _ HNL0.out]; rfl) (by rw [letC_size _ _ HNL0.out]; exact info_let) (one_let _ _ _ _) ?_; intro x hgx hsx hLx
             have ex : Ext wr x := ext_row (Ext.tr e2 e3) hgx (Nat.le_trans e2.size hL0)
             have hox := own_grown (owns_below hown2 e3) hgx (RowT.blk hL) (by decide)
             clear hgx hsx hL))
        have hMx := hM.ext ex
        have hLw : w.heap.size ≤ L := Nat.le_trans hM.mod.size (Nat.le_trans e2.size hL0)
        have hPlt := Nat.lt_of_lt_of_le HP.out.lt hM.mod.size
        have hLP : L ≠ P := by have := HP.out.lt; omega
        have hAL : A ≠ L := by have := hM.ag.lt; have := e2.size; omega
        have hstab := tlkStab A s m P vg q.pub
        have hpx : PeB x.drew P q vs := (hPE.1.below ex).drew
        have hsx0 : OwR payR 0 0 x.drew vs q.said := (hPE.2.ext ex).payKeep (fun _ _ => rfl)
        have hax : AgB x.drew A s m (.pointer (some ⟨P, 0, none⟩)) vg := hMx.ag.drew
        have hk11 : HoldT (TlkS A s m P vg q.pub) (wEmp x) x.drew := ⟨⟨hax, by rw [hpx.cell]; rfl⟩, below_emp rfl rfl rfl⟩
        have hq0 : ∀ e : InC (TlkS A s m P vg q.pub), e.u.cell? ⟨A, 0, none⟩ = some (.int .u64 s) := fun e => by rw [e.has.1.cell]; rfl
        have hq2 : ∀ e : InC (TlkS A s m P vg q.pub), e.u.cell? ⟨A, 2, none⟩ = some (.pointer (some ⟨P, 0, none⟩)) := fun e => by rw [e.has.1.cell]; rfl
        have hqp : ∀ e : InC (TlkS A s m P vg q.pub), e.u.cell? ⟨P, 0, none⟩ = some (.int .u64 q.pub) := fun e => e.has.2
        have HNO := Lib.hid (Note1_any A s m P vg vs q round _ hax hpx hsx0 hl h1 h2 h3)
        have HPL2 := Lib.hid (note_len q (pay_len hsx0))
        have HIN2 := Lib.hid (note_in q hl h3)
        have HTK := Lib.hid (fun W => Talk_any s q.pub round q.note.seq q.note.ack q.note.pay W HI.out.hs hq HIN2.out.1 HIN2.out.2 HPL2.out)
        have HTB := Lib.hid (length_talkB s q.pub round q.note.seq q.note.ack q.note.pay HPL2.out)
        have HNQ := Lib.hid (show (nameL q.pub).length = 32 from length_nameL _)
        have HMX0 := Lib.hid hMx.drew
        have hLd : Blk x.drew L (letC TO0 (.slice a2 BODY0.length c2)) 59 := hLx.drew
        clear hMx hLx hox
        generalize talkB s q.pub round q.note.seq q.note.ack q.note.pay = BODY at *
        generalize noteC q.note.seq q.note.ack q.note.pay = NC at *
        generalize nameL q.pub = TO at *
        generalize hsq : q.sends round = q2 at *
        have HSQ := Lib.hid hsq
        have hq2p : q2.pub = q.pub := by rw [← hsq]; rfl
        have hq2s : q2.said = q.said := by rw [← hsq]; rfl
        clear hsq
        try change Code.wp _ _ _ (Act.mk _ _) _
        haveI hne_ : Nonempty (InC (TlkS A s m P vg q.pub)) := ⟨⟨_, (hk11).1⟩⟩
        refine wp_region_tr (C := fun w_ => ∃ e_ : InC (TlkS A s m P vg q.pub), w_ = e_.u) (.step [0, 1, 2, 3, 4, 5, 6, 7, 8, 9, 10, 11, 12, 13] (.alt 14 (.step [] (.alt 15 (.step [] (.alt 16 (.fin []) .nil)) .nil)) .nil)) (by kernel_rfl) (by kernel_rfl) (fun _ _ _ _ hd_ h_ => ⟨hd_.symm.trans h_.1, h_.2⟩) ⟨⟨World.drew _, (hk11).1⟩, rfl⟩ ?_
        have hk_ := hk11
        repeat' (first
          | ((with_reducible refine wpTr_fin ?_)
             simp only [pickOps, List.flatMap_cons, List.flatMap_nil, List.drop_succ_cons, List.drop_zero, List.take_succ_cons, List.take_zero, List.cons_append, List.nil_append, List.append_nil]
             repeat (go_big_quiet_step (exact rfl))
             refine wpQuiet_nil ?_)
          | ((with_reducible refine wpTr_step ?_); simp only [pickOps, List.flatMap_cons, List.flatMap_nil, List.drop_succ_cons, List.drop_zero, List.take_succ_cons, List.take_zero, List.cons_append, List.nil_append, List.append_nil]; repeat (go_big_quiet_step (exact rfl))
             refine wpQuiet_nil ?_)
          | (with_reducible refine wpTr_one ?_)
          | (with_reducible refine wpTr_alt ?_ ?_)
          | (simp only [pickOps, List.flatMap_cons, List.flatMap_nil, List.drop_succ_cons, List.drop_zero, List.take_succ_cons, List.take_zero, List.cons_append, List.nil_append, List.append_nil]
             go_wp2_with (first
          | (go_at_call 74; refine HNO.out.mono ?_; rintro e y4 ⟨rfl, hP4, hm4⟩
             have hM4 := HMX0.out.note hpx hm4 (by simp) hAP
             have hk4 : HoldT (TlkS A s m P vg q.pub) (wEmp x) y4 := ⟨⟨hM4.ag, by rw [hP4.cell, ← hq2p]; rfl⟩, below_emp hm4.os hm4.tape hm4.output⟩
             have hL4 := hm4.blk hLd (by simp; exact hLP)
             have hs4 : OwR payR 0 0 y4 vs q.said := hsx0.payKeep (fun k hk => hm4.block k (hsx0.lt k hk).2 (by simp; exact fun e => pay_ne hsx0 hpx (by decide) (by rw [hk, e]))))
          | (go_at_call 73; refine (HTK.out _).mono ?_; rintro e y5 ⟨v5, rfl, hown5, hb5⟩; obtain ⟨a5, c5, rfl, -, -⟩ := owns_form hown5; have e5 : Ext y4 y5 := hb5; have hk5 := HoldT.step hstab hk_ e5)
          | (refine wpList_store_row rfl 59 _ _ rfl L (letC TO (.slice a5 BODY.length c5)) _ _ rfl rfl (hL4.below e5) (by rw [letC_size _ _ HNL0.out, letC_size _ _ HNQ.out]) (by rw [letC_size _ _ HNQ.out]; exact info_let) (one_let _ _ _ _) ?_; intro z hgz hsz hLz
             have hk6 : HoldT (TlkS A s m P vg q.pub) (wEmp x) z := ⟨⟨hk_.has.1.grownBy hgz (some_ne hAL), by rw [((hP4.below e5).grownBy hgz (some_ne hLP.symm)).cell, ← hq2p]; rfl⟩, below_emp (hgz.os.trans hk_.up.os) (hgz.tape.trans hk_.up.tape) (hgz.output.trans hk_.up.output)⟩))
             refine phPost_hold (by first | with_reducible assumption | exact HoldT.alloc hstab (by with_reducible assumption) _ | exact HoldT.alloc hstab (HoldT.alloc hstab (by with_reducible assumption) _) _) ?_
             intro hk_))
        go_wp2_with fail
        have hMx := (hM4.ext e5).row hgz (hL4.below e5) hLw hAL
        have hox := own_grown hown5 hgz (RowT.blk (hL4.below e5)) (by decide)
        have hLx := hLz
        have hPx : PeB z P (peK at_ round q (k + 1)) vs ∧ OwR payR 0 0 z vs q.said := (by rw [HPK.out]; exact ⟨(hP4.below e5).grownBy hgz (some_ne hLP.symm), (hs4.ext e5).payKeep (fun k hk => hgz.block k (by have := (hs4.lt k hk).2; have := e5.size; omega) (fun e => letter_ne (hs4.ext e5) (hL4.below e5) (by decide) (by rw [hk, e])))⟩)
        obtain ⟨x', hx'⟩ : ∃ x', x' = x := ⟨_, rfl⟩
        clear hx'
        clear hsz hL4 hs4 hgz hown5 hM4 hk11 hax hpx hsx0 hq0 hq2 hqp hLd hLz
        obtain ⟨x, rfl⟩ : ∃ x, x = z := ⟨_, rfl⟩
        obtain ⟨vk, hck, hsk⟩ := hMx.keyAt rfl c ks HKS.out
        obtain ⟨ak, ck, rfl, -, -⟩ := hsk.form
        have hcklt := World.block_lt_of_cell? x _ hck
        have HIK := Lib.hid (fun (W : World) (v : Value) (h : SeesP W v ks) => InnerK_any ks v W h HOK.out (by omega))
        have HIP := Lib.hid (show in64 (innerP ks) from in64_P (in64_prodP _ 1 (by decide) (by decide)))
        have HIL := Lib.hid (length_envB (innerP ks) d2 TO BODY)
        have HMX := Lib.hid hMx; have HLx := Lib.hid hLx; have HSK := Lib.hid hsk; have HOX := Lib.hid hox; have HCK := Lib.hid hck; have HPX := Lib.hid (show (fun u => PeB u P (peK at_ round q (k + 1)) vs ∧ OwR payR 0 0 u vs q.said) x from hPx)
        have HEN := Lib.hid (fun (W : World) (h : SeesB W (.slice a5 BODY.length c5) BODY) => Envelope_any (innerP ks) d2 TO BODY (.slice a5 BODY.length c5) W HIP.out ⟨d20, d21⟩ HNQ.out h (by rw [HTB.out]; decide))
        obtain ⟨IN, hIN⟩ : ∃ IN, envB (innerP ks) d2 TO BODY = IN := ⟨_, rfl⟩
        rw [hIN] at HONE HIL HEN
        clear hIN hMx hLx hsk hox hck hPx
        generalize innerP ks = IP at *
        have hst := stabExt x
        have hk12 : HoldT (fun u => Ext x u) x x.drew := HoldT.drew hst ⟨Ext.refl _, Ext.refl _⟩
        try change Code.wp _ _ _ (Act.mk _ _) _
        refine wp_region_runR Ext 9 117 (HoldT (fun u => Ext x u) _) [[], [], [(0, 86), (1, 87)], [(2, 88)], [(3, 89)], [], [], [(4, 90), (5, 91), (6, 92)], [(7, 93)]] [(0, 86), (1, 87), (2, 88), (3, 89), (4, 90), (5, 91), (6, 92), (7, 93), (8, 19)] (by kernel_rfl) (by kernel_rfl) (by first | rfl | simp) (hk12) ?_
        simp only [List.take_succ_cons, List.take_zero, List.drop_succ_cons, List.drop_zero]
        refine sp_op (Ph.eq _) (fun u hu => by
          refine spArg_nil ?_
          have kck : u.cell? ⟨b2, o2 + c, none⟩ = some (.slice ak ks.length ck) := (Below.cell hu.has hcklt).trans HCK.out
          go_wp2_with (fail)
          exact ⟨rfl, hu, Ext.refl _, slot_eq rfl⟩) ?_
        refine sp_op (Ph.eq _) (fun u hu => by
          refine spArg_nil ?_
          have kck : u.cell? ⟨b2, o2 + c, none⟩ = some (.slice ak ks.length ck) := (Below.cell hu.has hcklt).trans HCK.out
          go_wp2_with (fail)
          exact ⟨rfl, hu, Ext.refl _, slot_eq rfl⟩) ?_
        refine sp_op (Ph.eq _) (fun u hu => by
          refine spArg_eq 1 rfl rfl ?_
          refine spArg_eq 0 rfl rfl ?_
          refine spArg_nil ?_
          simp only [Act.put, List.setIfInBounds_toArray, List.set_cons_succ, List.set_cons_zero]
          have kck : u.cell? ⟨b2, o2 + c, none⟩ = some (.slice ak ks.length ck) := (Below.cell hu.has hcklt).trans HCK.out
          go_wp2_with (fail)
          exact ⟨rfl, hu, Ext.refl _, slot_eq rfl⟩) ?_
        refine sp_op (Ph.eq _) (fun u hu => by
          refine spArg_eq 0 rfl rfl ?_
          refine spArg_nil ?_
          simp only [Act.put, List.setIfInBounds_toArray, List.set_cons_succ, List.set_cons_zero]
          have kck : u.cell? ⟨b2, o2 + c, none⟩ = some (.slice ak ks.length ck) := (Below.cell hu.has hcklt).trans HCK.out
          go_wp2_with (fail)
          exact ⟨rfl, hu, Ext.refl _, slot_eq rfl⟩) ?_
        refine sp_op (Ph.eq _) (fun u hu => by
          refine spArg_eq 0 rfl rfl ?_
          refine spArg_nil ?_
          simp only [Act.put, List.setIfInBounds_toArray, List.set_cons_succ, List.set_cons_zero]
          have kck : u.cell? ⟨b2, o2 + c, none⟩ = some (.slice ak ks.length ck) := (Below.cell hu.has hcklt).trans HCK.out
          go_wp2_with ((go_at_call 76; refine (HIK.out _ _ ((HSK.out.pubs).below hu.has (by decide))).mono ?_; rintro e_ x_ ⟨rfl, hb_⟩))
          exact ⟨rfl, HoldT.step hst hu hb_, hb_, slot_eq rfl⟩) ?_
        refine sp_op (Ph.eq _) (fun u hu => by
          refine spArg_nil ?_
          have kck : u.cell? ⟨b2, o2 + c, none⟩ = some (.slice ak ks.length ck) := (Below.cell hu.has hcklt).trans HCK.out
          go_wp2_with (fail)
          exact ⟨rfl, hu, Ext.refl _, slot_eq rfl⟩) ?_
        refine sp_op (Ph.eq _) (fun u hu => by
          refine spArg_nil ?_
          have kck : u.cell? ⟨b2, o2 + c, none⟩ = some (.slice ak ks.length ck) := (Below.cell hu.has hcklt).trans HCK.out
          go_wp2_with ((refine wpList_load_rowG rfl 59 _ rfl (L) rfl _ _ (0, 0) _ (HLx.out.below hu.has) Tryz.underlying59 rfl (by rw [letC_size _ _ HNQ.out]; exact info_let) ?_))
          exact ⟨rfl, hu, Ext.refl _, slot_eq rfl⟩) ?_
        refine sp_op (Ph.ownB x.heap.size IN) (fun u hu => by
          refine spArg_eq 2 rfl rfl ?_
          refine spArg_eq 1 rfl rfl ?_
          refine spArg_eq 0 rfl rfl ?_
          refine spArg_nil ?_
          simp only [Act.put, List.setIfInBounds_toArray, List.set_cons_succ, List.set_cons_zero]
          have kck : u.cell? ⟨b2, o2 + c, none⟩ = some (.slice ak ks.length ck) := (Below.cell hu.has hcklt).trans HCK.out
          go_wp2_with ((go_at_call 75; refine (HEN.out _ ((sees_of_owns HOX.out).below hu.has (by decide))).mono ?_; rintro e_ x_ ⟨v_, rfl, hown_, hb_⟩))
          exact ⟨rfl, HoldT.step hst hu hb_, hb_, slot_of rfl (owns_mono hown_ hu.up.size)⟩) ?_
        refine sp_op (Ph.ownB x.heap.size IN) (fun u hu => by
          refine spArg_in (φ := Ph.ownB x.heap.size IN) 0 rfl rfl ?_; intro v7 h7
          refine spArg_nil ?_
          simp only [Act.put, List.setIfInBounds_toArray, List.set_cons_succ, List.set_cons_zero]
          have kck : u.cell? ⟨b2, o2 + c, none⟩ = some (.slice ak ks.length ck) := (Below.cell hu.has hcklt).trans HCK.out
          go_wp2_with (fail)
          exact ⟨rfl, hu, Ext.refl _, slot_of rfl h7⟩) ?_
        refine sp_end ?_
        intro u hu
        refine spArg_eq 8 rfl rfl ?_
        refine spArg_eq 7 rfl rfl ?_
        refine spArg_eq 6 rfl rfl ?_
        refine spArg_eq 5 rfl rfl ?_
        refine spArg_eq 4 rfl rfl ?_
        refine spArg_eq 3 rfl rfl ?_
        refine spArg_eq 2 rfl rfl ?_
        refine spArg_in (φ := Ph.ownB x.heap.size IN) 1 rfl rfl ?_; intro v7 h7
        refine spArg_in (φ := Ph.ownB x.heap.size IN) 0 rfl rfl ?_; intro v8 h8
        obtain ⟨a8, c8, rfl, -, -⟩ := owns_form h8
        refine spArg_nil ?_
        simp only [Act.put, List.setIfInBounds_toArray, List.set_cons_succ, List.set_cons_zero]
        obtain ⟨y, rfl⟩ : ∃ y, y = u := ⟨_, rfl⟩
        have hxy : Ext x y := hu.has
        have HMY := Lib.hid (HMX.out.ext hxy)
        have HI8 := Lib.hid h8
        have HPY := Lib.hid (HQE.out _ _ HPX.out hxy)
        clear h8 h7 hu
        go_wp2_with fail
        have HOM := Lib.hid (fun (W : World) (h : SeesP W (.slice ak ks.length ck) ks) (h2 : SeesB W (.slice a8 IN.length c8) IN) => OMake_any ks s d0 d1 round c IN _ _ W h HOK.out HI.out.hs ⟨d00, d01⟩ ⟨d10, d11⟩ h2 (by have h1 := HIL.out; have h3 := HNQ.out; have h4 := HTB.out; omega) (by omega))
        have HSB := Lib.hid (show (onionL ks s d0 d1 round c IN).user.length = 32 from submitL_user _ _ _ _ _)
        generalize onionL ks s d0 d1 round c IN = SB at *
        have hst := stabExt y
        have hk13 : HoldT (fun u => Ext y u) y y.drew := HoldT.drew hst ⟨Ext.refl _, Ext.refl _⟩
        have HCY := Lib.hid ((Below.cell hxy hcklt).trans HCK.out)
        have hcylt := Nat.lt_of_lt_of_le hcklt hxy.size
        try change Code.wp _ _ _ (Act.mk _ _) _
        refine wp_region_runR Ext 20 117 (HoldT (fun u => Ext y u) _) [[], [], [], [], [], [], [(4, 98), (5, 99)], [(6, 100)], [], [(8, 102)], [(9, 103)], [(10, 104)], [], [], [], [], [], [(7, 101), (11, 105), (12, 106), (13, 107), (14, 108), (15, 109), (16, 110)], [(1, 95), (2, 96), (3, 97), (17, 111)], [(18, 112)]] [(0, 94), (1, 95), (2, 96), (3, 97), (4, 98), (5, 99), (6, 100), (7, 101), (8, 102), (9, 103), (10, 104), (11, 105), (12, 106), (13, 107), (14, 108), (15, 109), (16, 110), (17, 111), (18, 112), (19, 113)] (by kernel_rfl) (by kernel_rfl) (by first | rfl | simp) (hk13) ?_
        simp only [List.take_succ_cons, List.take_zero, List.drop_succ_cons, List.drop_zero]
        refine sp_op (Ph.eq _) (fun u hu => by
          refine spArg_nil ?_
          have kck : u.cell? ⟨b2, o2 + c, none⟩ = some (.slice ak ks.length ck) := (Below.cell hu.has hcylt).trans HCY.out
          have kA : u.cell? ⟨A, 0, none⟩ = some (.int .u64 s) := (by rw [(HMY.out.ag.below hu.has).cell]; rfl)
          go_wp2_with (fail)
          exact ⟨rfl, hu, Ext.refl _, slot_eq rfl⟩) ?_
        refine sp_op (Ph.eq _) (fun u hu => by
          refine spArg_nil ?_
          have kck : u.cell? ⟨b2, o2 + c, none⟩ = some (.slice ak ks.length ck) := (Below.cell hu.has hcylt).trans HCY.out
          have kA : u.cell? ⟨A, 0, none⟩ = some (.int .u64 s) := (by rw [(HMY.out.ag.below hu.has).cell]; rfl)
          go_wp2_with (fail)
          exact ⟨rfl, hu, Ext.refl _, slot_eq rfl⟩) ?_
        refine sp_op (Ph.eq _) (fun u hu => by
          refine spArg_nil ?_
          have kck : u.cell? ⟨b2, o2 + c, none⟩ = some (.slice ak ks.length ck) := (Below.cell hu.has hcylt).trans HCY.out
          have kA : u.cell? ⟨A, 0, none⟩ = some (.int .u64 s) := (by rw [(HMY.out.ag.below hu.has).cell]; rfl)
          go_wp2_with (fail)
          exact ⟨rfl, hu, Ext.refl _, slot_eq rfl⟩) ?_
        refine sp_op (Ph.eq _) (fun u hu => by
          refine spArg_nil ?_
          have kck : u.cell? ⟨b2, o2 + c, none⟩ = some (.slice ak ks.length ck) := (Below.cell hu.has hcylt).trans HCY.out
          have kA : u.cell? ⟨A, 0, none⟩ = some (.int .u64 s) := (by rw [(HMY.out.ag.below hu.has).cell]; rfl)
          go_wp2_with (fail)
          exact ⟨rfl, hu, Ext.refl _, slot_eq rfl⟩) ?_
        refine sp_op (Ph.eq _) (fun u hu => by
          refine spArg_nil ?_
          have kck : u.cell? ⟨b2, o2 + c, none⟩ = some (.slice ak ks.length ck) := (Below.cell hu.has hcylt).trans HCY.out
          have kA : u.cell? ⟨A, 0, none⟩ = some (.int .u64 s) := (by rw [(HMY.out.ag.below hu.has).cell]; rfl)
          go_wp2_with (fail)
          exact ⟨rfl, hu, Ext.refl _, slot_eq rfl⟩) ?_
        refine sp_op (Ph.eq _) (fun u hu => by
          refine spArg_nil ?_
          have kck : u.cell? ⟨b2, o2 + c, none⟩ = some (.slice ak ks.length ck) := (Below.cell hu.has hcylt).trans HCY.out
          have kA : u.cell? ⟨A, 0, none⟩ = some (.int .u64 s) := (by rw [(HMY.out.ag.below hu.has).cell]; rfl)
          go_wp2_with (fail)
          exact ⟨rfl, hu, Ext.refl _, slot_eq rfl⟩) ?_
        refine sp_op (Ph.eq _) (fun u hu => by
          refine spArg_eq 1 rfl rfl ?_
          refine spArg_eq 0 rfl rfl ?_
          refine spArg_nil ?_
          simp only [Act.put, List.setIfInBounds_toArray, List.set_cons_succ, List.set_cons_zero]
          have kck : u.cell? ⟨b2, o2 + c, none⟩ = some (.slice ak ks.length ck) := (Below.cell hu.has hcylt).trans HCY.out
          have kA : u.cell? ⟨A, 0, none⟩ = some (.int .u64 s) := (by rw [(HMY.out.ag.below hu.has).cell]; rfl)
          go_wp2_with (fail)
          exact ⟨rfl, hu, Ext.refl _, slot_eq rfl⟩) ?_
        refine sp_op (Ph.eq _) (fun u hu => by
          refine spArg_eq 0 rfl rfl ?_
          refine spArg_nil ?_
          simp only [Act.put, List.setIfInBounds_toArray, List.set_cons_succ, List.set_cons_zero]
          have kck : u.cell? ⟨b2, o2 + c, none⟩ = some (.slice ak ks.length ck) := (Below.cell hu.has hcylt).trans HCY.out
          have kA : u.cell? ⟨A, 0, none⟩ = some (.int .u64 s) := (by rw [(HMY.out.ag.below hu.has).cell]; rfl)
          go_wp2_with (fail)
          exact ⟨rfl, hu, Ext.refl _, slot_eq rfl⟩) ?_
        refine sp_op (Ph.eq _) (fun u hu => by
          refine spArg_nil ?_
          have kck : u.cell? ⟨b2, o2 + c, none⟩ = some (.slice ak ks.length ck) := (Below.cell hu.has hcylt).trans HCY.out
          have kA : u.cell? ⟨A, 0, none⟩ = some (.int .u64 s) := (by rw [(HMY.out.ag.below hu.has).cell]; rfl)
          go_wp2_with (fail)
          exact ⟨rfl, hu, Ext.refl _, slot_eq rfl⟩) ?_
        refine sp_op (Ph.eq _) (fun u hu => by
          refine spArg_eq 0 rfl rfl ?_
          refine spArg_nil ?_
          simp only [Act.put, List.setIfInBounds_toArray, List.set_cons_succ, List.set_cons_zero]
          have kck : u.cell? ⟨b2, o2 + c, none⟩ = some (.slice ak ks.length ck) := (Below.cell hu.has hcylt).trans HCY.out
          have kA : u.cell? ⟨A, 0, none⟩ = some (.int .u64 s) := (by rw [(HMY.out.ag.below hu.has).cell]; rfl)
          go_wp2_with (fail)
          exact ⟨rfl, hu, Ext.refl _, slot_eq rfl⟩) ?_
        refine sp_op (Ph.eq _) (fun u hu => by
          refine spArg_eq 0 rfl rfl ?_
          refine spArg_nil ?_
          simp only [Act.put, List.setIfInBounds_toArray, List.set_cons_succ, List.set_cons_zero]
          have kck : u.cell? ⟨b2, o2 + c, none⟩ = some (.slice ak ks.length ck) := (Below.cell hu.has hcylt).trans HCY.out
          have kA : u.cell? ⟨A, 0, none⟩ = some (.int .u64 s) := (by rw [(HMY.out.ag.below hu.has).cell]; rfl)
          go_wp2_with (fail)
          exact ⟨rfl, hu, Ext.refl _, slot_eq rfl⟩) ?_
        refine sp_op (Ph.eq _) (fun u hu => by
          refine spArg_eq 0 rfl rfl ?_
          refine spArg_nil ?_
          simp only [Act.put, List.setIfInBounds_toArray, List.set_cons_succ, List.set_cons_zero]
          have kck : u.cell? ⟨b2, o2 + c, none⟩ = some (.slice ak ks.length ck) := (Below.cell hu.has hcylt).trans HCY.out
          have kA : u.cell? ⟨A, 0, none⟩ = some (.int .u64 s) := (by rw [(HMY.out.ag.below hu.has).cell]; rfl)
          go_wp2_with (fail)
          exact ⟨rfl, hu, Ext.refl _, slot_eq rfl⟩) ?_
        refine sp_op (Ph.eq _) (fun u hu => by
          refine spArg_nil ?_
          have kck : u.cell? ⟨b2, o2 + c, none⟩ = some (.slice ak ks.length ck) := (Below.cell hu.has hcylt).trans HCY.out
          have kA : u.cell? ⟨A, 0, none⟩ = some (.int .u64 s) := (by rw [(HMY.out.ag.below hu.has).cell]; rfl)
          go_wp2_with (fail)
          exact ⟨rfl, hu, Ext.refl _, slot_eq rfl⟩) ?_
        refine sp_op (Ph.eq _) (fun u hu => by
          refine spArg_nil ?_
          have kck : u.cell? ⟨b2, o2 + c, none⟩ = some (.slice ak ks.length ck) := (Below.cell hu.has hcylt).trans HCY.out
          have kA : u.cell? ⟨A, 0, none⟩ = some (.int .u64 s) := (by rw [(HMY.out.ag.below hu.has).cell]; rfl)
          go_wp2_with (fail)
          exact ⟨rfl, hu, Ext.refl _, slot_eq rfl⟩) ?_
        refine sp_op (Ph.eq _) (fun u hu => by
          refine spArg_nil ?_
          have kck : u.cell? ⟨b2, o2 + c, none⟩ = some (.slice ak ks.length ck) := (Below.cell hu.has hcylt).trans HCY.out
          have kA : u.cell? ⟨A, 0, none⟩ = some (.int .u64 s) := (by rw [(HMY.out.ag.below hu.has).cell]; rfl)
          go_wp2_with (fail)
          exact ⟨rfl, hu, Ext.refl _, slot_eq rfl⟩) ?_
        refine sp_op (Ph.eq _) (fun u hu => by
          refine spArg_nil ?_
          have kck : u.cell? ⟨b2, o2 + c, none⟩ = some (.slice ak ks.length ck) := (Below.cell hu.has hcylt).trans HCY.out
          have kA : u.cell? ⟨A, 0, none⟩ = some (.int .u64 s) := (by rw [(HMY.out.ag.below hu.has).cell]; rfl)
          go_wp2_with (fail)
          exact ⟨rfl, hu, Ext.refl _, slot_eq rfl⟩) ?_
        refine sp_op (Ph.eq _) (fun u hu => by
          refine spArg_nil ?_
          have kck : u.cell? ⟨b2, o2 + c, none⟩ = some (.slice ak ks.length ck) := (Below.cell hu.has hcylt).trans HCY.out
          have kA : u.cell? ⟨A, 0, none⟩ = some (.int .u64 s) := (by rw [(HMY.out.ag.below hu.has).cell]; rfl)
          go_wp2_with (fail)
          exact ⟨rfl, hu, Ext.refl _, slot_eq rfl⟩) ?_
        refine sp_op (Ph.sub y.heap.size SB) (fun u hu => by
          refine spArg_eq 9 rfl rfl ?_
          refine spArg_eq 5 rfl rfl ?_
          refine spArg_eq 4 rfl rfl ?_
          refine spArg_eq 3 rfl rfl ?_
          refine spArg_eq 2 rfl rfl ?_
          refine spArg_eq 1 rfl rfl ?_
          refine spArg_eq 0 rfl rfl ?_
          refine spArg_nil ?_
          simp only [Act.put, List.setIfInBounds_toArray, List.set_cons_succ, List.set_cons_zero]
          have kck : u.cell? ⟨b2, o2 + c, none⟩ = some (.slice ak ks.length ck) := (Below.cell hu.has hcylt).trans HCY.out
          have kA : u.cell? ⟨A, 0, none⟩ = some (.int .u64 s) := (by rw [(HMY.out.ag.below hu.has).cell]; rfl)
          go_wp2_with ((go_at_call 77; refine (HOM.out _ ((HSK.out.pubs).below (Ext.tr hxy hu.has) (by decide)) ((sees_of_owns HI8.out).below hu.has (by decide))).mono ?_; rintro e_ x_ ⟨v_, rfl, hown_, hb_⟩; obtain ⟨a_, c_, rfl, -, -⟩ := owns_form hown_))
          exact ⟨rfl, HoldT.step hst hu hb_, hb_, slot_of rfl ⟨a_, c_, rfl, owns_mono hown_ hu.up.size⟩⟩) ?_
        refine sp_op (Ph.made y.heap.size ⟨c, d0, IN, SB⟩ (.slice a8 IN.length c8)) (fun u hu => by
          refine spArg_eq 16 rfl rfl ?_
          refine spArg_eq 15 rfl rfl ?_
          refine spArg_eq 14 rfl rfl ?_
          refine spArg_in (φ := Ph.sub y.heap.size SB) 0 rfl rfl ?_; intro v17 h17
          obtain ⟨a17, c17, rfl, ho17⟩ := h17
          refine spArg_nil ?_
          simp only [Act.put, List.setIfInBounds_toArray, List.set_cons_succ, List.set_cons_zero]
          have kck : u.cell? ⟨b2, o2 + c, none⟩ = some (.slice ak ks.length ck) := (Below.cell hu.has hcylt).trans HCY.out
          have kA : u.cell? ⟨A, 0, none⟩ = some (.int .u64 s) := (by rw [(HMY.out.ag.below hu.has).cell]; rfl)
          go_wp2_with ((refine wpList_bld4 rfl 102 0 1 2 3 _ _ _ _ rfl (.int .i64 c) (.int .u64 d0) (.slice a8 IN.length c8) (.agg (subC SB (.slice a17 SB.e.box.length c17))) _ rfl rfl rfl rfl (run_buildMade ⟨c, d0, IN, SB⟩ a8 a17 IN.length c8 SB.e.box.length c17 HSB.out _) ?_))
          exact ⟨rfl, hu, Ext.refl _, slot_of rfl ⟨a17, c17, rfl, ho17⟩⟩) ?_
        refine sp_op (Ph.slM ⟨c, d0, IN, SB⟩) (fun u hu => by
          refine spArg_in (φ := Ph.made y.heap.size ⟨c, d0, IN, SB⟩ (.slice a8 IN.length c8)) 0 rfl rfl ?_; intro v18 h18
          obtain ⟨a18, c18, rfl, ho18⟩ := h18
          refine spArg_nil ?_
          simp only [Act.put, List.setIfInBounds_toArray, List.set_cons_succ, List.set_cons_zero]
          have kck : u.cell? ⟨b2, o2 + c, none⟩ = some (.slice ak ks.length ck) := (Below.cell hu.has hcylt).trans HCY.out
          have kA : u.cell? ⟨A, 0, none⟩ = some (.int .u64 s) := (by rw [(HMY.out.ag.below hu.has).cell]; rfl)
          go_wp2_with ((refine wpList_slitM rfl _ rfl ⟨c, d0, IN, SB⟩ a8 a18 c8 c18 HSB.out (owns_below HI8.out hu.has) ho18 rfl ?_; intro x19 B19 hl19 e19))
          exact ⟨rfl, HoldT.step hst hu e19, e19, slot_of rfl hl19⟩) ?_
        refine sp_end ?_
        intro u hu
        refine spArg_eq 19 rfl rfl ?_
        refine spArg_eq 18 rfl rfl ?_
        refine spArg_eq 17 rfl rfl ?_
        refine spArg_eq 16 rfl rfl ?_
        refine spArg_eq 15 rfl rfl ?_
        refine spArg_eq 14 rfl rfl ?_
        refine spArg_eq 13 rfl rfl ?_
        refine spArg_eq 12 rfl rfl ?_
        refine spArg_eq 11 rfl rfl ?_
        refine spArg_eq 10 rfl rfl ?_
        refine spArg_eq 9 rfl rfl ?_
        refine spArg_eq 8 rfl rfl ?_
        refine spArg_eq 7 rfl rfl ?_
        refine spArg_eq 6 rfl rfl ?_
        refine spArg_eq 5 rfl rfl ?_
        refine spArg_eq 4 rfl rfl ?_
        refine spArg_eq 3 rfl rfl ?_
        refine spArg_in (φ := Ph.sub y.heap.size SB) 2 rfl rfl ?_; intro v17 h17
        obtain ⟨a17, c17, rfl, ho17⟩ := h17
        refine spArg_in (φ := Ph.made y.heap.size ⟨c, d0, IN, SB⟩ (.slice a8 IN.length c8)) 1 rfl rfl ?_; intro v18 h18
        obtain ⟨a18, c18, rfl, ho18⟩ := h18
        refine spArg_in (φ := Ph.slM ⟨c, d0, IN, SB⟩) 0 rfl rfl ?_; intro v19 h19
        refine spArg_nil ?_
        simp only [Act.put, List.setIfInBounds_toArray, List.set_cons_succ, List.set_cons_zero]
        have HMU := Lib.hid (HMY.out.ext hu.has)
        have HPU := Lib.hid (HQE.out _ _ HPY.out hu.has)
        clear ho17 ho18
        go_wp2_with (first
          | (at_builtin; refine appRn madeR rfl _ _ 98 rfl Tryz.underlying98 info_madeZ rfl (by decide) (by decide) w.heap.size HMU.out.mod.size _ O rfl HMU.out.out _ [⟨c, d0, IN, SB⟩] rfl h19 (by have h1 := HOL.out; have h2 := HI.out.sl; simp only [List.length_cons, List.length_nil]; omega) ?_; intro v20 w20 hown20 hg20
             have hM20 := HMU.out.app hg20 hown20
             have hP20 := HQA.out _ _ _ _ _ HPU.out HMU.out.out hg20
             clear hg20))
        go_roundw
        case rel => exact ⟨k + 1, by omega, by go_num, by rw [HSU.out, HONE.out]; exact hM20, hP20⟩
        case measure => simp [intOf]; omega
      · have hlt2 : ltS s round at_ q k = (nameL (timesP 37 s), loopB s round) := by rw [HSIN.out, if_neg hat]; rfl
        rw [hlt2] at HONE
        have hbe : ((k : Int) == at_) = false := by rw [beq_eq_false_iff_ne]; exact hat
        have hpk : peK at_ round q (k + 1) = peK at_ round q k := by unfold peK; by_cases h : 0 ≤ at_ ∧ at_ < (k : Int) <;> simp [h] <;> omega
        have HPK := Lib.hid hpk
        clear hlt2 hpk hat
        generalize nameL (timesP 37 s) = TO at *
        generalize loopB s round = BODY at *
        go_wp2_with (first
          | (go_at_call 71; refine HD.out.mono ?_; rintro e y1 ⟨rfl, e1⟩; have hc1 : y1.cell? ⟨A, 0, none⟩ = some (.int .u64 s) := (by rw [(hM.ag.below e1).cell]; rfl))
          | (go_at_call 72; refine (HLP.out _).mono ?_; rintro e y2 ⟨v2, rfl, hown2, hb2⟩; obtain ⟨a2, c2, rfl, -, -⟩ := owns_form hown2; have e2 : Ext wr y2 := Ext.tr e1 hb2)
          | (refine wpList_allocB rfl _ rfl _ run_allocLet ?_; intro y3 L hL hL0 e3)
          | (refine wpList_store_row rfl 59 _ _ rfl L (letC TO (.slice a2 BODY.length c2)) _ _ rfl rfl hL (by rw [letC_size _ _ HNL.out]; rfl) (by rw [letC_size _ _ HNL.out]; exact info_let) (one_let _ _ _ _) ?_; intro x hgx hsx hLx
             have ex : Ext wr x := ext_row (Ext.tr e2 e3) hgx (Nat.le_trans e2.size hL0)
             have hox := own_grown (owns_below hown2 e3) hgx (RowT.blk hL) (by decide)
             clear hgx hsx hL))
        have hMx := hM.ext ex
        have hPx : PeB x P (peK at_ round q (k + 1)) vs ∧ OwR payR 0 0 x vs q.said := by rw [HPK.out]; exact ⟨hPE.1.below ex, hPE.2.ext ex⟩
        obtain ⟨vk, hck, hsk⟩ := hMx.keyAt rfl c ks HKS.out
        obtain ⟨ak, ck, rfl, -, -⟩ := hsk.form
        have hcklt := World.block_lt_of_cell? x _ hck
        have HIK := Lib.hid (fun (W : World) (v : Value) (h : SeesP W v ks) => InnerK_any ks v W h HOK.out (by omega))
        have HIP := Lib.hid (show in64 (innerP ks) from in64_P (in64_prodP _ 1 (by decide) (by decide)))
        have HIL := Lib.hid (length_envB (innerP ks) d2 TO BODY)
        have HMX := Lib.hid hMx; have HLx := Lib.hid hLx; have HSK := Lib.hid hsk; have HOX := Lib.hid hox; have HCK := Lib.hid hck; have HPX := Lib.hid (show (fun u => PeB u P (peK at_ round q (k + 1)) vs ∧ OwR payR 0 0 u vs q.said) x from hPx)
        have HEN := Lib.hid (fun (W : World) (h : SeesB W (.slice a2 BODY.length c2) BODY) => Envelope_any (innerP ks) d2 TO BODY (.slice a2 BODY.length c2) W HIP.out ⟨d20, d21⟩ HNL.out h (by rw [HLB.out]; decide))
        obtain ⟨IN, hIN⟩ : ∃ IN, envB (innerP ks) d2 TO BODY = IN := ⟨_, rfl⟩
        rw [hIN] at HONE HIL HEN
        clear hIN hMx hLx hsk hox hck hPx
        generalize innerP ks = IP at *
        have hst := stabExt x
        have hk12 : HoldT (fun u => Ext x u) x x.drew := HoldT.drew hst ⟨Ext.refl _, Ext.refl _⟩
        try change Code.wp _ _ _ (Act.mk _ _) _
        refine wp_region_runR Ext 9 117 (HoldT (fun u => Ext x u) _) [[], [], [(0, 86), (1, 87)], [(2, 88)], [(3, 89)], [], [], [(4, 90), (5, 91), (6, 92)], [(7, 93)]] [(0, 86), (1, 87), (2, 88), (3, 89), (4, 90), (5, 91), (6, 92), (7, 93), (8, 19)] (by kernel_rfl) (by kernel_rfl) (by first | rfl | simp) (hk12) ?_
        simp only [List.take_succ_cons, List.take_zero, List.drop_succ_cons, List.drop_zero]
        refine sp_op (Ph.eq _) (fun u hu => by
          refine spArg_nil ?_
          have kck : u.cell? ⟨b2, o2 + c, none⟩ = some (.slice ak ks.length ck) := (Below.cell hu.has hcklt).trans HCK.out
          go_wp2_with (fail)
          exact ⟨rfl, hu, Ext.refl _, slot_eq rfl⟩) ?_
        refine sp_op (Ph.eq _) (fun u hu => by
          refine spArg_nil ?_
          have kck : u.cell? ⟨b2, o2 + c, none⟩ = some (.slice ak ks.length ck) := (Below.cell hu.has hcklt).trans HCK.out
          go_wp2_with (fail)
          exact ⟨rfl, hu, Ext.refl _, slot_eq rfl⟩) ?_
        refine sp_op (Ph.eq _) (fun u hu => by
          refine spArg_eq 1 rfl rfl ?_
          refine spArg_eq 0 rfl rfl ?_
          refine spArg_nil ?_
          simp only [Act.put, List.setIfInBounds_toArray, List.set_cons_succ, List.set_cons_zero]
          have kck : u.cell? ⟨b2, o2 + c, none⟩ = some (.slice ak ks.length ck) := (Below.cell hu.has hcklt).trans HCK.out
          go_wp2_with (fail)
          exact ⟨rfl, hu, Ext.refl _, slot_eq rfl⟩) ?_
        refine sp_op (Ph.eq _) (fun u hu => by
          refine spArg_eq 0 rfl rfl ?_
          refine spArg_nil ?_
          simp only [Act.put, List.setIfInBounds_toArray, List.set_cons_succ, List.set_cons_zero]
          have kck : u.cell? ⟨b2, o2 + c, none⟩ = some (.slice ak ks.length ck) := (Below.cell hu.has hcklt).trans HCK.out
          go_wp2_with (fail)
          exact ⟨rfl, hu, Ext.refl _, slot_eq rfl⟩) ?_
        refine sp_op (Ph.eq _) (fun u hu => by
          refine spArg_eq 0 rfl rfl ?_
          refine spArg_nil ?_
          simp only [Act.put, List.setIfInBounds_toArray, List.set_cons_succ, List.set_cons_zero]
          have kck : u.cell? ⟨b2, o2 + c, none⟩ = some (.slice ak ks.length ck) := (Below.cell hu.has hcklt).trans HCK.out
          go_wp2_with ((go_at_call 76; refine (HIK.out _ _ ((HSK.out.pubs).below hu.has (by decide))).mono ?_; rintro e_ x_ ⟨rfl, hb_⟩))
          exact ⟨rfl, HoldT.step hst hu hb_, hb_, slot_eq rfl⟩) ?_
        refine sp_op (Ph.eq _) (fun u hu => by
          refine spArg_nil ?_
          have kck : u.cell? ⟨b2, o2 + c, none⟩ = some (.slice ak ks.length ck) := (Below.cell hu.has hcklt).trans HCK.out
          go_wp2_with (fail)
          exact ⟨rfl, hu, Ext.refl _, slot_eq rfl⟩) ?_
        refine sp_op (Ph.eq _) (fun u hu => by
          refine spArg_nil ?_
          have kck : u.cell? ⟨b2, o2 + c, none⟩ = some (.slice ak ks.length ck) := (Below.cell hu.has hcklt).trans HCK.out
          go_wp2_with ((refine wpList_load_rowG rfl 59 _ rfl (L) rfl _ _ (0, 0) _ (HLx.out.below hu.has) Tryz.underlying59 rfl (by rw [letC_size _ _ HNL.out]; exact info_let) ?_))
          exact ⟨rfl, hu, Ext.refl _, slot_eq rfl⟩) ?_
        refine sp_op (Ph.ownB x.heap.size IN) (fun u hu => by
          refine spArg_eq 2 rfl rfl ?_
          refine spArg_eq 1 rfl rfl ?_
          refine spArg_eq 0 rfl rfl ?_
          refine spArg_nil ?_
          simp only [Act.put, List.setIfInBounds_toArray, List.set_cons_succ, List.set_cons_zero]
          have kck : u.cell? ⟨b2, o2 + c, none⟩ = some (.slice ak ks.length ck) := (Below.cell hu.has hcklt).trans HCK.out
          go_wp2_with ((go_at_call 75; refine (HEN.out _ ((sees_of_owns HOX.out).below hu.has (by decide))).mono ?_; rintro e_ x_ ⟨v_, rfl, hown_, hb_⟩))
          exact ⟨rfl, HoldT.step hst hu hb_, hb_, slot_of rfl (owns_mono hown_ hu.up.size)⟩) ?_
        refine sp_op (Ph.ownB x.heap.size IN) (fun u hu => by
          refine spArg_in (φ := Ph.ownB x.heap.size IN) 0 rfl rfl ?_; intro v7 h7
          refine spArg_nil ?_
          simp only [Act.put, List.setIfInBounds_toArray, List.set_cons_succ, List.set_cons_zero]
          have kck : u.cell? ⟨b2, o2 + c, none⟩ = some (.slice ak ks.length ck) := (Below.cell hu.has hcklt).trans HCK.out
          go_wp2_with (fail)
          exact ⟨rfl, hu, Ext.refl _, slot_of rfl h7⟩) ?_
        refine sp_end ?_
        intro u hu
        refine spArg_eq 8 rfl rfl ?_
        refine spArg_eq 7 rfl rfl ?_
        refine spArg_eq 6 rfl rfl ?_
        refine spArg_eq 5 rfl rfl ?_
        refine spArg_eq 4 rfl rfl ?_
        refine spArg_eq 3 rfl rfl ?_
        refine spArg_eq 2 rfl rfl ?_
        refine spArg_in (φ := Ph.ownB x.heap.size IN) 1 rfl rfl ?_; intro v7 h7
        refine spArg_in (φ := Ph.ownB x.heap.size IN) 0 rfl rfl ?_; intro v8 h8
        obtain ⟨a8, c8, rfl, -, -⟩ := owns_form h8
        refine spArg_nil ?_
        simp only [Act.put, List.setIfInBounds_toArray, List.set_cons_succ, List.set_cons_zero]
        obtain ⟨y, rfl⟩ : ∃ y, y = u := ⟨_, rfl⟩
        have hxy : Ext x y := hu.has
        have HMY := Lib.hid (HMX.out.ext hxy)
        have HI8 := Lib.hid h8
        have HPY := Lib.hid (HQE.out _ _ HPX.out hxy)
        clear h8 h7 hu
        go_wp2_with fail
        have HOM := Lib.hid (fun (W : World) (h : SeesP W (.slice ak ks.length ck) ks) (h2 : SeesB W (.slice a8 IN.length c8) IN) => OMake_any ks s d0 d1 round c IN _ _ W h HOK.out HI.out.hs ⟨d00, d01⟩ ⟨d10, d11⟩ h2 (by have h1 := HIL.out; have h3 := HNL.out; have h4 := HLB.out; omega) (by omega))
        have HSB := Lib.hid (show (onionL ks s d0 d1 round c IN).user.length = 32 from submitL_user _ _ _ _ _)
        generalize onionL ks s d0 d1 round c IN = SB at *
        have hst := stabExt y
        have hk13 : HoldT (fun u => Ext y u) y y.drew := HoldT.drew hst ⟨Ext.refl _, Ext.refl _⟩
        have HCY := Lib.hid ((Below.cell hxy hcklt).trans HCK.out)
        have hcylt := Nat.lt_of_lt_of_le hcklt hxy.size
        try change Code.wp _ _ _ (Act.mk _ _) _
        refine wp_region_runR Ext 20 117 (HoldT (fun u => Ext y u) _) [[], [], [], [], [], [], [(4, 98), (5, 99)], [(6, 100)], [], [(8, 102)], [(9, 103)], [(10, 104)], [], [], [], [], [], [(7, 101), (11, 105), (12, 106), (13, 107), (14, 108), (15, 109), (16, 110)], [(1, 95), (2, 96), (3, 97), (17, 111)], [(18, 112)]] [(0, 94), (1, 95), (2, 96), (3, 97), (4, 98), (5, 99), (6, 100), (7, 101), (8, 102), (9, 103), (10, 104), (11, 105), (12, 106), (13, 107), (14, 108), (15, 109), (16, 110), (17, 111), (18, 112), (19, 113)] (by kernel_rfl) (by kernel_rfl) (by first | rfl | simp) (hk13) ?_
        simp only [List.take_succ_cons, List.take_zero, List.drop_succ_cons, List.drop_zero]
        refine sp_op (Ph.eq _) (fun u hu => by
          refine spArg_nil ?_
          have kck : u.cell? ⟨b2, o2 + c, none⟩ = some (.slice ak ks.length ck) := (Below.cell hu.has hcylt).trans HCY.out
          have kA : u.cell? ⟨A, 0, none⟩ = some (.int .u64 s) := (by rw [(HMY.out.ag.below hu.has).cell]; rfl)
          go_wp2_with (fail)
          exact ⟨rfl, hu, Ext.refl _, slot_eq rfl⟩) ?_
        refine sp_op (Ph.eq _) (fun u hu => by
          refine spArg_nil ?_
          have kck : u.cell? ⟨b2, o2 + c, none⟩ = some (.slice ak ks.length ck) := (Below.cell hu.has hcylt).trans HCY.out
          have kA : u.cell? ⟨A, 0, none⟩ = some (.int .u64 s) := (by rw [(HMY.out.ag.below hu.has).cell]; rfl)
          go_wp2_with (fail)
          exact ⟨rfl, hu, Ext.refl _, slot_eq rfl⟩) ?_
        refine sp_op (Ph.eq _) (fun u hu => by
          refine spArg_nil ?_
          have kck : u.cell? ⟨b2, o2 + c, none⟩ = some (.slice ak ks.length ck) := (Below.cell hu.has hcylt).trans HCY.out
          have kA : u.cell? ⟨A, 0, none⟩ = some (.int .u64 s) := (by rw [(HMY.out.ag.below hu.has).cell]; rfl)
          go_wp2_with (fail)
          exact ⟨rfl, hu, Ext.refl _, slot_eq rfl⟩) ?_
        refine sp_op (Ph.eq _) (fun u hu => by
          refine spArg_nil ?_
          have kck : u.cell? ⟨b2, o2 + c, none⟩ = some (.slice ak ks.length ck) := (Below.cell hu.has hcylt).trans HCY.out
          have kA : u.cell? ⟨A, 0, none⟩ = some (.int .u64 s) := (by rw [(HMY.out.ag.below hu.has).cell]; rfl)
          go_wp2_with (fail)
          exact ⟨rfl, hu, Ext.refl _, slot_eq rfl⟩) ?_
        refine sp_op (Ph.eq _) (fun u hu => by
          refine spArg_nil ?_
          have kck : u.cell? ⟨b2, o2 + c, none⟩ = some (.slice ak ks.length ck) := (Below.cell hu.has hcylt).trans HCY.out
          have kA : u.cell? ⟨A, 0, none⟩ = some (.int .u64 s) := (by rw [(HMY.out.ag.below hu.has).cell]; rfl)
          go_wp2_with (fail)
          exact ⟨rfl, hu, Ext.refl _, slot_eq rfl⟩) ?_
        refine sp_op (Ph.eq _) (fun u hu => by
          refine spArg_nil ?_
          have kck : u.cell? ⟨b2, o2 + c, none⟩ = some (.slice ak ks.length ck) := (Below.cell hu.has hcylt).trans HCY.out
          have kA : u.cell? ⟨A, 0, none⟩ = some (.int .u64 s) := (by rw [(HMY.out.ag.below hu.has).cell]; rfl)
          go_wp2_with (fail)
          exact ⟨rfl, hu, Ext.refl _, slot_eq rfl⟩) ?_
        refine sp_op (Ph.eq _) (fun u hu => by
          refine spArg_eq 1 rfl rfl ?_
          refine spArg_eq 0 rfl rfl ?_
          refine spArg_nil ?_
          simp only [Act.put, List.setIfInBounds_toArray, List.set_cons_succ, List.set_cons_zero]
          have kck : u.cell? ⟨b2, o2 + c, none⟩ = some (.slice ak ks.length ck) := (Below.cell hu.has hcylt).trans HCY.out
          have kA : u.cell? ⟨A, 0, none⟩ = some (.int .u64 s) := (by rw [(HMY.out.ag.below hu.has).cell]; rfl)
          go_wp2_with (fail)
          exact ⟨rfl, hu, Ext.refl _, slot_eq rfl⟩) ?_
        refine sp_op (Ph.eq _) (fun u hu => by
          refine spArg_eq 0 rfl rfl ?_
          refine spArg_nil ?_
          simp only [Act.put, List.setIfInBounds_toArray, List.set_cons_succ, List.set_cons_zero]
          have kck : u.cell? ⟨b2, o2 + c, none⟩ = some (.slice ak ks.length ck) := (Below.cell hu.has hcylt).trans HCY.out
          have kA : u.cell? ⟨A, 0, none⟩ = some (.int .u64 s) := (by rw [(HMY.out.ag.below hu.has).cell]; rfl)
          go_wp2_with (fail)
          exact ⟨rfl, hu, Ext.refl _, slot_eq rfl⟩) ?_
        refine sp_op (Ph.eq _) (fun u hu => by
          refine spArg_nil ?_
          have kck : u.cell? ⟨b2, o2 + c, none⟩ = some (.slice ak ks.length ck) := (Below.cell hu.has hcylt).trans HCY.out
          have kA : u.cell? ⟨A, 0, none⟩ = some (.int .u64 s) := (by rw [(HMY.out.ag.below hu.has).cell]; rfl)
          go_wp2_with (fail)
          exact ⟨rfl, hu, Ext.refl _, slot_eq rfl⟩) ?_
        refine sp_op (Ph.eq _) (fun u hu => by
          refine spArg_eq 0 rfl rfl ?_
          refine spArg_nil ?_
          simp only [Act.put, List.setIfInBounds_toArray, List.set_cons_succ, List.set_cons_zero]
          have kck : u.cell? ⟨b2, o2 + c, none⟩ = some (.slice ak ks.length ck) := (Below.cell hu.has hcylt).trans HCY.out
          have kA : u.cell? ⟨A, 0, none⟩ = some (.int .u64 s) := (by rw [(HMY.out.ag.below hu.has).cell]; rfl)
          go_wp2_with (fail)
          exact ⟨rfl, hu, Ext.refl _, slot_eq rfl⟩) ?_
        refine sp_op (Ph.eq _) (fun u hu => by
          refine spArg_eq 0 rfl rfl ?_
          refine spArg_nil ?_
          simp only [Act.put, List.setIfInBounds_toArray, List.set_cons_succ, List.set_cons_zero]
          have kck : u.cell? ⟨b2, o2 + c, none⟩ = some (.slice ak ks.length ck) := (Below.cell hu.has hcylt).trans HCY.out
          have kA : u.cell? ⟨A, 0, none⟩ = some (.int .u64 s) := (by rw [(HMY.out.ag.below hu.has).cell]; rfl)
          go_wp2_with (fail)
          exact ⟨rfl, hu, Ext.refl _, slot_eq rfl⟩) ?_
        refine sp_op (Ph.eq _) (fun u hu => by
          refine spArg_eq 0 rfl rfl ?_
          refine spArg_nil ?_
          simp only [Act.put, List.setIfInBounds_toArray, List.set_cons_succ, List.set_cons_zero]
          have kck : u.cell? ⟨b2, o2 + c, none⟩ = some (.slice ak ks.length ck) := (Below.cell hu.has hcylt).trans HCY.out
          have kA : u.cell? ⟨A, 0, none⟩ = some (.int .u64 s) := (by rw [(HMY.out.ag.below hu.has).cell]; rfl)
          go_wp2_with (fail)
          exact ⟨rfl, hu, Ext.refl _, slot_eq rfl⟩) ?_
        refine sp_op (Ph.eq _) (fun u hu => by
          refine spArg_nil ?_
          have kck : u.cell? ⟨b2, o2 + c, none⟩ = some (.slice ak ks.length ck) := (Below.cell hu.has hcylt).trans HCY.out
          have kA : u.cell? ⟨A, 0, none⟩ = some (.int .u64 s) := (by rw [(HMY.out.ag.below hu.has).cell]; rfl)
          go_wp2_with (fail)
          exact ⟨rfl, hu, Ext.refl _, slot_eq rfl⟩) ?_
        refine sp_op (Ph.eq _) (fun u hu => by
          refine spArg_nil ?_
          have kck : u.cell? ⟨b2, o2 + c, none⟩ = some (.slice ak ks.length ck) := (Below.cell hu.has hcylt).trans HCY.out
          have kA : u.cell? ⟨A, 0, none⟩ = some (.int .u64 s) := (by rw [(HMY.out.ag.below hu.has).cell]; rfl)
          go_wp2_with (fail)
          exact ⟨rfl, hu, Ext.refl _, slot_eq rfl⟩) ?_
        refine sp_op (Ph.eq _) (fun u hu => by
          refine spArg_nil ?_
          have kck : u.cell? ⟨b2, o2 + c, none⟩ = some (.slice ak ks.length ck) := (Below.cell hu.has hcylt).trans HCY.out
          have kA : u.cell? ⟨A, 0, none⟩ = some (.int .u64 s) := (by rw [(HMY.out.ag.below hu.has).cell]; rfl)
          go_wp2_with (fail)
          exact ⟨rfl, hu, Ext.refl _, slot_eq rfl⟩) ?_
        refine sp_op (Ph.eq _) (fun u hu => by
          refine spArg_nil ?_
          have kck : u.cell? ⟨b2, o2 + c, none⟩ = some (.slice ak ks.length ck) := (Below.cell hu.has hcylt).trans HCY.out
          have kA : u.cell? ⟨A, 0, none⟩ = some (.int .u64 s) := (by rw [(HMY.out.ag.below hu.has).cell]; rfl)
          go_wp2_with (fail)
          exact ⟨rfl, hu, Ext.refl _, slot_eq rfl⟩) ?_
        refine sp_op (Ph.eq _) (fun u hu => by
          refine spArg_nil ?_
          have kck : u.cell? ⟨b2, o2 + c, none⟩ = some (.slice ak ks.length ck) := (Below.cell hu.has hcylt).trans HCY.out
          have kA : u.cell? ⟨A, 0, none⟩ = some (.int .u64 s) := (by rw [(HMY.out.ag.below hu.has).cell]; rfl)
          go_wp2_with (fail)
          exact ⟨rfl, hu, Ext.refl _, slot_eq rfl⟩) ?_
        refine sp_op (Ph.sub y.heap.size SB) (fun u hu => by
          refine spArg_eq 9 rfl rfl ?_
          refine spArg_eq 5 rfl rfl ?_
          refine spArg_eq 4 rfl rfl ?_
          refine spArg_eq 3 rfl rfl ?_
          refine spArg_eq 2 rfl rfl ?_
          refine spArg_eq 1 rfl rfl ?_
          refine spArg_eq 0 rfl rfl ?_
          refine spArg_nil ?_
          simp only [Act.put, List.setIfInBounds_toArray, List.set_cons_succ, List.set_cons_zero]
          have kck : u.cell? ⟨b2, o2 + c, none⟩ = some (.slice ak ks.length ck) := (Below.cell hu.has hcylt).trans HCY.out
          have kA : u.cell? ⟨A, 0, none⟩ = some (.int .u64 s) := (by rw [(HMY.out.ag.below hu.has).cell]; rfl)
          go_wp2_with ((go_at_call 77; refine (HOM.out _ ((HSK.out.pubs).below (Ext.tr hxy hu.has) (by decide)) ((sees_of_owns HI8.out).below hu.has (by decide))).mono ?_; rintro e_ x_ ⟨v_, rfl, hown_, hb_⟩; obtain ⟨a_, c_, rfl, -, -⟩ := owns_form hown_))
          exact ⟨rfl, HoldT.step hst hu hb_, hb_, slot_of rfl ⟨a_, c_, rfl, owns_mono hown_ hu.up.size⟩⟩) ?_
        refine sp_op (Ph.made y.heap.size ⟨c, d0, IN, SB⟩ (.slice a8 IN.length c8)) (fun u hu => by
          refine spArg_eq 16 rfl rfl ?_
          refine spArg_eq 15 rfl rfl ?_
          refine spArg_eq 14 rfl rfl ?_
          refine spArg_in (φ := Ph.sub y.heap.size SB) 0 rfl rfl ?_; intro v17 h17
          obtain ⟨a17, c17, rfl, ho17⟩ := h17
          refine spArg_nil ?_
          simp only [Act.put, List.setIfInBounds_toArray, List.set_cons_succ, List.set_cons_zero]
          have kck : u.cell? ⟨b2, o2 + c, none⟩ = some (.slice ak ks.length ck) := (Below.cell hu.has hcylt).trans HCY.out
          have kA : u.cell? ⟨A, 0, none⟩ = some (.int .u64 s) := (by rw [(HMY.out.ag.below hu.has).cell]; rfl)
          go_wp2_with ((refine wpList_bld4 rfl 102 0 1 2 3 _ _ _ _ rfl (.int .i64 c) (.int .u64 d0) (.slice a8 IN.length c8) (.agg (subC SB (.slice a17 SB.e.box.length c17))) _ rfl rfl rfl rfl (run_buildMade ⟨c, d0, IN, SB⟩ a8 a17 IN.length c8 SB.e.box.length c17 HSB.out _) ?_))
          exact ⟨rfl, hu, Ext.refl _, slot_of rfl ⟨a17, c17, rfl, ho17⟩⟩) ?_
        refine sp_op (Ph.slM ⟨c, d0, IN, SB⟩) (fun u hu => by
          refine spArg_in (φ := Ph.made y.heap.size ⟨c, d0, IN, SB⟩ (.slice a8 IN.length c8)) 0 rfl rfl ?_; intro v18 h18
          obtain ⟨a18, c18, rfl, ho18⟩ := h18
          refine spArg_nil ?_
          simp only [Act.put, List.setIfInBounds_toArray, List.set_cons_succ, List.set_cons_zero]
          have kck : u.cell? ⟨b2, o2 + c, none⟩ = some (.slice ak ks.length ck) := (Below.cell hu.has hcylt).trans HCY.out
          have kA : u.cell? ⟨A, 0, none⟩ = some (.int .u64 s) := (by rw [(HMY.out.ag.below hu.has).cell]; rfl)
          go_wp2_with ((refine wpList_slitM rfl _ rfl ⟨c, d0, IN, SB⟩ a8 a18 c8 c18 HSB.out (owns_below HI8.out hu.has) ho18 rfl ?_; intro x19 B19 hl19 e19))
          exact ⟨rfl, HoldT.step hst hu e19, e19, slot_of rfl hl19⟩) ?_
        refine sp_end ?_
        intro u hu
        refine spArg_eq 19 rfl rfl ?_
        refine spArg_eq 18 rfl rfl ?_
        refine spArg_eq 17 rfl rfl ?_
        refine spArg_eq 16 rfl rfl ?_
        refine spArg_eq 15 rfl rfl ?_
        refine spArg_eq 14 rfl rfl ?_
        refine spArg_eq 13 rfl rfl ?_
        refine spArg_eq 12 rfl rfl ?_
        refine spArg_eq 11 rfl rfl ?_
        refine spArg_eq 10 rfl rfl ?_
        refine spArg_eq 9 rfl rfl ?_
        refine spArg_eq 8 rfl rfl ?_
        refine spArg_eq 7 rfl rfl ?_
        refine spArg_eq 6 rfl rfl ?_
        refine spArg_eq 5 rfl rfl ?_
        refine spArg_eq 4 rfl rfl ?_
        refine spArg_eq 3 rfl rfl ?_
        refine spArg_in (φ := Ph.sub y.heap.size SB) 2 rfl rfl ?_; intro v17 h17
        obtain ⟨a17, c17, rfl, ho17⟩ := h17
        refine spArg_in (φ := Ph.made y.heap.size ⟨c, d0, IN, SB⟩ (.slice a8 IN.length c8)) 1 rfl rfl ?_; intro v18 h18
        obtain ⟨a18, c18, rfl, ho18⟩ := h18
        refine spArg_in (φ := Ph.slM ⟨c, d0, IN, SB⟩) 0 rfl rfl ?_; intro v19 h19
        refine spArg_nil ?_
        simp only [Act.put, List.setIfInBounds_toArray, List.set_cons_succ, List.set_cons_zero]
        have HMU := Lib.hid (HMY.out.ext hu.has)
        have HPU := Lib.hid (HQE.out _ _ HPY.out hu.has)
        clear ho17 ho18
        go_wp2_with (first
          | (at_builtin; refine appRn madeR rfl _ _ 98 rfl Tryz.underlying98 info_madeZ rfl (by decide) (by decide) w.heap.size HMU.out.mod.size _ O rfl HMU.out.out _ [⟨c, d0, IN, SB⟩] rfl h19 (by have h1 := HOL.out; have h2 := HI.out.sl; simp only [List.length_cons, List.length_nil]; omega) ?_; intro v20 w20 hown20 hg20
             have hM20 := HMU.out.app hg20 hown20
             have hP20 := HQA.out _ _ _ _ _ HPU.out HMU.out.out hg20
             clear hg20))
        go_roundw
        case rel => exact ⟨k + 1, by omega, by go_num, by rw [HSU.out, HONE.out]; exact hM20, hP20⟩
        case measure => simp [intOf]; omega
    · obtain rfl : k = set.length := by omega
      go_wp2_with fail
      go_ret2
      exact ⟨_, rfl, ⟨hM.ag, hM.keys, OwR.nil _ _ _, hM.out, hM.mod, hM.kx⟩, hPE.1, hPE.2⟩
set_option maxRecDepth 100000 in
set_option maxHeartbeats 4000000 in
theorem MakeN_any (A : Nat) (s : Int) (m : Nat) (vg vl : Value) (ls : List (List Pub)) (round : Int) (n : Nat) (w : World) (hI : MkIn s round ls (setS s n) n w) (hA : AgB w A s m (.pointer none) vg) (hls : SlR pubsR 0 w vl ls) :
    Calls Tryz.prog 44 #[.pointer (some ⟨A, 0, none⟩), .int .i64 round, .int .i64 n, vl] w fun e w' => ∃ v, e = .returned (.tuple #[v, .int .i64 0]) ∧
      MkB w A s m (.pointer none) vg [] vl ls (.slice none 0 0) [] v (outsO s round ls (setS s n) (fun _ => loopL s round) (setS s n).length) w' := by
  have HI := Lib.hid hI; clear hI
  have HPL := Lib.hid (Plan0_any A s m vg n w hA HI.out.hs HI.out.n1 HI.out.n2)
  have hll := HI.out.ll
  have hslb := HI.out.sl
  obtain ⟨r0, r1⟩ : 0 ≤ round ∧ round ≤ 1099511627776 := ⟨HI.out.r0, HI.out.r1⟩
  obtain ⟨n1, n2⟩ : 1 ≤ n ∧ n ≤ 1000 := ⟨HI.out.n1, HI.out.n2⟩
  obtain ⟨al, cl, rfl, -, -⟩ := hls.form
  have HA := Lib.hid hA; have HLS := Lib.hid hls
  generalize setS s n = set at *
  clear hA hls
  go_enter Tryz.func44, Tryz.ntmps44
  go_wp2_with (first
    | (go_at_call 70; refine HPL.out.mono ?_; rintro e x0 ⟨v0, rfl, hset0, e0⟩; obtain ⟨a0, c0, rfl, -, -⟩ := hset0.form))
  have hst0 := Lib.hid (show MkRel w A s m (.pointer none) vg [] (.slice al ls.length cl) ls (.slice a0 set.length c0) set (outsO s round ls set (fun _ => loopL s round)) (fun k u => True) (.slice none 0 0) (.int .i64 0) x0 from
    ⟨0, Nat.zero_le _, rfl, ⟨HA.out.below e0, HLS.out.ext e0, owI_mono hset0 (Nat.le_refl _), OwR.nil _ _ _, e0.mod _, e0.kx⟩, trivial⟩)
  clear hset0 e0
  go_loopw [12, 13, 14, 15, 16, 17, 18, 19, 48] (fun vout _ _ _ _ _ _ _ i wr => MkRel w A s m (.pointer none) vg [] (.slice al ls.length cl) ls (.slice a0 set.length c0) set (outsO s round ls set (fun _ => loopL s round)) (fun k u => True) vout i wr) (fun _ _ _ _ _ _ _ _ i _ => set.length - (intOf i).toNat)
  case atStart => exact hst0.out
  case round =>
    clear hst0
    obtain ⟨k, hk, rfl, hM, hPE⟩ := hrel
    have HM := Lib.hid hM
    obtain ⟨ao, co, rfl, -, -⟩ := hM.out.form
    by_cases hlt : k < set.length
    · obtain ⟨b1, o1, c1', he, -, -⟩ := hM.set.sl.open (by omega)
      cases he
      have hcs := slI_at hM.set.sl k set[k] (List.getElem?_eq_getElem hlt)
      obtain ⟨c, hce, hcn⟩ := HI.out.sin _ (List.getElem_mem hlt)
      have hgd : set.getD k 0 = (c : Int) := by rw [List.getD_eq_getElem?_getD, List.getElem?_eq_getElem hlt]; exact hce
      rw [hce] at hcs
      have hll := HI.out.ll
      have hks : ls[c]? = some (ls[c]'(by omega)) := List.getElem?_eq_getElem _
      obtain ⟨hok, hkl⟩ := HI.out.ok _ (List.getElem_mem (show c < ls.length by omega))
      have hlg : ls.getD c [] = ls[c]'(by omega) := by rw [List.getD_eq_getElem?_getD, hks]; rfl
      obtain ⟨b2, o2, c2', he, -, -⟩ := hM.keys.open (by omega)
      cases he
      obtain ⟨ks, hkse⟩ : ∃ ks, ls[c]'(by omega) = ks := ⟨_, rfl⟩
      rw [hkse] at hks hok hkl hlg
      have hone : oneO s round ls set (fun _ => loopL s round) k = ⟨c, drawW s round k 0, envB (innerP ks) (drawW s round k 2) ((fun _ => loopL s round) k).1 ((fun _ => loopL s round) k).2, onionL ks s (drawW s round k 0) (drawW s round k 1) round c (envB (innerP ks) (drawW s round k 2) ((fun _ => loopL s round) k).1 ((fun _ => loopL s round) k).2)⟩ := by
        unfold oneO; rw [hgd, Int.toNat_natCast, hlg]
      have HONE := Lib.hid hone
      have HSU := Lib.hid (outsO_succ s round ls set (fun _ => loopL s round) k)
      have HKS := Lib.hid hks; have HOK := Lib.hid hok
      have HOL := Lib.hid (length_outsO s round ls set (fun _ => loopL s round) k)
      generalize outsO s round ls set (fun _ => loopL s round) k = O at *
      clear hce hkse hgd hlg hone hks hok hll
      have HD := Lib.hid (Draws_any A s m (.pointer none) vg round (k : Int) wr hM.ag HI.out.hs ⟨by omega, by omega⟩ ⟨by have := HI.out.sl; omega, by have := HI.out.sl; omega⟩ (by
        intro z hz; simp at hz
        rcases hz with rfl | rfl
        · exact HI.out.itr wr hM.kx
        · exact itoa_small wr _ (by omega) (by have := HI.out.sl; omega)))
      obtain ⟨d00, d01⟩ := drawW_in s round k 0
      obtain ⟨d10, d11⟩ := drawW_in s round k 1
      obtain ⟨d20, d21⟩ := drawW_in s round k 2
      generalize drawW s round k 0 = d0 at *
      generalize drawW s round k 1 = d1 at *
      generalize drawW s round k 2 = d2 at *
      have HNL := Lib.hid (show (nameL (timesP 37 s)).length = 32 from length_nameL _)
      have HLP := Lib.hid (fun W => Loop_any s round W HI.out.hs)
      have HLB := Lib.hid (length_loopB s round)
      have hlt2 : loopL s round = (nameL (timesP 37 s), loopB s round) := rfl
      rw [hlt2] at HONE HSU
      simp only [hlt2] at HSU HONE ⊢
      have hbe : ((k : Int) == -1) = false := by rw [beq_eq_false_iff_ne]; omega
      clear hlt2
      generalize nameL (timesP 37 s) = TO at *
      generalize loopB s round = BODY at *
      go_wp2_with (first
        | (go_at_call 71; refine HD.out.mono ?_; rintro e y1 ⟨rfl, e1⟩; have hc1 : y1.cell? ⟨A, 0, none⟩ = some (.int .u64 s) := (by rw [(hM.ag.below e1).cell]; rfl))
        | (go_at_call 72; refine (HLP.out _).mono ?_; rintro e y2 ⟨v2, rfl, hown2, hb2⟩; obtain ⟨a2, c2, rfl, -, -⟩ := owns_form hown2; have e2 : Ext wr y2 := Ext.tr e1 hb2)
        | (refine wpList_allocB rfl _ rfl _ run_allocLet ?_; intro y3 L hL hL0 e3)
        | (refine wpList_store_row rfl 59 _ _ rfl L (letC TO (.slice a2 BODY.length c2)) _ _ rfl rfl hL (by rw [letC_size _ _ HNL.out]; rfl) (by rw [letC_size _ _ HNL.out]; exact info_let) (one_let _ _ _ _) ?_; intro x hgx hsx hLx
           have ex : Ext wr x := ext_row (Ext.tr e2 e3) hgx (Nat.le_trans e2.size hL0)
           have hox := own_grown (owns_below hown2 e3) hgx (RowT.blk hL) (by decide)
           clear hgx hsx hL))
      have hMx := hM.ext ex
      have HQE := Lib.hid (fun (u u' : World) (_ : True) (e : Ext u u') => True.intro)
      have HQA := Lib.hid (fun (u u' : World) (v : Value) (O : List MadeO) (n : Nat) (_ : True) (ho : OwR madeR 0 n u v O) (hg : u.grownBy u' v.ownBlock) => True.intro)
      have hPx := True.intro
      obtain ⟨vk, hck, hsk⟩ := hMx.keyAt rfl c ks HKS.out
      obtain ⟨ak, ck, rfl, -, -⟩ := hsk.form
      have hcklt := World.block_lt_of_cell? x _ hck
      have HIK := Lib.hid (fun (W : World) (v : Value) (h : SeesP W v ks) => InnerK_any ks v W h HOK.out (by omega))
      have HIP := Lib.hid (show in64 (innerP ks) from in64_P (in64_prodP _ 1 (by decide) (by decide)))
      have HIL := Lib.hid (length_envB (innerP ks) d2 TO BODY)
      have HMX := Lib.hid hMx; have HLx := Lib.hid hLx; have HSK := Lib.hid hsk; have HOX := Lib.hid hox; have HCK := Lib.hid hck; have HPX := Lib.hid (show (fun _ => True) x from hPx)
      have HEN := Lib.hid (fun (W : World) (h : SeesB W (.slice a2 BODY.length c2) BODY) => Envelope_any (innerP ks) d2 TO BODY (.slice a2 BODY.length c2) W HIP.out ⟨d20, d21⟩ HNL.out h (by rw [HLB.out]; decide))
      obtain ⟨IN, hIN⟩ : ∃ IN, envB (innerP ks) d2 TO BODY = IN := ⟨_, rfl⟩
      rw [hIN] at HONE HIL HEN
      clear hIN hMx hLx hsk hox hck hPx
      generalize innerP ks = IP at *
      have hst := stabExt x
      have hk12 : HoldT (fun u => Ext x u) x x.drew := HoldT.drew hst ⟨Ext.refl _, Ext.refl _⟩
      try change Code.wp _ _ _ (Act.mk _ _) _
      refine wp_region_runR Ext 9 117 (HoldT (fun u => Ext x u) _) [[], [], [(0, 86), (1, 87)], [(2, 88)], [(3, 89)], [], [], [(4, 90), (5, 91), (6, 92)], [(7, 93)]] [(0, 86), (1, 87), (2, 88), (3, 89), (4, 90), (5, 91), (6, 92), (7, 93), (8, 19)] (by kernel_rfl) (by kernel_rfl) (by first | rfl | simp) (hk12) ?_
      simp only [List.take_succ_cons, List.take_zero, List.drop_succ_cons, List.drop_zero]
      refine sp_op (Ph.eq _) (fun u hu => by
        refine spArg_nil ?_
        have kck : u.cell? ⟨b2, o2 + c, none⟩ = some (.slice ak ks.length ck) := (Below.cell hu.has hcklt).trans HCK.out
        go_wp2_with (fail)
        exact ⟨rfl, hu, Ext.refl _, slot_eq rfl⟩) ?_
      refine sp_op (Ph.eq _) (fun u hu => by
        refine spArg_nil ?_
        have kck : u.cell? ⟨b2, o2 + c, none⟩ = some (.slice ak ks.length ck) := (Below.cell hu.has hcklt).trans HCK.out
        go_wp2_with (fail)
        exact ⟨rfl, hu, Ext.refl _, slot_eq rfl⟩) ?_
      refine sp_op (Ph.eq _) (fun u hu => by
        refine spArg_eq 1 rfl rfl ?_
        refine spArg_eq 0 rfl rfl ?_
        refine spArg_nil ?_
        simp only [Act.put, List.setIfInBounds_toArray, List.set_cons_succ, List.set_cons_zero]
        have kck : u.cell? ⟨b2, o2 + c, none⟩ = some (.slice ak ks.length ck) := (Below.cell hu.has hcklt).trans HCK.out
        go_wp2_with (fail)
        exact ⟨rfl, hu, Ext.refl _, slot_eq rfl⟩) ?_
      refine sp_op (Ph.eq _) (fun u hu => by
        refine spArg_eq 0 rfl rfl ?_
        refine spArg_nil ?_
        simp only [Act.put, List.setIfInBounds_toArray, List.set_cons_succ, List.set_cons_zero]
        have kck : u.cell? ⟨b2, o2 + c, none⟩ = some (.slice ak ks.length ck) := (Below.cell hu.has hcklt).trans HCK.out
        go_wp2_with (fail)
        exact ⟨rfl, hu, Ext.refl _, slot_eq rfl⟩) ?_
      refine sp_op (Ph.eq _) (fun u hu => by
        refine spArg_eq 0 rfl rfl ?_
        refine spArg_nil ?_
        simp only [Act.put, List.setIfInBounds_toArray, List.set_cons_succ, List.set_cons_zero]
        have kck : u.cell? ⟨b2, o2 + c, none⟩ = some (.slice ak ks.length ck) := (Below.cell hu.has hcklt).trans HCK.out
        go_wp2_with ((go_at_call 76; refine (HIK.out _ _ ((HSK.out.pubs).below hu.has (by decide))).mono ?_; rintro e_ x_ ⟨rfl, hb_⟩))
        exact ⟨rfl, HoldT.step hst hu hb_, hb_, slot_eq rfl⟩) ?_
      refine sp_op (Ph.eq _) (fun u hu => by
        refine spArg_nil ?_
        have kck : u.cell? ⟨b2, o2 + c, none⟩ = some (.slice ak ks.length ck) := (Below.cell hu.has hcklt).trans HCK.out
        go_wp2_with (fail)
        exact ⟨rfl, hu, Ext.refl _, slot_eq rfl⟩) ?_
      refine sp_op (Ph.eq _) (fun u hu => by
        refine spArg_nil ?_
        have kck : u.cell? ⟨b2, o2 + c, none⟩ = some (.slice ak ks.length ck) := (Below.cell hu.has hcklt).trans HCK.out
        go_wp2_with ((refine wpList_load_rowG rfl 59 _ rfl (L) rfl _ _ (0, 0) _ (HLx.out.below hu.has) Tryz.underlying59 rfl (by rw [letC_size _ _ HNL.out]; exact info_let) ?_))
        exact ⟨rfl, hu, Ext.refl _, slot_eq rfl⟩) ?_
      refine sp_op (Ph.ownB x.heap.size IN) (fun u hu => by
        refine spArg_eq 2 rfl rfl ?_
        refine spArg_eq 1 rfl rfl ?_
        refine spArg_eq 0 rfl rfl ?_
        refine spArg_nil ?_
        simp only [Act.put, List.setIfInBounds_toArray, List.set_cons_succ, List.set_cons_zero]
        have kck : u.cell? ⟨b2, o2 + c, none⟩ = some (.slice ak ks.length ck) := (Below.cell hu.has hcklt).trans HCK.out
        go_wp2_with ((go_at_call 75; refine (HEN.out _ ((sees_of_owns HOX.out).below hu.has (by decide))).mono ?_; rintro e_ x_ ⟨v_, rfl, hown_, hb_⟩))
        exact ⟨rfl, HoldT.step hst hu hb_, hb_, slot_of rfl (owns_mono hown_ hu.up.size)⟩) ?_
      refine sp_op (Ph.ownB x.heap.size IN) (fun u hu => by
        refine spArg_in (φ := Ph.ownB x.heap.size IN) 0 rfl rfl ?_; intro v7 h7
        refine spArg_nil ?_
        simp only [Act.put, List.setIfInBounds_toArray, List.set_cons_succ, List.set_cons_zero]
        have kck : u.cell? ⟨b2, o2 + c, none⟩ = some (.slice ak ks.length ck) := (Below.cell hu.has hcklt).trans HCK.out
        go_wp2_with (fail)
        exact ⟨rfl, hu, Ext.refl _, slot_of rfl h7⟩) ?_
      refine sp_end ?_
      intro u hu
      refine spArg_eq 8 rfl rfl ?_
      refine spArg_eq 7 rfl rfl ?_
      refine spArg_eq 6 rfl rfl ?_
      refine spArg_eq 5 rfl rfl ?_
      refine spArg_eq 4 rfl rfl ?_
      refine spArg_eq 3 rfl rfl ?_
      refine spArg_eq 2 rfl rfl ?_
      refine spArg_in (φ := Ph.ownB x.heap.size IN) 1 rfl rfl ?_; intro v7 h7
      refine spArg_in (φ := Ph.ownB x.heap.size IN) 0 rfl rfl ?_; intro v8 h8
      obtain ⟨a8, c8, rfl, -, -⟩ := owns_form h8
      refine spArg_nil ?_
      simp only [Act.put, List.setIfInBounds_toArray, List.set_cons_succ, List.set_cons_zero]
      obtain ⟨y, rfl⟩ : ∃ y, y = u := ⟨_, rfl⟩
      have hxy : Ext x y := hu.has
      have HMY := Lib.hid (HMX.out.ext hxy)
      have HI8 := Lib.hid h8
      have HPY := Lib.hid (HQE.out _ _ HPX.out hxy)
      clear h8 h7 hu
      go_wp2_with fail
      have HOM := Lib.hid (fun (W : World) (h : SeesP W (.slice ak ks.length ck) ks) (h2 : SeesB W (.slice a8 IN.length c8) IN) => OMake_any ks s d0 d1 round c IN _ _ W h HOK.out HI.out.hs ⟨d00, d01⟩ ⟨d10, d11⟩ h2 (by have h1 := HIL.out; have h3 := HNL.out; have h4 := HLB.out; omega) (by omega))
      have HSB := Lib.hid (show (onionL ks s d0 d1 round c IN).user.length = 32 from submitL_user _ _ _ _ _)
      generalize onionL ks s d0 d1 round c IN = SB at *
      have hst := stabExt y
      have hk13 : HoldT (fun u => Ext y u) y y.drew := HoldT.drew hst ⟨Ext.refl _, Ext.refl _⟩
      have HCY := Lib.hid ((Below.cell hxy hcklt).trans HCK.out)
      have hcylt := Nat.lt_of_lt_of_le hcklt hxy.size
      try change Code.wp _ _ _ (Act.mk _ _) _
      refine wp_region_runR Ext 20 117 (HoldT (fun u => Ext y u) _) [[], [], [], [], [], [], [(4, 98), (5, 99)], [(6, 100)], [], [(8, 102)], [(9, 103)], [(10, 104)], [], [], [], [], [], [(7, 101), (11, 105), (12, 106), (13, 107), (14, 108), (15, 109), (16, 110)], [(1, 95), (2, 96), (3, 97), (17, 111)], [(18, 112)]] [(0, 94), (1, 95), (2, 96), (3, 97), (4, 98), (5, 99), (6, 100), (7, 101), (8, 102), (9, 103), (10, 104), (11, 105), (12, 106), (13, 107), (14, 108), (15, 109), (16, 110), (17, 111), (18, 112), (19, 113)] (by kernel_rfl) (by kernel_rfl) (by first | rfl | simp) (hk13) ?_
      simp only [List.take_succ_cons, List.take_zero, List.drop_succ_cons, List.drop_zero]
      refine sp_op (Ph.eq _) (fun u hu => by
        refine spArg_nil ?_
        have kck : u.cell? ⟨b2, o2 + c, none⟩ = some (.slice ak ks.length ck) := (Below.cell hu.has hcylt).trans HCY.out
        have kA : u.cell? ⟨A, 0, none⟩ = some (.int .u64 s) := (by rw [(HMY.out.ag.below hu.has).cell]; rfl)
        go_wp2_with (fail)
        exact ⟨rfl, hu, Ext.refl _, slot_eq rfl⟩) ?_
      refine sp_op (Ph.eq _) (fun u hu => by
        refine spArg_nil ?_
        have kck : u.cell? ⟨b2, o2 + c, none⟩ = some (.slice ak ks.length ck) := (Below.cell hu.has hcylt).trans HCY.out
        have kA : u.cell? ⟨A, 0, none⟩ = some (.int .u64 s) := (by rw [(HMY.out.ag.below hu.has).cell]; rfl)
        go_wp2_with (fail)
        exact ⟨rfl, hu, Ext.refl _, slot_eq rfl⟩) ?_
      refine sp_op (Ph.eq _) (fun u hu => by
        refine spArg_nil ?_
        have kck : u.cell? ⟨b2, o2 + c, none⟩ = some (.slice ak ks.length ck) := (Below.cell hu.has hcylt).trans HCY.out
        have kA : u.cell? ⟨A, 0, none⟩ = some (.int .u64 s) := (by rw [(HMY.out.ag.below hu.has).cell]; rfl)
        go_wp2_with (fail)
        exact ⟨rfl, hu, Ext.refl _, slot_eq rfl⟩) ?_
      refine sp_op (Ph.eq _) (fun u hu => by
        refine spArg_nil ?_
        have kck : u.cell? ⟨b2, o2 + c, none⟩ = some (.slice ak ks.length ck) := (Below.cell hu.has hcylt).trans HCY.out
        have kA : u.cell? ⟨A, 0, none⟩ = some (.int .u64 s) := (by rw [(HMY.out.ag.below hu.has).cell]; rfl)
        go_wp2_with (fail)
        exact ⟨rfl, hu, Ext.refl _, slot_eq rfl⟩) ?_
      refine sp_op (Ph.eq _) (fun u hu => by
        refine spArg_nil ?_
        have kck : u.cell? ⟨b2, o2 + c, none⟩ = some (.slice ak ks.length ck) := (Below.cell hu.has hcylt).trans HCY.out
        have kA : u.cell? ⟨A, 0, none⟩ = some (.int .u64 s) := (by rw [(HMY.out.ag.below hu.has).cell]; rfl)
        go_wp2_with (fail)
        exact ⟨rfl, hu, Ext.refl _, slot_eq rfl⟩) ?_
      refine sp_op (Ph.eq _) (fun u hu => by
        refine spArg_nil ?_
        have kck : u.cell? ⟨b2, o2 + c, none⟩ = some (.slice ak ks.length ck) := (Below.cell hu.has hcylt).trans HCY.out
        have kA : u.cell? ⟨A, 0, none⟩ = some (.int .u64 s) := (by rw [(HMY.out.ag.below hu.has).cell]; rfl)
        go_wp2_with (fail)
        exact ⟨rfl, hu, Ext.refl _, slot_eq rfl⟩) ?_
      refine sp_op (Ph.eq _) (fun u hu => by
        refine spArg_eq 1 rfl rfl ?_
        refine spArg_eq 0 rfl rfl ?_
        refine spArg_nil ?_
        simp only [Act.put, List.setIfInBounds_toArray, List.set_cons_succ, List.set_cons_zero]
        have kck : u.cell? ⟨b2, o2 + c, none⟩ = some (.slice ak ks.length ck) := (Below.cell hu.has hcylt).trans HCY.out
        have kA : u.cell? ⟨A, 0, none⟩ = some (.int .u64 s) := (by rw [(HMY.out.ag.below hu.has).cell]; rfl)
        go_wp2_with (fail)
        exact ⟨rfl, hu, Ext.refl _, slot_eq rfl⟩) ?_
      refine sp_op (Ph.eq _) (fun u hu => by
        refine spArg_eq 0 rfl rfl ?_
        refine spArg_nil ?_
        simp only [Act.put, List.setIfInBounds_toArray, List.set_cons_succ, List.set_cons_zero]
        have kck : u.cell? ⟨b2, o2 + c, none⟩ = some (.slice ak ks.length ck) := (Below.cell hu.has hcylt).trans HCY.out
        have kA : u.cell? ⟨A, 0, none⟩ = some (.int .u64 s) := (by rw [(HMY.out.ag.below hu.has).cell]; rfl)
        go_wp2_with (fail)
        exact ⟨rfl, hu, Ext.refl _, slot_eq rfl⟩) ?_
      refine sp_op (Ph.eq _) (fun u hu => by
        refine spArg_nil ?_
        have kck : u.cell? ⟨b2, o2 + c, none⟩ = some (.slice ak ks.length ck) := (Below.cell hu.has hcylt).trans HCY.out
        have kA : u.cell? ⟨A, 0, none⟩ = some (.int .u64 s) := (by rw [(HMY.out.ag.below hu.has).cell]; rfl)
        go_wp2_with (fail)
        exact ⟨rfl, hu, Ext.refl _, slot_eq rfl⟩) ?_
      refine sp_op (Ph.eq _) (fun u hu => by
        refine spArg_eq 0 rfl rfl ?_
        refine spArg_nil ?_
        simp only [Act.put, List.setIfInBounds_toArray, List.set_cons_succ, List.set_cons_zero]
        have kck : u.cell? ⟨b2, o2 + c, none⟩ = some (.slice ak ks.length ck) := (Below.cell hu.has hcylt).trans HCY.out
        have kA : u.cell? ⟨A, 0, none⟩ = some (.int .u64 s) := (by rw [(HMY.out.ag.below hu.has).cell]; rfl)
        go_wp2_with (fail)
        exact ⟨rfl, hu, Ext.refl _, slot_eq rfl⟩) ?_
      refine sp_op (Ph.eq _) (fun u hu => by
        refine spArg_eq 0 rfl rfl ?_
        refine spArg_nil ?_
        simp only [Act.put, List.setIfInBounds_toArray, List.set_cons_succ, List.set_cons_zero]
        have kck : u.cell? ⟨b2, o2 + c, none⟩ = some (.slice ak ks.length ck) := (Below.cell hu.has hcylt).trans HCY.out
        have kA : u.cell? ⟨A, 0, none⟩ = some (.int .u64 s) := (by rw [(HMY.out.ag.below hu.has).cell]; rfl)
        go_wp2_with (fail)
        exact ⟨rfl, hu, Ext.refl _, slot_eq rfl⟩) ?_
      refine sp_op (Ph.eq _) (fun u hu => by
        refine spArg_eq 0 rfl rfl ?_
        refine spArg_nil ?_
        simp only [Act.put, List.setIfInBounds_toArray, List.set_cons_succ, List.set_cons_zero]
        have kck : u.cell? ⟨b2, o2 + c, none⟩ = some (.slice ak ks.length ck) := (Below.cell hu.has hcylt).trans HCY.out
        have kA : u.cell? ⟨A, 0, none⟩ = some (.int .u64 s) := (by rw [(HMY.out.ag.below hu.has).cell]; rfl)
        go_wp2_with (fail)
        exact ⟨rfl, hu, Ext.refl _, slot_eq rfl⟩) ?_
      refine sp_op (Ph.eq _) (fun u hu => by
        refine spArg_nil ?_
        have kck : u.cell? ⟨b2, o2 + c, none⟩ = some (.slice ak ks.length ck) := (Below.cell hu.has hcylt).trans HCY.out
        have kA : u.cell? ⟨A, 0, none⟩ = some (.int .u64 s) := (by rw [(HMY.out.ag.below hu.has).cell]; rfl)
        go_wp2_with (fail)
        exact ⟨rfl, hu, Ext.refl _, slot_eq rfl⟩) ?_
      refine sp_op (Ph.eq _) (fun u hu => by
        refine spArg_nil ?_
        have kck : u.cell? ⟨b2, o2 + c, none⟩ = some (.slice ak ks.length ck) := (Below.cell hu.has hcylt).trans HCY.out
        have kA : u.cell? ⟨A, 0, none⟩ = some (.int .u64 s) := (by rw [(HMY.out.ag.below hu.has).cell]; rfl)
        go_wp2_with (fail)
        exact ⟨rfl, hu, Ext.refl _, slot_eq rfl⟩) ?_
      refine sp_op (Ph.eq _) (fun u hu => by
        refine spArg_nil ?_
        have kck : u.cell? ⟨b2, o2 + c, none⟩ = some (.slice ak ks.length ck) := (Below.cell hu.has hcylt).trans HCY.out
        have kA : u.cell? ⟨A, 0, none⟩ = some (.int .u64 s) := (by rw [(HMY.out.ag.below hu.has).cell]; rfl)
        go_wp2_with (fail)
        exact ⟨rfl, hu, Ext.refl _, slot_eq rfl⟩) ?_
      refine sp_op (Ph.eq _) (fun u hu => by
        refine spArg_nil ?_
        have kck : u.cell? ⟨b2, o2 + c, none⟩ = some (.slice ak ks.length ck) := (Below.cell hu.has hcylt).trans HCY.out
        have kA : u.cell? ⟨A, 0, none⟩ = some (.int .u64 s) := (by rw [(HMY.out.ag.below hu.has).cell]; rfl)
        go_wp2_with (fail)
        exact ⟨rfl, hu, Ext.refl _, slot_eq rfl⟩) ?_
      refine sp_op (Ph.eq _) (fun u hu => by
        refine spArg_nil ?_
        have kck : u.cell? ⟨b2, o2 + c, none⟩ = some (.slice ak ks.length ck) := (Below.cell hu.has hcylt).trans HCY.out
        have kA : u.cell? ⟨A, 0, none⟩ = some (.int .u64 s) := (by rw [(HMY.out.ag.below hu.has).cell]; rfl)
        go_wp2_with (fail)
        exact ⟨rfl, hu, Ext.refl _, slot_eq rfl⟩) ?_
      refine sp_op (Ph.sub y.heap.size SB) (fun u hu => by
        refine spArg_eq 9 rfl rfl ?_
        refine spArg_eq 5 rfl rfl ?_
        refine spArg_eq 4 rfl rfl ?_
        refine spArg_eq 3 rfl rfl ?_
        refine spArg_eq 2 rfl rfl ?_
        refine spArg_eq 1 rfl rfl ?_
        refine spArg_eq 0 rfl rfl ?_
        refine spArg_nil ?_
        simp only [Act.put, List.setIfInBounds_toArray, List.set_cons_succ, List.set_cons_zero]
        have kck : u.cell? ⟨b2, o2 + c, none⟩ = some (.slice ak ks.length ck) := (Below.cell hu.has hcylt).trans HCY.out
        have kA : u.cell? ⟨A, 0, none⟩ = some (.int .u64 s) := (by rw [(HMY.out.ag.below hu.has).cell]; rfl)
        go_wp2_with ((go_at_call 77; refine (HOM.out _ ((HSK.out.pubs).below (Ext.tr hxy hu.has) (by decide)) ((sees_of_owns HI8.out).below hu.has (by decide))).mono ?_; rintro e_ x_ ⟨v_, rfl, hown_, hb_⟩; obtain ⟨a_, c_, rfl, -, -⟩ := owns_form hown_))
        exact ⟨rfl, HoldT.step hst hu hb_, hb_, slot_of rfl ⟨a_, c_, rfl, owns_mono hown_ hu.up.size⟩⟩) ?_
      refine sp_op (Ph.made y.heap.size ⟨c, d0, IN, SB⟩ (.slice a8 IN.length c8)) (fun u hu => by
        refine spArg_eq 16 rfl rfl ?_
        refine spArg_eq 15 rfl rfl ?_
        refine spArg_eq 14 rfl rfl ?_
        refine spArg_in (φ := Ph.sub y.heap.size SB) 0 rfl rfl ?_; intro v17 h17
        obtain ⟨a17, c17, rfl, ho17⟩ := h17
        refine spArg_nil ?_
        simp only [Act.put, List.setIfInBounds_toArray, List.set_cons_succ, List.set_cons_zero]
        have kck : u.cell? ⟨b2, o2 + c, none⟩ = some (.slice ak ks.length ck) := (Below.cell hu.has hcylt).trans HCY.out
        have kA : u.cell? ⟨A, 0, none⟩ = some (.int .u64 s) := (by rw [(HMY.out.ag.below hu.has).cell]; rfl)
        go_wp2_with ((refine wpList_bld4 rfl 102 0 1 2 3 _ _ _ _ rfl (.int .i64 c) (.int .u64 d0) (.slice a8 IN.length c8) (.agg (subC SB (.slice a17 SB.e.box.length c17))) _ rfl rfl rfl rfl (run_buildMade ⟨c, d0, IN, SB⟩ a8 a17 IN.length c8 SB.e.box.length c17 HSB.out _) ?_))
        exact ⟨rfl, hu, Ext.refl _, slot_of rfl ⟨a17, c17, rfl, ho17⟩⟩) ?_
      refine sp_op (Ph.slM ⟨c, d0, IN, SB⟩) (fun u hu => by
        refine spArg_in (φ := Ph.made y.heap.size ⟨c, d0, IN, SB⟩ (.slice a8 IN.length c8)) 0 rfl rfl ?_; intro v18 h18
        obtain ⟨a18, c18, rfl, ho18⟩ := h18
        refine spArg_nil ?_
        simp only [Act.put, List.setIfInBounds_toArray, List.set_cons_succ, List.set_cons_zero]
        have kck : u.cell? ⟨b2, o2 + c, none⟩ = some (.slice ak ks.length ck) := (Below.cell hu.has hcylt).trans HCY.out
        have kA : u.cell? ⟨A, 0, none⟩ = some (.int .u64 s) := (by rw [(HMY.out.ag.below hu.has).cell]; rfl)
        go_wp2_with ((refine wpList_slitM rfl _ rfl ⟨c, d0, IN, SB⟩ a8 a18 c8 c18 HSB.out (owns_below HI8.out hu.has) ho18 rfl ?_; intro x19 B19 hl19 e19))
        exact ⟨rfl, HoldT.step hst hu e19, e19, slot_of rfl hl19⟩) ?_
      refine sp_end ?_
      intro u hu
      refine spArg_eq 19 rfl rfl ?_
      refine spArg_eq 18 rfl rfl ?_
      refine spArg_eq 17 rfl rfl ?_
      refine spArg_eq 16 rfl rfl ?_
      refine spArg_eq 15 rfl rfl ?_
      refine spArg_eq 14 rfl rfl ?_
      refine spArg_eq 13 rfl rfl ?_
      refine spArg_eq 12 rfl rfl ?_
      refine spArg_eq 11 rfl rfl ?_
      refine spArg_eq 10 rfl rfl ?_
      refine spArg_eq 9 rfl rfl ?_
      refine spArg_eq 8 rfl rfl ?_
      refine spArg_eq 7 rfl rfl ?_
      refine spArg_eq 6 rfl rfl ?_
      refine spArg_eq 5 rfl rfl ?_
      refine spArg_eq 4 rfl rfl ?_
      refine spArg_eq 3 rfl rfl ?_
      refine spArg_in (φ := Ph.sub y.heap.size SB) 2 rfl rfl ?_; intro v17 h17
      obtain ⟨a17, c17, rfl, ho17⟩ := h17
      refine spArg_in (φ := Ph.made y.heap.size ⟨c, d0, IN, SB⟩ (.slice a8 IN.length c8)) 1 rfl rfl ?_; intro v18 h18
      obtain ⟨a18, c18, rfl, ho18⟩ := h18
      refine spArg_in (φ := Ph.slM ⟨c, d0, IN, SB⟩) 0 rfl rfl ?_; intro v19 h19
      refine spArg_nil ?_
      simp only [Act.put, List.setIfInBounds_toArray, List.set_cons_succ, List.set_cons_zero]
      have HMU := Lib.hid (HMY.out.ext hu.has)
      have HPU := Lib.hid (HQE.out _ _ HPY.out hu.has)
      clear ho17 ho18
      go_wp2_with (first
        | (at_builtin; refine appRn madeR rfl _ _ 98 rfl Tryz.underlying98 info_madeZ rfl (by decide) (by decide) w.heap.size HMU.out.mod.size _ O rfl HMU.out.out _ [⟨c, d0, IN, SB⟩] rfl h19 (by have h1 := HOL.out; have h2 := HI.out.sl; simp only [List.length_cons, List.length_nil]; omega) ?_; intro v20 w20 hown20 hg20
           have hM20 := HMU.out.app hg20 hown20
           have hP20 := HQA.out _ _ _ _ _ HPU.out HMU.out.out hg20
           clear hg20))
      go_roundw
      case rel => exact ⟨k + 1, by omega, by go_num, by rw [HSU.out, HONE.out]; exact hM20, hP20⟩
      case measure => simp [intOf]; omega
    · obtain rfl : k = set.length := by omega
      go_wp2_with fail
      go_ret2
      exact ⟨_, rfl, ⟨hM.ag, hM.keys, OwR.nil _ _ _, hM.out, hM.mod, hM.kx⟩⟩
end Go.Proofs.YtbgnfioggmkdeaaGreatDoor
namespace Go.Proofs.YtbgnfioggmkdeaaGreatDoor
set_option linter.unusedVariables false
set_option linter.unusedSimpArgs false
open Go Go.RowKit

theorem info_made41 : (Tryz.prog.info? 102).map (·.size) = some 41 := by kernel_rfl
def madeZ : Array Value := ([Value.int .i64 0, .int .u64 0, .slice none 0 0] ++ Sub.cells ⟨List.replicate 32 0, ⟨0, []⟩, ⟨0, 0⟩, ⟨0, 0⟩⟩ (.slice none 0 0)).toArray
theorem run_allocMade (w : World) : (Instr.alloc 102 true (.tuple #[])).run Tryz.prog w = .ok (.pointer (some ⟨w.heap.size, 0, none⟩)) (w.alloc (.cells madeZ 102)) := by
  simp [go_sem]; rfl
theorem fill_arr0 (cs base : List Value) (n : Nat) (hn : cs.length = n) (hb : n ≤ base.length) : Array.foldl (fun (a : Array Value) (x : Value × Nat) => a.setIfInBounds x.snd x.fst) base.toArray cs.toArray.zipIdx 0 n = (cs ++ base.drop n).toArray := by
  have := fill_arr cs base 0 n hn (by omega)
  simpa using this
theorem run_litSub (s : Sub) (a : Option Addr) (n c : Nat) (h32 : s.user.length = 32) (W : World) :
    (Instr.buildSlice 37 1 #[(0, .agg (subC s (.slice a n c)))]).run Tryz.prog W = .ok (.slice (some ⟨W.heap.size, 0, none⟩) 1 1) (W.alloc (.cells (subC s (.slice a n c)) 50)) := by
  have hs : (subC s (.slice a n c)).size = 38 := subC_size _ _ h32
  have hl := Sub.length_cells s (.slice a n c) h32
  simp [go_sem, hs]
  unfold subC
  rw [fill_arr0 (s.cells (.slice a n c)) _ 38 hl (by simp)]
  simp
theorem made_sub {u : World} {g : Nat} {m : MadeO} {vi vb : Value} {t : TypeId} (h : Blk u g (m.cells vi vb).toArray t) : u.rangeAt g 3 (m.sub.cells vb) := blk_range h 3 _ (fun j v hj => by
  rw [List.getElem?_toArray, MadeO.cells, List.getElem?_append_right (by simp)]; simpa using hj)
theorem made_chain {u : World} {g : Nat} {m : MadeO} {vi vb : Value} {t : TypeId} (h : Blk u g (m.cells vi vb).toArray t) : u.cell? ⟨g, 0, none⟩ = some (.int .i64 m.chain) := by
  rw [h.cell]; rfl
theorem wpList_slitS {ops : Array Oper} {rest : List Oper} {o : Oper} {a : Act} {w : World} {Q : Exit → Act → World → Prop} (hgd : o.guard = none) (x : Operand) (ho : o.op = .buildSlice 37 1 #[(0, x)])
    (s : Sub) (a1 : Option Addr) (c1 : Nat) (h32 : s.user.length = 32) (hb : SlR byteR 0 w (.slice a1 s.e.box.length c1) s.e.box)
    (hx : a.eval x = .agg (subC s (.slice a1 s.e.box.length c1)))
    (h : ∀ w' B, SlR subR 0 w' (.slice (some ⟨B, 0, none⟩) 1 1) [s] → Ext w w' → wpList Tryz.prog ops Q rest (a.put o.dst (.slice (some ⟨B, 0, none⟩) 1 1)) w') : wpList Tryz.prog ops Q (o :: rest) a w := by
  refine wpList_plain hgd fun K hK => ?_
  unfold Oper.wp
  simp only [execOp, ho, List.map_toArray, List.map_cons, List.map_nil, hx, Sem.run_bind, run_litSub s _ _ _ h32, Result.andThen_ok, Sem.run_pure]
  exact hK _ _ (h _ _ (SlR.lit1 (R := subR) (y := s) (c := s.cells (.slice a1 s.e.box.length c1)) ⟨h32, _, rfl, hb⟩) (Ext.alloc _ _))
theorem wpList_slitI {ops : Array Oper} {rest : List Oper} {o : Oper} {a : Act} {w : World} {Q : Exit → Act → World → Prop} (hgd : o.guard = none) (x : Operand) (ho : o.op = .buildSlice 38 1 #[(0, x)]) (c : Int) (hx : a.eval x = .int .i64 c)
    (h : ∀ w' B, SlR intR 0 w' (.slice (some ⟨B, 0, none⟩) 1 1) [c] → Ext w w' → wpList Tryz.prog ops Q rest (a.put o.dst (.slice (some ⟨B, 0, none⟩) 1 1)) w') : wpList Tryz.prog ops Q (o :: rest) a w := by
  have hrun : (Instr.buildSlice 38 1 #[(0, .int .i64 c)]).run Tryz.prog w = .ok (.slice (some ⟨w.heap.size, 0, none⟩) 1 1) (w.alloc (.cells #[.int .i64 c] 3)) := by simp [go_sem]
  refine wpList_plain hgd fun K hK => ?_
  unfold Oper.wp
  simp only [execOp, ho, List.map_toArray, List.map_cons, List.map_nil, hx, Sem.run_bind, hrun, Result.andThen_ok, Sem.run_pure]
  exact hK _ _ (h _ _ (SlR.lit1 (R := intR) (y := c) (c := [.int .i64 c]) rfl) (Ext.alloc _ _))
theorem appRnR {α : Type} {P : Program} {w : World} {ops : Array Oper} {rest : List Oper} {o : Oper} {a : Act} {Q : Exit → Act → World → Prop} (R : Rp α) (hgd : o.guard = none) (s x : Operand) (tt : TypeId)
    (ho : o.op = .call { callee := .builtin .append, args := #[s, x], argTypes := #[tt, tt] }) (ht : P.underlying tt = some (.slice R.ty)) {z : Value} {bytes : Nat}
    (hi : (P.info? R.ty).map (fun i => (i.zero, i.size, i.bytes)) = some (some z, R.sz, bytes)) (hzs : z.cells.size = R.sz) (hnt : R.ty ∉ R.T) (hby : bytes ≤ 1000)
    (n : Nat) (hn : n ≤ w.heap.size) (v : Value) (l : List α) (hs : a.eval s = v) (hown : OwR R 0 n w v l) (vx : Value) (l' : List α) (hx : a.eval x = vx) (hsee : SlR R 0 w vx l')
    (hl : l.length + l'.length ≤ 1000000000)
    (h : ∀ v' w', OwR R 0 n w' v' (l ++ l') → w.grownBy w' v.ownBlock → RowT w v.ownBlock R.ty → (∀ g, v.ownBlock = some g → n ≤ g) → wpList P ops Q rest (a.put o.dst v') w') : wpList P ops Q (o :: rest) a w :=
  appRn R hgd s x tt ho ht hi hzs hnt hby n hn v l hs hown vx l' hx hsee hl (fun v' w' h1 h2 => h v' w' h1 h2 hown.row (fun g hg => (hown.lt g hg).1))
/-- What the loop keeps. -/
def SdRel (w : World) (A : Nat) (s : Int) (m : Nat) (now vg : Value) (G : List Nat) (vl : Value) (ls : List (List Pub)) (vm : Value) (O : List MadeO) (PQ : World → Prop) (vS vC i : Value) (wr : World) : Prop :=
  ∃ k : Nat, k ≤ O.length ∧ i = .int .i64 k ∧ MkB w A s m now vg G vl ls (.slice none 0 0) [] vm O wr ∧ OwR subR 0 w.heap.size wr vS ((O.take k).map MadeO.sub) ∧ OwR intR 0 w.heap.size wr vC ((O.take k).map MadeO.chain) ∧ PQ wr
theorem MkB.grow {w u u' : World} {A : Nat} {s : Int} {m : Nat} {now vg : Value} {G : List Nat} {vl : Value} {ls : List (List Pub)} {vset : Value} {set : List Int} {vout : Value} {O : List MadeO} {r : Option Nat} {t : TypeId} (h : MkB w A s m now vg G vl ls vset set vout O u) (hg : u.grownBy u' r) (hr : RowT u r t) (hL : ∀ g, r = some g → w.heap.size ≤ g)
    (ht : t ∉ [94, 102, 3, 28, 133, 5]) : MkB w A s m now vg G vl ls vset set vout O u' :=
  have hs : ∀ T : List TypeId, t ∉ T → Same 0 T u u' := fun T hT => Same.grown hg hr hT (fun _ _ => Nat.zero_le _)
  have hm : ∀ T : List TypeId, (∀ x ∈ T, x ∈ [94, 102, 3, 28, 133, 5]) → t ∉ T := fun T hT h => ht (hT t h)
  ⟨h.ag.grownBy hg (fun e => by
      obtain ⟨cs, fr, h'⟩ := hr A e.symm
      have := h.ag; unfold AgB Blk at this; rw [this] at h'; cases h'; exact ht (by decide)),
    h.keys.keep (hs _ (hm _ (by decide))), h.set.keep (hs _ (hm _ (by decide))), h.out.keep (hs _ (hm _ (by decide))),
    ⟨hg.os.trans h.mod.os, hg.tape.trans h.mod.tape, hg.output.trans h.mod.output, Nat.le_trans h.mod.size hg.size, fun k hk hn => (hg.block k (Nat.lt_of_lt_of_le hk h.mod.size) (fun e => by have := hL k e.symm; omega)).trans (h.mod.block k hk hn)⟩,
    ⟨Nat.le_trans h.kx.size hg.size, fun k cs t fr h1 h2 => by
      have hk := (Array.getElem?_eq_some_iff.1 h1).1
      exact (hg.block k (Nat.lt_of_lt_of_le hk h.mod.size) (fun e => by have := hL k e.symm; omega)).trans (h.kx.same k cs t fr h1 h2)⟩⟩
theorem MkB.growI {w u u' : World} {A : Nat} {s : Int} {m : Nat} {now vg : Value} {G : List Nat} {vl : Value} {ls : List (List Pub)} {vout : Value} {O : List MadeO} {r : Option Nat} {t : TypeId} (h : MkB w A s m now vg G vl ls (.slice none 0 0) [] vout O u) (hg : u.grownBy u' r) (hr : RowT u r t) (hL : ∀ g, r = some g → w.heap.size ≤ g)
    (ht : t ∉ [94, 102, 28, 133, 5]) : MkB w A s m now vg G vl ls (.slice none 0 0) [] vout O u' :=
  have hs : ∀ T : List TypeId, t ∉ T → Same 0 T u u' := fun T hT => Same.grown hg hr hT (fun _ _ => Nat.zero_le _)
  have hm : ∀ T : List TypeId, (∀ x ∈ T, x ∈ [94, 102, 28, 133, 5]) → t ∉ T := fun T hT h => ht (hT t h)
  ⟨h.ag.grownBy hg (fun e => by
      obtain ⟨cs, fr, h'⟩ := hr A e.symm
      have := h.ag; unfold AgB Blk at this; rw [this] at h'; cases h'; exact ht (by decide)),
    h.keys.keep (hs _ (hm _ (by decide))), OwR.nil _ _ _, h.out.keep (hs _ (hm _ (by decide))),
    ⟨hg.os.trans h.mod.os, hg.tape.trans h.mod.tape, hg.output.trans h.mod.output, Nat.le_trans h.mod.size hg.size, fun k hk hn => (hg.block k (Nat.lt_of_lt_of_le hk h.mod.size) (fun e => by have := hL k e.symm; omega)).trans (h.mod.block k hk hn)⟩,
    ⟨Nat.le_trans h.kx.size hg.size, fun k cs t fr h1 h2 => by
      have hk := (Array.getElem?_eq_some_iff.1 h1).1
      exact (hg.block k (Nat.lt_of_lt_of_le hk h.mod.size) (fun e => by have := hL k e.symm; omega)).trans (h.kx.same k cs t fr h1 h2)⟩⟩
/-- What is kept while an onion is put behind others. -/
def SdS (M : Nat) (mo : MadeO) (vi vb : Value) (u : World) : Prop := Blk u M (mo.cells vi vb).toArray 102
theorem sdStab (M : Nat) (mo : MadeO) (vi vb : Value) : Stab (SdS M mo vi vb) := fun _ _ h hb => h.below hb
theorem le_ext {n : Nat} {x u : World} (h : n ≤ x.heap.size) (e : Ext x u := by first | with_reducible exact Ext.refl _ | solve_by_elim (maxDepth := 30) [Ext.tr]) : n ≤ u.heap.size := Nat.le_trans h e.size
theorem MkB.extD {w u u' : World} {A : Nat} {s : Int} {m : Nat} {now vg : Value} {G : List Nat} {vl : Value} {ls : List (List Pub)} {vset : Value} {set : List Int} {vout : Value} {O : List MadeO} (h : MkB w A s m now vg G vl ls vset set vout O u) (e : Ext u u' := by first | with_reducible exact Ext.refl _ | solve_by_elim (maxDepth := 30) [Ext.tr]) : MkB w A s m now vg G vl ls vset set vout O u' := h.ext e
set_option maxRecDepth 100000 in
set_option maxHeartbeats 4000000 in
theorem SendN_any (A : Nat) (s : Int) (m : Nat) (vg vl : Value) (ls : List (List Pub)) (round : Int) (n : Nat) (w : World) (hI : MkIn s round ls (setS s n) n w) (hA : AgB w A s m (.pointer none) vg) (hls : SlR pubsR 0 w vl ls) :
    Calls Tryz.prog 14 #[.pointer (some ⟨A, 0, none⟩), .int .i64 round, .int .i64 n, vl] w fun e w' => ∃ vm vS vC, e = .returned (.tuple #[vS, vC, .int .i64 0]) ∧
      MkB w A s m (.pointer none) vg [] vl ls (.slice none 0 0) [] vm (outsO s round ls (setS s n) (fun _ => loopL s round) (setS s n).length) w' ∧
      OwR subR 0 w.heap.size w' vS ((outsO s round ls (setS s n) (fun _ => loopL s round) (setS s n).length).map MadeO.sub) ∧ OwR intR 0 w.heap.size w' vC ((outsO s round ls (setS s n) (fun _ => loopL s round) (setS s n).length).map MadeO.chain) ∧ True := by
  have HMK := Lib.hid (MakeN_any A s m vg vl ls round n w hI hA hls)
  have HOL := Lib.hid (length_outsO s round ls (setS s n) (fun _ => loopL s round) (setS s n).length)
  have hslb := hI.sl
  obtain ⟨al, cl, rfl, -, -⟩ := hls.form
  generalize outsO s round ls (setS s n) (fun _ => loopL s round) (setS s n).length = O at *
  go_enter Tryz.func14, Tryz.ntmps14
  go_wp2_with (first
    | (go_at_call 44; refine HMK.out.mono ?_; rintro e x0 ⟨vm, rfl, hM0⟩; obtain ⟨am, cm, rfl, -, -⟩ := hM0.out.form))
  have hOl : O.length ≤ 90 := by rw [HOL.out]; exact hslb
  have HQE := Lib.hid (fun (u u' : World) (_ : True) (e : Ext u u') => True.intro)
  have HQA := Lib.hid (fun (u u' : World) (r : Option Nat) (t : TypeId) (_ : True) (hg : u.grownBy u' r) (hr : RowT u r t) (ht : t = 50 ∨ t = 3) => True.intro)
  have hst0 := Lib.hid (show SdRel w A s m (.pointer none) vg [] (.slice al ls.length cl) ls (.slice am O.length cm) O (fun _ => True) (.slice none 0 0) (.slice none 0 0) (.int .i64 0) x0 from
    ⟨0, Nat.zero_le _, rfl, hM0, OwR.nil _ _ _, OwR.nil _ _ _, trivial⟩)
  clear hM0
  go_loopw [13, 14, 16, 30] (fun vS vC _ i wr => SdRel w A s m (.pointer none) vg [] (.slice al ls.length cl) ls (.slice am O.length cm) O (fun _ => True) vS vC i wr) (fun _ _ _ i _ => O.length - (intOf i).toNat)
  case atStart => exact hst0.out
  case round =>
    clear hst0
    obtain ⟨k, hk, rfl, hM, hS, hC, hPQ⟩ := hrel
    obtain ⟨aS, cS, rfl, -, -⟩ := hS.form
    obtain ⟨aC, cC, rfl, -, -⟩ := hC.form
    have hlS : ((O.take k).map MadeO.sub).length = k := by rw [List.length_map, List.length_take]; omega
    have hlC : ((O.take k).map MadeO.chain).length = k := by rw [List.length_map, List.length_take]; omega
    rw [hlS] at hS; rw [hlC] at hC
    have HLS := Lib.hid hlS; have HLC := Lib.hid hlC
    rw [hlS, hlC]
    clear hlS hlC
    by_cases hlt : k < O.length
    · obtain ⟨b1, o1, c1', he, -, -⟩ := hM.out.sl.open (by omega)
      cases he
      obtain ⟨ch, ⟨hu32, vi, vb, hch, hvi, hvb⟩, -, hrg⟩ := hM.out.sl.at k O[k] (List.getElem?_eq_getElem hlt)
      obtain ⟨ai, ci, rfl, -, -⟩ := hvi.form
      obtain ⟨ab, cb, rfl, -, -⟩ := hvb.form
      have hTS : (O.take (k + 1)).map MadeO.sub = (O.take k).map MadeO.sub ++ [O[k].sub] := by rw [List.take_succ_eq_append_getElem hlt, List.map_append]; rfl
      have hTC : (O.take (k + 1)).map MadeO.chain = (O.take k).map MadeO.chain ++ [O[k].chain] := by rw [List.take_succ_eq_append_getElem hlt, List.map_append]; rfl
      have HTS := Lib.hid hTS; have HTC := Lib.hid hTC
      clear hTS hTC
      generalize O[k] = mo at *
      subst hch
      generalize (O.take k).map MadeO.sub = LS at *
      generalize (O.take k).map MadeO.chain = LC at *
      have hm41 : (mo.cells (.slice ai mo.inside.length ci) (.slice ab mo.sub.e.box.length cb)).length = 41 := by rw [MadeO.cells, List.length_append, Sub.length_cells _ _ hu32]; rfl
      have HM41 := Lib.hid hm41; have H32 := Lib.hid hu32
      have hone := madeR.one (B := 0) (w := wr) (cs := mo.cells (.slice ai mo.inside.length ci) (.slice ab mo.sub.e.box.length cb)) (a := mo) ⟨hu32, _, _, rfl, hvi, hvb⟩
      have HONE := Lib.hid hone
      have HS := Lib.hid hS; have HC := Lib.hid hC; have HM := Lib.hid hM; have HVB := Lib.hid hvb; have HRG := Lib.hid hrg; have HPQ := Lib.hid hPQ
      clear hm41 hone hS hC hM hvi hvb hrg hu32 hPQ
      generalize hcs : mo.cells (.slice ai mo.inside.length ci) (.slice ab mo.sub.e.box.length cb) = cs at *
      have HCS := Lib.hid hcs; clear hcs
      have HSZ := Lib.hid (show cs.toArray.size = 41 from (List.size_toArray ..).trans HM41.out)
      go_wp2_with (first
        | (refine wpList_load_mid rfl 102 (.tmp 32) rfl b1 (o1 + k * 41) rfl _ _ HRG.out Tryz.underlying102 rfl (by rw [HM41.out]; exact info_made41) ?_)
        | (refine wpList_allocB rfl _ rfl _ run_allocMade ?_; intro y1 M hM1 hB1 e1)
        | (refine wpList_store_row rfl 102 _ _ rfl M cs.toArray _ _ rfl rfl hM1 (by rw [HSZ.out]; rfl) (by rw [HSZ.out]; exact info_made41) (by simpa using HONE.out) ?_; intro x hgx hsx hMx
           have ex : Ext wr x := ext_row e1 hgx hB1
           clear hgx hsx hM1))
      have HMX := Lib.hid (HM.out.ext ex)
      have hSx := (HS.out.ext ex).keep ((Ext.drew x).same 0 _)
      have hCx := (HC.out.ext ex).keep ((Ext.drew x).same 0 _)
      have hVx := (HVB.out.ext ex).keep ((Ext.drew x).same 0 _)
      have hPQx := HQE.out _ _ HPQ.out ex
      have hMxd := HMX.out.drew
      have hPQd := HQE.out _ _ hPQx (Ext.drew x)
      have hw := HMX.out.mod.size
      have hstab := sdStab M mo (.slice ai mo.inside.length ci) (.slice ab mo.sub.e.box.length cb)
      have hk9 : HoldT (SdS M mo (.slice ai mo.inside.length ci) (.slice ab mo.sub.e.box.length cb)) (wEmp x) x.drew := ⟨by unfold SdS; rw [HCS.out]; exact hMx, below_emp rfl rfl rfl⟩
      have hq0 : ∀ e : InC (SdS M mo (.slice ai mo.inside.length ci) (.slice ab mo.sub.e.box.length cb)), e.u.cell? ⟨M, 0, none⟩ = some (.int .i64 mo.chain) := fun e => made_chain e.has
      have hnew := HMX.out.out
      clear hMx
      have hwd : w.heap.size ≤ x.drew.heap.size := hw
      simp only [Act.put, List.setIfInBounds_toArray, List.set_cons_succ, List.set_cons_zero]
      have eX : Ext x.drew x.drew := Ext.refl _
      try change Code.wp _ _ _ (Act.mk _ _) _
      haveI hne_ : Nonempty (InC (SdS M mo (.slice ai mo.inside.length ci) (.slice ab mo.sub.e.box.length cb))) := ⟨⟨_, (hk9).1⟩⟩
      refine wp_region_tr (C := fun w_ => ∃ e_ : InC (SdS M mo (.slice ai mo.inside.length ci) (.slice ab mo.sub.e.box.length cb)), w_ = e_.u) (.step [0, 1, 2, 5, 6, 7] (.alt 3 (.step [] (.alt 4 (.step [] (.alt 8 (.step [] (.alt 9 (.fin [10, 11]) .nil)) .nil)) (.alt 8 (.step [] (.alt 4 (.step [] (.alt 9 (.fin [10, 11]) .nil)) .nil)) .nil))) (.alt 8 (.step [] (.alt 3 (.step [] (.alt 4 (.step [] (.alt 9 (.fin [10, 11]) .nil)) .nil)) .nil)) .nil))) (by kernel_rfl) (by kernel_rfl) (fun _ _ _ _ hd_ h_ => ⟨hd_.symm.trans h_.1, h_.2⟩) ⟨⟨World.drew _, (hk9).1⟩, rfl⟩ ?_
      have hk_ := hk9
      repeat' (first
        | ((with_reducible refine wpTr_fin ?_)
           simp only [pickOps, List.flatMap_cons, List.flatMap_nil, List.drop_succ_cons, List.drop_zero, List.take_succ_cons, List.take_zero, List.cons_append, List.nil_append, List.append_nil]
           repeat (first | ((refine wpQuiet_load_mid rfl 50 _ rfl M 3 rfl (mo.sub.cells (.slice ab mo.sub.e.box.length cb)) _ (fun w_ hw_ => by obtain ⟨e_, rfl⟩ := hw_; exact made_sub e_.has) Tryz.underlying50 rfl (by rw [Sub.length_cells _ _ H32.out]; exact info_sub) ?_; simp only [Act.put, List.setIfInBounds_toArray, List.set_cons_succ, List.set_cons_zero])) | go_big_quiet_step (exact rfl))
           refine wpQuiet_nil ?_)
        | ((with_reducible refine wpTr_step ?_); simp only [pickOps, List.flatMap_cons, List.flatMap_nil, List.drop_succ_cons, List.drop_zero, List.take_succ_cons, List.take_zero, List.cons_append, List.nil_append, List.append_nil]; repeat (first | ((refine wpQuiet_load_mid rfl 50 _ rfl M 3 rfl (mo.sub.cells (.slice ab mo.sub.e.box.length cb)) _ (fun w_ hw_ => by obtain ⟨e_, rfl⟩ := hw_; exact made_sub e_.has) Tryz.underlying50 rfl (by rw [Sub.length_cells _ _ H32.out]; exact info_sub) ?_; simp only [Act.put, List.setIfInBounds_toArray, List.set_cons_succ, List.set_cons_zero])) | go_big_quiet_step (exact rfl))
           refine wpQuiet_nil ?_)
        | (with_reducible refine wpTr_one ?_)
        | (with_reducible refine wpTr_alt ?_ ?_)
        | (simp only [pickOps, List.flatMap_cons, List.flatMap_nil, List.drop_succ_cons, List.drop_zero, List.take_succ_cons, List.take_zero, List.cons_append, List.nil_append, List.append_nil]
           go_wp2_with (first
        | (refine wpList_slitI rfl _ rfl mo.chain rfl ?_; intro x8 B8 hl8 e8; have hk8 := HoldT.step hstab hk_ e8
           have e8X : Ext x8 x8 := Ext.refl _
           (try have eX := Ext.tr eX e8)
           (try have e3X := Ext.tr e3X e8)
           (try have eY := Ext.tr eY e8))
        | (refine wpList_slitS rfl _ rfl mo.sub ab cb H32.out (hVx.ext eX) rfl ?_; intro x3 B3 hl3 e3; have hk3 := HoldT.step hstab hk_ e3
           have e3X : Ext x3 x3 := Ext.refl _
           have eX := Ext.tr eX e3
           (try have e8X := Ext.tr e8X e3))
        | (at_builtin; refine appRnR subR rfl _ _ 37 rfl Tryz.underlying37 info_subZ rfl (by decide) (by decide) w.heap.size (Nat.le_trans hwd eX.size) _ LS rfl (hSx.ext eX) _ [mo.sub] rfl (hl3.ext e3X) (by have := HLS.out; simp only [List.length_cons, List.length_nil]; omega) ?_; intro v4 w4 hown4 hg4 hrow4 hlow4
           have hM4 := (hMxd.ext eX).grow hg4 hrow4 hlow4 (by decide)
           have hC4 := (hCx.ext eX).keep (Same.grown hg4 hrow4 (by decide) (fun _ _ => Nat.zero_le _))
           have hPQ4 := HQA.out _ _ _ _ (HQE.out _ _ hPQd eX) hg4 hrow4 (Or.inl rfl)
           have hk4 : HoldT (SdS M mo (.slice ai mo.inside.length ci) (.slice ab mo.sub.e.box.length cb)) (wEmp x) w4 := ⟨hk_.has.grownBy hg4 (fun e => letter_ne (hSx.ext eX) hk_.has (by decide) e.symm), below_emp (hg4.os.trans hk_.up.os) (hg4.tape.trans hk_.up.tape) (hg4.output.trans hk_.up.output)⟩
           (try have hl84 := (hl8.ext e8X).keep (Same.grown hg4 hrow4 (by decide) (fun _ _ => Nat.zero_le _)))
           have hw4 := hM4.mod.size
           clear eX e3X
           have eY : Ext w4 w4 := Ext.refl _)
        | (at_builtin; refine appRnR intR rfl _ _ 38 rfl Tryz.underlying38 info_int3 rfl (by decide) (by decide) w.heap.size (Nat.le_trans hw4 eY.size) _ LC rfl (hC4.ext eY) _ [mo.chain] rfl (by first | exact hl84 | exact hl8) (by have := HLC.out; simp only [List.length_cons, List.length_nil]; omega) ?_; intro v9 w9 hown9 hg9 hrow9 hlow9
           have hM9 := (hM4.ext eY).growI hg9 hrow9 hlow9 (by decide)
           have hS9 := (hown4.ext eY).keep (Same.grown hg9 hrow9 (by decide) (fun _ _ => Nat.zero_le _))
           have hPQ9 := HQA.out _ _ _ _ (HQE.out _ _ hPQ4 eY) hg9 hrow9 (Or.inr rfl)
           have hk9' : HoldT (SdS M mo (.slice ai mo.inside.length ci) (.slice ab mo.sub.e.box.length cb)) (wEmp x) w9 := ⟨hk_.has.grownBy hg9 (fun e => letter_ne (hC4.ext eY) hk_.has (by decide) e.symm), below_emp (hg9.os.trans hk_.up.os) (hg9.tape.trans hk_.up.tape) (hg9.output.trans hk_.up.output)⟩))
           refine phPost_hold (by first | with_reducible assumption | exact HoldT.alloc hstab (by with_reducible assumption) _ | exact HoldT.alloc hstab (HoldT.alloc hstab (by with_reducible assumption) _) _) ?_
           intro hk_))
      all_goals (
        go_wp2_with fail
        go_roundw
        case rel => exact ⟨k + 1, by omega, by go_num, hM9, by rw [HTS.out]; exact hS9, by rw [HTC.out]; exact hown9, hPQ9⟩
        case measure => simp [intOf]; omega)
    · obtain rfl : k = O.length := by omega
      rw [List.take_length] at hS hC
      go_wp2_with fail
      go_ret3
      exact ⟨_, _, _, rfl, hM, hS, hC, hPQ⟩
set_option maxRecDepth 100000 in
set_option maxHeartbeats 4000000 in
theorem SendT_any (A : Nat) (s : Int) (m P : Nat) (vg vs vl : Value) (q : PeerL) (ls : List (List Pub)) (round : Int) (n : Nat) (w : World) (hI : MkIn s round ls (setS s n) n w) (hA : AgB w A s m (.pointer (some ⟨P, 0, none⟩)) vg) (hP : PeB w P q vs) (hq : in64 q.pub)
    (hsd : OwR payR 0 0 w vs q.said) (hl : q.said.length ≤ 1000) (h1 : q.sent ≤ 1000) (h2 : q.took ≤ 1000) (h3 : q.taken ≤ 1000000) (hls : SlR pubsR 0 w vl ls) :
    Calls Tryz.prog 14 #[.pointer (some ⟨A, 0, none⟩), .int .i64 round, .int .i64 n, vl] w fun e w' => ∃ vm vS vC, e = .returned (.tuple #[vS, vC, .int .i64 0]) ∧
      MkB w A s m (.pointer (some ⟨P, 0, none⟩)) vg [P] vl ls (.slice none 0 0) [] vm (outsO s round ls (setS s n) (ltS s round (atS s q.pub n) q) (setS s n).length) w' ∧
      OwR subR 0 w.heap.size w' vS ((outsO s round ls (setS s n) (ltS s round (atS s q.pub n) q) (setS s n).length).map MadeO.sub) ∧ OwR intR 0 w.heap.size w' vC ((outsO s round ls (setS s n) (ltS s round (atS s q.pub n) q) (setS s n).length).map MadeO.chain) ∧
      PeB w' P (peK (atS s q.pub n) round q (setS s n).length) vs ∧ OwR payR 0 0 w' vs q.said := by
  have HMK := Lib.hid (MakeT_any A s m P vg vs vl q ls round n w hI hA hP hq hsd hl h1 h2 h3 hls)
  have HOL := Lib.hid (length_outsO s round ls (setS s n) (ltS s round (atS s q.pub n) q) (setS s n).length)
  have hslb := hI.sl
  obtain ⟨al, cl, rfl, -, -⟩ := hls.form
  generalize outsO s round ls (setS s n) (ltS s round (atS s q.pub n) q) (setS s n).length = O at *
  generalize hpk : peK (atS s q.pub n) round q (setS s n).length = pk at *
  have HPK := Lib.hid hpk; clear hpk
  go_enter Tryz.func14, Tryz.ntmps14
  go_wp2_with (first
    | (go_at_call 44; refine HMK.out.mono ?_; rintro e x0 ⟨vm, rfl, hM0, hPE0⟩; obtain ⟨am, cm, rfl, -, -⟩ := hM0.out.form))
  have hOl : O.length ≤ 90 := by rw [HOL.out]; exact hslb
  have HQE := Lib.hid (fun (u u' : World) (h : PeB u P pk vs ∧ OwR payR 0 0 u vs q.said) (e : Ext u u') => (show PeB u' P pk vs ∧ OwR payR 0 0 u' vs q.said from ⟨h.1.below e, h.2.ext e⟩))
  have HQA := Lib.hid (fun (u u' : World) (r : Option Nat) (t : TypeId) (h : PeB u P pk vs ∧ OwR payR 0 0 u vs q.said) (hg : u.grownBy u' r) (hr : RowT u r t) (ht : t = 50 ∨ t = 3) => (show PeB u' P pk vs ∧ OwR payR 0 0 u' vs q.said from
    ⟨h.1.grownBy hg (fun e => by obtain ⟨cs, fr, h'⟩ := hr P e.symm; have := h.1; unfold PeB Blk at this; rw [this] at h'; cases h'; revert ht; decide), h.2.keep (Same.grown hg hr (by rcases ht with rfl | rfl <;> decide) (fun _ _ => Nat.zero_le _))⟩))
  have hst0 := Lib.hid (show SdRel w A s m (.pointer (some ⟨P, 0, none⟩)) vg [P] (.slice al ls.length cl) ls (.slice am O.length cm) O (fun u => PeB u P pk vs ∧ OwR payR 0 0 u vs q.said) (.slice none 0 0) (.slice none 0 0) (.int .i64 0) x0 from
    ⟨0, Nat.zero_le _, rfl, hM0, OwR.nil _ _ _, OwR.nil _ _ _, hPE0⟩)
  clear hM0 hPE0
  go_loopw [13, 14, 16, 30] (fun vS vC _ i wr => SdRel w A s m (.pointer (some ⟨P, 0, none⟩)) vg [P] (.slice al ls.length cl) ls (.slice am O.length cm) O (fun u => PeB u P pk vs ∧ OwR payR 0 0 u vs q.said) vS vC i wr) (fun _ _ _ i _ => O.length - (intOf i).toNat)
  case atStart => exact hst0.out
  case round =>
    clear hst0
    obtain ⟨k, hk, rfl, hM, hS, hC, hPQ⟩ := hrel
    obtain ⟨aS, cS, rfl, -, -⟩ := hS.form
    obtain ⟨aC, cC, rfl, -, -⟩ := hC.form
    have hlS : ((O.take k).map MadeO.sub).length = k := by rw [List.length_map, List.length_take]; omega
    have hlC : ((O.take k).map MadeO.chain).length = k := by rw [List.length_map, List.length_take]; omega
    rw [hlS] at hS; rw [hlC] at hC
    have HLS := Lib.hid hlS; have HLC := Lib.hid hlC
    rw [hlS, hlC]
    clear hlS hlC
    by_cases hlt : k < O.length
    · obtain ⟨b1, o1, c1', he, -, -⟩ := hM.out.sl.open (by omega)
      cases he
      obtain ⟨ch, ⟨hu32, vi, vb, hch, hvi, hvb⟩, -, hrg⟩ := hM.out.sl.at k O[k] (List.getElem?_eq_getElem hlt)
      obtain ⟨ai, ci, rfl, -, -⟩ := hvi.form
      obtain ⟨ab, cb, rfl, -, -⟩ := hvb.form
      have hTS : (O.take (k + 1)).map MadeO.sub = (O.take k).map MadeO.sub ++ [O[k].sub] := by rw [List.take_succ_eq_append_getElem hlt, List.map_append]; rfl
      have hTC : (O.take (k + 1)).map MadeO.chain = (O.take k).map MadeO.chain ++ [O[k].chain] := by rw [List.take_succ_eq_append_getElem hlt, List.map_append]; rfl
      have HTS := Lib.hid hTS; have HTC := Lib.hid hTC
      clear hTS hTC
      generalize O[k] = mo at *
      subst hch
      generalize (O.take k).map MadeO.sub = LS at *
      generalize (O.take k).map MadeO.chain = LC at *
      have hm41 : (mo.cells (.slice ai mo.inside.length ci) (.slice ab mo.sub.e.box.length cb)).length = 41 := by rw [MadeO.cells, List.length_append, Sub.length_cells _ _ hu32]; rfl
      have HM41 := Lib.hid hm41; have H32 := Lib.hid hu32
      have hone := madeR.one (B := 0) (w := wr) (cs := mo.cells (.slice ai mo.inside.length ci) (.slice ab mo.sub.e.box.length cb)) (a := mo) ⟨hu32, _, _, rfl, hvi, hvb⟩
      have HONE := Lib.hid hone
      have HS := Lib.hid hS; have HC := Lib.hid hC; have HM := Lib.hid hM; have HVB := Lib.hid hvb; have HRG := Lib.hid hrg; have HPQ := Lib.hid hPQ
      clear hm41 hone hS hC hM hvi hvb hrg hu32 hPQ
      generalize hcs : mo.cells (.slice ai mo.inside.length ci) (.slice ab mo.sub.e.box.length cb) = cs at *
      have HCS := Lib.hid hcs; clear hcs
      have HSZ := Lib.hid (show cs.toArray.size = 41 from (List.size_toArray ..).trans HM41.out)
      go_wp2_with (first
        | (refine wpList_load_mid rfl 102 (.tmp 32) rfl b1 (o1 + k * 41) rfl _ _ HRG.out Tryz.underlying102 rfl (by rw [HM41.out]; exact info_made41) ?_)
        | (refine wpList_allocB rfl _ rfl _ run_allocMade ?_; intro y1 M hM1 hB1 e1)
        | (refine wpList_store_row rfl 102 _ _ rfl M cs.toArray _ _ rfl rfl hM1 (by rw [HSZ.out]; rfl) (by rw [HSZ.out]; exact info_made41) (by simpa using HONE.out) ?_; intro x hgx hsx hMx
           have ex : Ext wr x := ext_row e1 hgx hB1
           clear hgx hsx hM1))
      have HMX := Lib.hid (HM.out.ext ex)
      have hSx := (HS.out.ext ex).keep ((Ext.drew x).same 0 _)
      have hCx := (HC.out.ext ex).keep ((Ext.drew x).same 0 _)
      have hVx := (HVB.out.ext ex).keep ((Ext.drew x).same 0 _)
      have hPQx := HQE.out _ _ HPQ.out ex
      have hMxd := HMX.out.drew
      have hPQd := HQE.out _ _ hPQx (Ext.drew x)
      have hw := HMX.out.mod.size
      have hstab := sdStab M mo (.slice ai mo.inside.length ci) (.slice ab mo.sub.e.box.length cb)
      have hk9 : HoldT (SdS M mo (.slice ai mo.inside.length ci) (.slice ab mo.sub.e.box.length cb)) (wEmp x) x.drew := ⟨by unfold SdS; rw [HCS.out]; exact hMx, below_emp rfl rfl rfl⟩
      have hq0 : ∀ e : InC (SdS M mo (.slice ai mo.inside.length ci) (.slice ab mo.sub.e.box.length cb)), e.u.cell? ⟨M, 0, none⟩ = some (.int .i64 mo.chain) := fun e => made_chain e.has
      have hnew := HMX.out.out
      clear hMx
      have hwd : w.heap.size ≤ x.drew.heap.size := hw
      simp only [Act.put, List.setIfInBounds_toArray, List.set_cons_succ, List.set_cons_zero]
      have eX : Ext x.drew x.drew := Ext.refl _
      try change Code.wp _ _ _ (Act.mk _ _) _
      haveI hne_ : Nonempty (InC (SdS M mo (.slice ai mo.inside.length ci) (.slice ab mo.sub.e.box.length cb))) := ⟨⟨_, (hk9).1⟩⟩
      refine wp_region_tr (C := fun w_ => ∃ e_ : InC (SdS M mo (.slice ai mo.inside.length ci) (.slice ab mo.sub.e.box.length cb)), w_ = e_.u) (.step [0, 1, 2, 5, 6, 7] (.alt 3 (.step [] (.alt 4 (.step [] (.alt 8 (.step [] (.alt 9 (.fin [10, 11]) .nil)) .nil)) (.alt 8 (.step [] (.alt 4 (.step [] (.alt 9 (.fin [10, 11]) .nil)) .nil)) .nil))) (.alt 8 (.step [] (.alt 3 (.step [] (.alt 4 (.step [] (.alt 9 (.fin [10, 11]) .nil)) .nil)) .nil)) .nil))) (by kernel_rfl) (by kernel_rfl) (fun _ _ _ _ hd_ h_ => ⟨hd_.symm.trans h_.1, h_.2⟩) ⟨⟨World.drew _, (hk9).1⟩, rfl⟩ ?_
      have hk_ := hk9
      repeat' (first
        | ((with_reducible refine wpTr_fin ?_)
           simp only [pickOps, List.flatMap_cons, List.flatMap_nil, List.drop_succ_cons, List.drop_zero, List.take_succ_cons, List.take_zero, List.cons_append, List.nil_append, List.append_nil]
           repeat (first | ((refine wpQuiet_load_mid rfl 50 _ rfl M 3 rfl (mo.sub.cells (.slice ab mo.sub.e.box.length cb)) _ (fun w_ hw_ => by obtain ⟨e_, rfl⟩ := hw_; exact made_sub e_.has) Tryz.underlying50 rfl (by rw [Sub.length_cells _ _ H32.out]; exact info_sub) ?_; simp only [Act.put, List.setIfInBounds_toArray, List.set_cons_succ, List.set_cons_zero])) | go_big_quiet_step (exact rfl))
           refine wpQuiet_nil ?_)
        | ((with_reducible refine wpTr_step ?_); simp only [pickOps, List.flatMap_cons, List.flatMap_nil, List.drop_succ_cons, List.drop_zero, List.take_succ_cons, List.take_zero, List.cons_append, List.nil_append, List.append_nil]; repeat (first | ((refine wpQuiet_load_mid rfl 50 _ rfl M 3 rfl (mo.sub.cells (.slice ab mo.sub.e.box.length cb)) _ (fun w_ hw_ => by obtain ⟨e_, rfl⟩ := hw_; exact made_sub e_.has) Tryz.underlying50 rfl (by rw [Sub.length_cells _ _ H32.out]; exact info_sub) ?_; simp only [Act.put, List.setIfInBounds_toArray, List.set_cons_succ, List.set_cons_zero])) | go_big_quiet_step (exact rfl))
           refine wpQuiet_nil ?_)
        | (with_reducible refine wpTr_one ?_)
        | (with_reducible refine wpTr_alt ?_ ?_)
        | (simp only [pickOps, List.flatMap_cons, List.flatMap_nil, List.drop_succ_cons, List.drop_zero, List.take_succ_cons, List.take_zero, List.cons_append, List.nil_append, List.append_nil]
           go_wp2_with (first
        | (refine wpList_slitI rfl _ rfl mo.chain rfl ?_; intro x8 B8 hl8 e8; have hk8 := HoldT.step hstab hk_ e8
           have e8X : Ext x8 x8 := Ext.refl _
           (try have eX := Ext.tr eX e8)
           (try have e3X := Ext.tr e3X e8)
           (try have eY := Ext.tr eY e8))
        | (refine wpList_slitS rfl _ rfl mo.sub ab cb H32.out (hVx.ext eX) rfl ?_; intro x3 B3 hl3 e3; have hk3 := HoldT.step hstab hk_ e3
           have e3X : Ext x3 x3 := Ext.refl _
           have eX := Ext.tr eX e3
           (try have e8X := Ext.tr e8X e3))
        | (at_builtin; refine appRnR subR rfl _ _ 37 rfl Tryz.underlying37 info_subZ rfl (by decide) (by decide) w.heap.size (Nat.le_trans hwd eX.size) _ LS rfl (hSx.ext eX) _ [mo.sub] rfl (hl3.ext e3X) (by have := HLS.out; simp only [List.length_cons, List.length_nil]; omega) ?_; intro v4 w4 hown4 hg4 hrow4 hlow4
           have hM4 := (hMxd.ext eX).grow hg4 hrow4 hlow4 (by decide)
           have hC4 := (hCx.ext eX).keep (Same.grown hg4 hrow4 (by decide) (fun _ _ => Nat.zero_le _))
           have hPQ4 := HQA.out _ _ _ _ (HQE.out _ _ hPQd eX) hg4 hrow4 (Or.inl rfl)
           have hk4 : HoldT (SdS M mo (.slice ai mo.inside.length ci) (.slice ab mo.sub.e.box.length cb)) (wEmp x) w4 := ⟨hk_.has.grownBy hg4 (fun e => letter_ne (hSx.ext eX) hk_.has (by decide) e.symm), below_emp (hg4.os.trans hk_.up.os) (hg4.tape.trans hk_.up.tape) (hg4.output.trans hk_.up.output)⟩
           (try have hl84 := (hl8.ext e8X).keep (Same.grown hg4 hrow4 (by decide) (fun _ _ => Nat.zero_le _)))
           have hw4 := hM4.mod.size
           clear eX e3X
           have eY : Ext w4 w4 := Ext.refl _)
        | (at_builtin; refine appRnR intR rfl _ _ 38 rfl Tryz.underlying38 info_int3 rfl (by decide) (by decide) w.heap.size (Nat.le_trans hw4 eY.size) _ LC rfl (hC4.ext eY) _ [mo.chain] rfl (by first | exact hl84 | exact hl8) (by have := HLC.out; simp only [List.length_cons, List.length_nil]; omega) ?_; intro v9 w9 hown9 hg9 hrow9 hlow9
           have hM9 := (hM4.ext eY).growI hg9 hrow9 hlow9 (by decide)
           have hS9 := (hown4.ext eY).keep (Same.grown hg9 hrow9 (by decide) (fun _ _ => Nat.zero_le _))
           have hPQ9 := HQA.out _ _ _ _ (HQE.out _ _ hPQ4 eY) hg9 hrow9 (Or.inr rfl)
           have hk9' : HoldT (SdS M mo (.slice ai mo.inside.length ci) (.slice ab mo.sub.e.box.length cb)) (wEmp x) w9 := ⟨hk_.has.grownBy hg9 (fun e => letter_ne (hC4.ext eY) hk_.has (by decide) e.symm), below_emp (hg9.os.trans hk_.up.os) (hg9.tape.trans hk_.up.tape) (hg9.output.trans hk_.up.output)⟩))
           refine phPost_hold (by first | with_reducible assumption | exact HoldT.alloc hstab (by with_reducible assumption) _ | exact HoldT.alloc hstab (HoldT.alloc hstab (by with_reducible assumption) _) _) ?_
           intro hk_))
      all_goals (
        go_wp2_with fail
        go_roundw
        case rel => exact ⟨k + 1, by omega, by go_num, hM9, by rw [HTS.out]; exact hS9, by rw [HTC.out]; exact hown9, hPQ9⟩
        case measure => simp [intOf]; omega)
    · obtain rfl : k = O.length := by omega
      rw [List.take_length] at hS hC
      go_wp2_with fail
      go_ret3
      exact ⟨_, _, _, rfl, hM, hS, hC, hPQ⟩
end Go.Proofs.YtbgnfioggmkdeaaGreatDoor
namespace Go.Proofs.YtbgnfioggmkdeaaGreatDoor
set_option linter.unusedVariables false
set_option linter.unusedSimpArgs false
open Go Go.RowKit

theorem run_buildKey0 (W : World) : (Instr.build 24 #[]).run Tryz.prog W = .ok (.agg (keyA (List.replicate 32 0))) W := by
  rw [keyA_zero]; simp [go_sem]
theorem num24_any (n : Int) (w : World) : Calls Tryz.prog 15 #[.int .i64 n] w fun e w' => e = .returned (.int .i64 n) ∧ w' = w := by
  go_enter Tryz.func15, Tryz.ntmps15
  go_wp2_with fail
  go_ret
  exact ⟨rfl, rfl⟩
theorem length_setS (s : Int) (n : Nat) : (setS s n).length = sidesN n := length_setL (groupN_le _ _)
/-- What a user of a small world is given. -/
theorem mkIn_of (s round : Int) (ls : List (List Pub)) (n : Nat) (w : World) (hs : in64 s) (r0 : 0 ≤ round) (r1 : round ≤ 1099511627776) (n1 : 1 ≤ n) (n2 : n ≤ 90) (ll : ls.length = n) (ok : ∀ ks ∈ ls, (∀ p ∈ ks, p.ok) ∧ ks.length ≤ 100) (itr : ItoaM round w) : MkIn s round ls (setS s n) n w :=
  ⟨hs, r0, r1, n1, by omega, ll, ok, by rw [length_setS]; have := sides_le n1; omega, setL_in _ n n1, itr⟩
theorem slP_lit (w : World) (a : Option Addr) (n c : Nat) (l : List Pub) (h : SlR pubR 0 w (.slice a n c) l) : SlR pubsR 0 (w.alloc (.cells #[.slice a n c] 28)) (.slice (some ⟨w.heap.size, 0, none⟩) 1 1) [l] :=
  SlR.lit1 (R := pubsR) (y := l) (c := [.slice a n c]) ⟨_, rfl, h⟩
set_option maxRecDepth 100000 in
set_option maxHeartbeats 2000000 in
theorem alive24_any (w : World) : Calls Tryz.prog 8 #[] w fun e w' => e = .returned (.bool true) ∧ Ext w w' := by
  have HN := Lib.hid (New_any 5 w ⟨by decide, by decide⟩)
  rw [show (5 : Int) % 2305843009213693950 = 5 from rfl] at HN
  have HKY := Lib.hid (fun W => Keysr_any (List.replicate 32 0) 0 0 1 W rfl ⟨by decide, by decide⟩ ⟨by decide, by decide⟩ (by decide) (by decide))
  have HPO := Lib.hid (show ∀ p ∈ keysP (List.replicate 32 0) 0 0 1, p.ok from chainN_ok _ _ _)
  have HPL := Lib.hid (length_keysP (List.replicate 32 0) 0 0 1)
  have HZK := Lib.hid (run_buildKey0)
  have HBS := Lib.hid (fun W => Baser_any 5 W (by decide) (by decide))
  generalize keysP (List.replicate 32 0) 0 0 1 = ps at *
  generalize List.replicate 32 (0 : UInt8) = zk at *
  have HOL := Lib.hid (length_outsO 5 0 [ps] (setS 5 1) (fun _ => loopL 5 0) (setS 5 1).length)
  have HSL := Lib.hid (show (setS 5 1).length = 1 from (length_setS 5 1).trans rfl)
  have HSD := Lib.hid fun (A m : Nat) (vl : Value) (W : World) (h : AgB W A 5 m (.pointer none) (.slice none 0 0)) (hl : SlR pubsR 0 W vl [ps]) => SendN_any A 5 m (.slice none 0 0) vl [ps] 0 1 W (mkIn_of 5 0 [ps] 1 W ⟨by decide, by decide⟩ (by decide) (by decide) (by decide) (by decide) rfl (fun ks hk => by rw [List.mem_singleton] at hk; subst hk; exact ⟨HPO.out, by rw [HPL.out]; decide⟩) (itoaM_small 0 W (by decide) (by decide))) h hl
  have HPB := Lib.hid fun (A m : Nat) (W : World) (h : AgB W A 5 m (.pointer none) (.slice none 0 0)) => APub_any A 5 m _ _ W h ⟨by decide, by decide⟩
  generalize outsO 5 0 [ps] (setS 5 1) (fun _ => loopL 5 0) (setS 5 1).length = O at *
  have HL1 := Lib.hid (show (O.map MadeO.sub).length = 1 by rw [List.length_map, HOL.out, HSL.out])
  have HL2 := Lib.hid (show (O.map MadeO.chain).length = 1 by rw [List.length_map, HOL.out, HSL.out])
  generalize timesP 37 5 = T at *
  go_enter Tryz.func8, Tryz.ntmps8
  go_wp2_with (first
    | (go_at_call 10; refine HN.out.mono ?_; rintro e x1 ⟨rfl, hA1, hm1, hs1, hb1⟩; have e1 : Ext w x1 := hb1; clear hs1 hb1)
    | (refine wpList_bld0 rfl 24 rfl _ HZK.out ?_)
    | (go_at_call 9; refine (HKY.out _).mono ?_; rintro e x2 ⟨v2, u2, rfl, -, hp2, hb2⟩; have hsl2 := slP_own (B := 0) hp2; obtain ⟨a2, c2, rfl, -, -⟩ := hsl2.form; have e2 : Ext w x2 := Ext.tr e1 hb2; have hA2 := hA1.below hb2)
    | (go_at_call 14; refine (HSD.out _ _ _ _ (hA2.alloc _) (slP_lit _ _ _ _ _ hsl2)).mono ?_; rintro e x3 ⟨vm, vS, vC, rfl, hM3, hS3, hC3, -⟩; obtain ⟨a3, c3, hv3, -, -⟩ := hS3.form; obtain ⟨a4, c4, hv4, -, -⟩ := hC3.form; rw [HL1.out] at hv3; rw [HL2.out] at hv4; subst hv3; subst hv4; clear hS3 hC3)
    | (go_at_call 15; refine (num24_any _ _).mono ?_; rintro e y ⟨rfl, hy⟩; subst y)
    | (go_at_call 22; refine (HPB.out _ _ _ hM3.ag).mono ?_; rintro e y ⟨rfl, hy⟩; subst y)
    | (go_at_call 19; refine (HBS.out _).mono ?_; rintro e y ⟨rfl, hy⟩; subst y))
  go_ret
  exact ⟨rfl, Ext.tr (Ext.tr e2 (Ext.alloc _ _)) hM3.mod.ext⟩
end Go.Proofs.YtbgnfioggmkdeaaGreatDoor
