/-
  The sum of bytes: the reference.
-/
import Derived.Test.YteialfdhbfbkgaaRef1
namespace Go.Proofs.Yteialfdhbfbkgaa
set_option linter.unusedVariables false
set_option linter.unusedSimpArgs false
open Go Go.RowKit

def ShaRel1 (w : World) (B g : Nat) (p : List UInt8) (v : Value) (wr : World) : Prop :=
  ∃ n : Nat, 64 * n ≤ p.length ∧ SeesB wr v (p.drop (64 * n)) ∧ v.ownBlock ≠ some B ∧ Blk wr B (cells8 (shaBlocks p n)) 95 ∧ Blk wr g (arr32 64 shaK) 94 ∧
    Blk wr w.heap.size (keyA (List.replicate 32 0)) 23 ∧ Below w.heap.size w wr
def ShaRel2 (w0 : World) (C : Nat) (q : List UInt8) (i : Value) (wr : World) : Prop :=
  ∃ n : Nat, n ≤ 16 ∧ i = .int .i64 n ∧ Blk wr C (arr32 64 (fun j => if j < n then blkW (q.take 64) j else 0)) 97 ∧ w0.grownBy wr (some C)
def ShaRel3 (w : World) (B : Nat) (s : W8) (i v : Value) (wr : World) : Prop :=
  ∃ n : Nat, n ≤ 8 ∧ i = .int .i64 n ∧ SeesB wr v (bytes8 s n) ∧ Blk wr B (cells8 s) 95 ∧ Blk wr w.heap.size (keyA (List.replicate 32 0)) 23 ∧ Below w.heap.size w wr
def ShaRel4 (w0 : World) (C : Nat) (l : List UInt8) (i : Value) (wr : World) : Prop :=
  ∃ n : Nat, n ≤ 32 ∧ i = .int .i64 n ∧ Blk wr C (arrB 32 (fun j => if j < n then l.getD j 0 else 0)) 23 ∧ w0.grownBy wr (some C)

set_option maxRecDepth 100000 in
set_option maxHeartbeats 1000000 in
theorem Shar_any (w : World) (v : Value) (l : List UInt8) (hv : SeesB w v l) (hl : l.length ≤ 70368744177000) :
    Calls Try.prog 73 #[v] w fun e w' => e = .returned (.agg (keyA (sha l))) ∧ Below w.heap.size w w' := by
  obtain ⟨a0, c0, rfl, hac0, hc0⟩ := sees_form hv
  have hpm := shaPad_mod l
  have hpl : (shaPad l).length ≤ 70368744177200 := by rw [length_shaPad]; unfold padN; omega
  have hpd : shaPad l = l ++ [128] ++ List.replicate (padN l.length) 0 ++ put64 (l.length * 8) := rfl
  unfold sha
  generalize hp : shaPad l = p at hpm hpl hpd ⊢
  have HM := Lib.hid hpm; clear hpm
  have HD := Lib.hid hpd; clear hpd hp
  go_enter Try.func73, Try.ntmps73
  go_wp2_with fail
  refine (Written_any _).mono ?_; rintro e w1 ⟨g, rfl, hK, hb1⟩
  have hk : Blk w1 w.heap.size (keyA (List.replicate 32 0)) 23 := by rw [keyA_zero]; exact (Blk.new w _ _).below hb1
  have hbel1 : Below w.heap.size w w1 := Below.trans (by go_grown) (hb1.mono (by simp only [World.size_alloc]; omega))
  have hlt : w.heap.size < w1.heap.size := hk.lt
  have hgl : g < w1.heap.size := hK.lt
  clear hb1
  have hN : Blk (w1.alloc (.cells (cells8 shaInit) 95)) w1.heap.size (cells8 shaInit) 95 := Blk.new _ _ _
  have hK : Blk (w1.alloc (.cells (cells8 shaInit) 95)) g (arr32 64 shaK) 94 := hK.alloc _
  have hk : Blk (w1.alloc (.cells (cells8 shaInit) 95)) w.heap.size (keyA (List.replicate 32 0)) 23 := hk.alloc _
  have hbelA : Below w.heap.size w (w1.alloc (.cells (cells8 shaInit) 95)) := hbel1.alloc hbel1.size _
  have hBA := hN.lt
  clear hbel1
  go_wp2_with (at_builtin; first
    | (refine appB (W := w1.alloc (.cells (cells8 shaInit) 95)) rfl _ _ rfl v1 l rfl (hown1.alloc _) _ [128] rfl (seesB_one _ 128 _) (by simp only [List.length_cons, List.length_nil]; omega) (hb1.alloc hb1.size _) ?_; intro v2 w2 hown2 hgr2 hb2)
    | (refine appB (W := w1.alloc (.cells (cells8 shaInit) 95)) rfl _ _ rfl (.slice none 0 0) [] rfl (ownB_nil _ _) _ l rfl (hv.below hbelA (by decide)) (by simp only [List.length_nil]; omega) (Below.refl _ _) ?_; intro v1 w2' hown1 hgr1 hb1))
  clear hown1 hgr1 hgr2 hb1
  generalize hWA : World.alloc w1 (.cells (cells8 shaInit) 95) = wA at *
  generalize w1.heap.size = B at *
  clear hWA
  go_loopw [5] (fun v wr => PadRel wA l v wr) (fun v _ => 70368744177664 - lenV v)
  case atStart => exact ⟨0, by omega, by simpa using hown2, hb2⟩
  case round =>
    clear hown2 hb2
    obtain ⟨z, hz, hown, hbel⟩ := hrel
    obtain ⟨a, c, rfl, hac, hc⟩ := owns_form hown
    have HO := Lib.hid hown; clear hown
    have hN2 : (l ++ [128] ++ List.replicate z 0).length = l.length + 1 + z := by simp; omega
    have hp : padN l.length = (119 - l.length % 64) % 64 := rfl
    generalize hN' : (l ++ [128] ++ List.replicate z 0).length = N at hN2 hac ⊢
    have HN := Lib.hid hN'; clear hN'
    have hb : N < 70368744177200 := by omega
    by_cases hlt2 : z < padN l.length
    · have ht : 0 < (N + 8) % 64 := by omega
      have HN2 := Lib.hid hN2; have HP := Lib.hid hp; clear hN2 hp
      go_wp2_with (at_builtin; refine appB (W := wA) rfl _ _ rfl (.slice a N c) (l ++ [128] ++ List.replicate z 0) rfl (by rw [← HN.out]; exact HO.out.alloc _) _ [0] rfl (seesB_one _ 0 _) (by rw [HN.out]; simp only [List.length_cons, List.length_nil]; omega) (hbel.alloc hbel.size _) ?_; intro v3 w3 hown3 hgr3 hb3)
      have hfin : PadRel wA l v3 w3 := ⟨z + 1, by omega, by
        rw [show l ++ [128] ++ List.replicate (z + 1) 0 = l ++ [128] ++ List.replicate z 0 ++ [0] from by rw [List.replicate_succ', List.append_assoc]; simp [List.append_assoc]]
        exact hown3, hb3⟩
      obtain ⟨a3, c3, rfl, hac3, hc3⟩ := owns_form hown3
      refine ⟨hfin, ?_⟩
      show 70368744177664 - (l ++ [128] ++ List.replicate z 0 ++ [0]).length < 70368744177664 - N
      rw [List.length_append, HN.out]; simp only [List.length_cons, List.length_nil]; omega
    · obtain rfl : z = padN l.length := by omega
      have ht : ¬ 0 < (N + 8) % 64 := by omega
      have HN2 := Lib.hid hN2; have HP := Lib.hid hp; clear hN2 hp
      go_wp2_with fail
      refine (Put64r_any _ _ (l ++ [128] ++ List.replicate (padN l.length) 0) _ (by rw [← HN.out]; exact sees_of_owns HO.out) (by omega) (by omega) (by rw [HN.out]; omega)).mono ?_
      rintro e w2 ⟨v2, rfl, hown2, hb2⟩
      have hb2A : Below wA.heap.size wA w2 := hbel.trans (hb2.mono hbel.size)
      have hp2 : SeesB w2 v2 p := by
        have := sees_of_owns hown2
        rw [show ((l.length : Int) * 8).toNat = l.length * 8 from by omega, ← HD.out] at this; exact this
      have hne2 : v2.ownBlock ≠ some B := fun e => by have := (hown2.lt _ e).1; have := hbel.size; omega
      have hN2 := hN.below hb2A
      have hK2 := hK.below hb2A
      have hk2 := hk.below hb2A
      have hbel2 : Below w.heap.size w w2 := hbelA.trans (hb2A.mono hbelA.size)
      have hBw : w.heap.size < B := by omega
      clear hown2 hb2 hb2A HO hbel hN hK hk hbelA HN2 HP HN ht hac hc hb
      go_wp2_with fail
      go_loopw [5] (fun v wr => ShaRel1 w B g p v wr) (fun v _ => lenV v)
      case atStart => exact ⟨0, by omega, by simpa using hp2, hne2, hN2, hK2, hk2, hbel2⟩
      case round =>
        clear hp2 hne2 hN2 hK2 hk2 hbel2
        obtain ⟨n, hn, hv5, hne, hN, hK, hk, hbel⟩ := hrel
        obtain ⟨a5, c5, rfl, hac5, hc5⟩ := sees_form hv5
        have hlen : (p.drop (64 * n)).length = p.length - 64 * n := by simp
        have hq : shaBlocks p (n + 1) = shaMix (shaBlocks p n) shaK ((p.drop (64 * n)).take 64) := rfl
        have hdd : p.drop (64 * (n + 1)) = (p.drop (64 * n)).drop 64 := by rw [List.drop_drop]; congr 1
        have HQ := Lib.hid hq; have HDD := Lib.hid hdd; clear hq hdd
        generalize hqe : p.drop (64 * n) = q at hv5 hne hac5 hlen HQ HDD ⊢
        have HV := Lib.hid hv5; have HE := Lib.hid hne; clear hv5 hne
        generalize hL : q.length = L at hac5 hlen ⊢
        have HL := Lib.hid hL; clear hL hqe
        by_cases hmore : 64 * n < p.length
        · have h64 : 64 ≤ L := by have := HM.out; omega
          have HLEN := Lib.hid hlen; clear hlen
          have hL0 : 0 < L := by omega
          go_wp2_with fail
          have hqlt : ∀ k, (Value.slice a5 L c5).ownBlock = some k → k < wr.heap.size := by
            rw [← HL.out]; exact HV.out.lt (by rw [HL.out]; omega)
          generalize hW0 : World.alloc wr _ = w0
          have hC : Blk w0 wr.heap.size (arr32 64 (fun _ => 0)) 97 := by rw [← hW0, arr32_zero64]; exact Blk.new _ _ _
          have hNa : Blk w0 B (cells8 (shaBlocks p n)) 95 := by rw [← hW0]; exact hN.alloc _
          have hKa : Blk w0 g (arr32 64 shaK) 94 := by rw [← hW0]; exact hK.alloc _
          have hka : Blk w0 w.heap.size (keyA (List.replicate 32 0)) 23 := by rw [← hW0]; exact hk.alloc _
          have hbela : Below w.heap.size w w0 := by rw [← hW0]; exact hbel.alloc hbel.size _
          have HVa := Lib.hid (show SeesB w0 (Value.slice a5 q.length c5) q by rw [← hW0]; exact HV.out.alloc (by decide) _)
          have hBC := hN.lt; have hgC := hK.lt; have hkC := hk.lt
          clear hW0 hN hK hk hbel HV
          generalize wr.heap.size = C at *
          go_loopw [7] (fun i wr => ShaRel2 w0 C q i wr) (fun i _ => 16 - (intOf i).toNat)
          case atStart =>
            refine ⟨0, by omega, rfl, ?_, grownBy_refl _ _⟩
            have e : arr32 64 (fun j => if j < 0 then blkW (q.take 64) j else 0) = arr32 64 (fun _ => 0) := arr32_congr fun i _ => by simp
            rw [e]; exact hC
          case round =>
            clear hC
            obtain ⟨m, hm, rfl, hC, hg⟩ := hrel
            have HVr := Lib.hid (HVa.out.grownBy hg (by decide) (Or.inr (fun e => by rw [HL.out] at e; have := hqlt _ e; omega)))
            by_cases hmlt : m < 16
            · have hcc : wr.cell? ⟨C, m, none⟩ = some (.int .u32 (N32 0)) := by rw [hC.cell, arr32_get _ _ _ (by omega), if_neg (by omega)]
              have hcf := hC.free m
              go_wp2_with (go_at_call 98; refine (Get32r_ok _ _ q _ (by rw [← HL.out]; exact HVr.out) (by omega) (by rw [HL.out]; omega)).mono ?_; rintro e w' ⟨rfl, rfl⟩)
              go_roundw
              case rel =>
                refine ⟨m + 1, by omega, by go_num, ?_, grownBy_set hg _ _⟩
                have := hC.set m (.int .u32 (N32 (blkW (q.take 64) m)))
                rw [arr32_set] at this
                have e : blkW (q.take 64) m = BitVec.ofNat 32 (beN ((q.drop (4 * m)).take 4)) := blkW_take q m hmlt
                rw [arr32_congr (g := fun j => if j = m then blkW (q.take 64) m else if j < m then blkW (q.take 64) j else 0)]
                · rw [N32_ofNat _ (beN4_lt _), ← e]; exact this
                · intro j _
                  by_cases e : j = m
                  · subst e; simp
                  · by_cases e2 : j < m
                    · simp [e, e2, show j < m + 1 from by omega]
                    · simp [e, e2, show ¬ j < m + 1 from by omega]
              case measure => simp [intOf]; omega
            · obtain rfl : m = 16 := by omega
              have hNr := hNa.grownBy hg (some_ne (by omega))
              have hKr := hKa.grownBy hg (some_ne (by omega))
              have hkr := hka.grownBy hg (some_ne (by omega))
              have hbr := hbela.grown hg hbela.size (fun k hk => by cases hk; omega)
              generalize hf : (fun j => if j < 16 then blkW (q.take 64) j else 0) = f at hC
              have hff : ∀ i, shaW f i = shaW (blkW (q.take 64)) i := shaW_congr (fun i hi => by rw [← hf]; simp [hi])
              have hsK : Sees wr 1 (.slice (some ⟨g, 0, none⟩) 64 64) 64 (arr32 64 shaK).toList := sees_block hKr 1 64 (by rw [arr32_size]) (by decide)
              clear hNa hKa hka hbela hg hf
              have HFF := Lib.hid hff; clear hff
              go_wp2_with (first
                | (refine wpList_load8 rfl _ rfl B _ rfl hNr ?_)
                | (refine wpList_load_row rfl 97 _ rfl C rfl _ _ (0, 0) _ hC Try.underlying97 rfl (by rw [arr32_size]; exact info_arr64) ?_)
                | (go_at_call 99; refine (mixed_any _ _ (shaBlocks p n) f shaK hsK).mono ?_; rintro e w5 ⟨rfl, hb5⟩; have hN5 := hNr.below hb5)
                | (refine wpList_store8 rfl _ _ rfl B _ _ rfl rfl hN5 ?_; intro w6 hg6 hs6 hN6))
              have hbel5 := hbr.trans (hb5.mono hbr.size)
              have hbel6 := hbel5.grown hg6 hbel5.size (fun k hk => by cases hk; omega)
              have hV6 : SeesB w6 (Value.slice a5 L c5) q := by rw [← HL.out]; exact (HVr.out.below hb5 (by decide)).grownBy hg6 (by decide) (Or.inr HE.out)
              have hK6 := (hKr.below hb5).grownBy hg6 (some_ne (by omega))
              have hk6 := (hkr.below hb5).grownBy hg6 (some_ne (by omega))
              have hN6' : Blk w6 B (cells8 (shaBlocks p (n + 1))) 95 := by
                rw [HQ.out]; unfold shaMix
                rw [← shaRounds_congr HFF.out 64]; exact hN6
              have hD6 := seesB_drop hV6 64 (by rw [HL.out]; omega)
              rw [HL.out] at hD6
              have hne6 : (Value.slice (if c5 = 64 then a5 else Option.map (fun x => x.add 64) a5) (L - 64) (c5 - 64)).ownBlock ≠ some B := by
                have h0 : (Value.slice a5 L c5).ownBlock ≠ some B := by rw [← HL.out]; exact HE.out
                cases a5 with
                | none => split <;> simp [Value.ownBlock]
                | some a => split <;> (simp only [Option.map_some, Value.ownBlock, addr_add] at h0 ⊢; first | exact h0 | (unfold Addr.add; split <;> exact h0))
              have HD6 := Lib.hid hD6; have HNE6 := Lib.hid hne6; have HN6 := Lib.hid hN6'
              clear hD6 hne6 hN6 hN6' hV6 hN5 hNr hC hsK hg6 hs6 hKr hkr hbr hb5 hbel5
              go_wp2_with fail
              refine ⟨⟨n + 1, by have := HM.out; omega, ?_, HNE6.out, HN6.out, hK6, hk6, hbel6⟩, by simp [lenV]; omega⟩
              rw [HDD.out]; exact HD6.out
        · have hn2 : 64 * n = p.length := by omega
          have hn64 : n = p.length / 64 := by omega
          rw [hn64] at hN
          have hL0 : L = 0 := by omega
          clear hn64 HQ HDD HV HE hlen
          generalize hs : shaBlocks p (p.length / 64) = s at hN
          have HS := Lib.hid hs; clear hs
          subst hL0
          clear hn2 hmore HL hn
          go_wp2_with fail
          go_loopw [11, 10] (fun i v wr => ShaRel3 w B s i v wr) (fun i _ _ => 8 - (intOf i).toNat)
          case atStart => exact ⟨0, by omega, rfl, Sees.nil _ _, hN, hk, hbel⟩
          case round =>
            clear hN hK hk hbel
            obtain ⟨n, hn, rfl, hv, hN, hk, hbel⟩ := hrel
            by_cases hlt2 : n < 8
            · have hcN : wr.cell? ⟨B, n, none⟩ = some (.int .u32 (N32 (s.get n))) := by rw [hN.cell, cells8_arr, arr32_get _ _ _ hlt2]
              have hlen := length_bytes8 s n
              have HL := Lib.hid hlen; clear hlen
              go_wp2_with (go_at_call 92; refine (Put32r_any _ _ (bytes8 s n) _ hv (N32_nonneg _) (N32_lt _) (by rw [HL.out]; omega)).mono ?_; rintro e w5 ⟨v6, rfl, hown6, hb6⟩)
              go_roundw
              case rel =>
                refine ⟨n + 1, by omega, by go_num, ?_, hN.below hb6, hk.below hb6, hbel.trans (hb6.mono hbel.size)⟩
                rw [bytes8_succ]
                have := sees_of_owns hown6
                rwa [show (N32 (s.get n)).toNat = (s.get n).toNat from by unfold N32; simp] at this
              case measure => simp [intOf]; omega
            · obtain rfl : n = 8 := by omega
              have hl32 : (bytes8 s 8).length = 32 := length_bytes8 s 8
              obtain ⟨b, o, c, rfl, hc1, hc2, hr⟩ := seesB_open hv (by rw [hl32]; omega)
              rw [hl32] at hc1 ⊢
              have HL := Lib.hid hl32; clear hl32
              have HR := Lib.hid hr; clear hr
              have HV := Lib.hid hv; clear hv
              go_wp2_with fail
              generalize hW0 : World.alloc wr _ = w0
              have hC : Blk w0 wr.heap.size (keyA (List.replicate 32 0)) 23 := by rw [← hW0, keyA_zero]; exact Blk.new _ _ _
              have hka : Blk w0 w.heap.size (keyA (List.replicate 32 0)) 23 := by rw [← hW0]; exact hk.alloc _
              have hbela : Below w.heap.size w w0 := by rw [← hW0]; exact hbel.alloc hbel.size _
              have hra : w0.rangeAt b o ((bytes8 s 8).map BV) := by rw [← hW0]; exact World.rangeAt_alloc HR.out _
              have hbl : b < wr.heap.size := by
                have h1 := HR.out 0 (BV ((bytes8 s 8)[0]'(by rw [HL.out]; omega))) (by rw [List.getElem?_map, List.getElem?_eq_getElem (by rw [HL.out]; omega)]; rfl)
                exact World.block_lt_of_cell? wr _ h1
              have hkC := hk.lt
              clear hW0 hN hk hbel HR HV
              generalize wr.heap.size = C at *
              go_loopw [13] (fun i wr => ShaRel4 w0 C (bytes8 s 8) i wr) (fun i _ => 32 - (intOf i).toNat)
              case atStart =>
                refine ⟨0, by omega, rfl, ?_, grownBy_refl _ _⟩
                have e : arrB 32 (fun j => if j < 0 then (bytes8 s 8).getD j 0 else 0) = keyA (List.replicate 32 0) := by
                  rw [keyA_arrB]
                  show _ = arrB 32 _
                  exact arrB_congr fun i hi => by rw [if_neg (by omega), List.getD_eq_getElem?_getD, List.getElem?_replicate, if_pos hi]; rfl
                rw [e]; exact hC
              case round =>
                clear hC
                obtain ⟨m, hm, rfl, hC, hg⟩ := hrel
                by_cases hmlt : m < 32
                · have hc1' : wr.cell? ⟨C, m, none⟩ = some (BV 0) := by rw [hC.cell, arrB_get _ _ _ hmlt, if_neg (by omega)]
                  have hcf := hC.free m
                  have hcr : wr.cell? ⟨b, o + m, none⟩ = some (BV ((bytes8 s 8).getD m 0)) := by
                    rw [World.cell?_of_block (w := w0) (hg.block b (World.block_lt_of_cell? w0 _ (hra m (BV ((bytes8 s 8)[m]'(by rw [HL.out]; omega))) (by rw [List.getElem?_map, List.getElem?_eq_getElem (by rw [HL.out]; omega)]; rfl))) (some_ne (by omega)))]
                    apply hra
                    rw [List.getElem?_map, List.getD_eq_getElem?_getD, List.getElem?_eq_getElem (by rw [HL.out]; omega)]; rfl
                  generalize hbx : (bytes8 s 8).getD m 0 = bx at hcr
                  have HBX := Lib.hid hbx; clear hbx
                  go_wp2_with fail
                  go_roundw
                  case rel =>
                    refine ⟨m + 1, by omega, by go_num, ?_, grownBy_set hg _ _⟩
                    have := hC.set m (BV ((bytes8 s 8).getD m 0))
                    rw [arrB_step, HBX.out] at this; exact this
                  case measure => simp [intOf]; omega
                · obtain rfl : m = 32 := by omega
                  have e : arrB 32 (fun j => if j < 32 then (bytes8 s 8).getD j 0 else 0) = keyA (bytes8 s 8) := by
                    rw [keyA_arrB, HL.out]; exact arrB_congr fun i hi => by simp [hi]
                  rw [e] at hC; clear e
                  have hkr := hka.grownBy hg (some_ne (by omega))
                  have hbr := hbela.grown hg hbela.size (fun k hk => by cases hk; omega)
                  go_wp2_with (first
                    | (refine wpList_load_row rfl 23 _ rfl C rfl _ _ (0, 0) _ hC under_key rfl (by rw [keyA_size, HL.out]; exact info_key) ?_)
                    | (refine wpList_store_row rfl 23 _ _ rfl w.heap.size (keyA (bytes8 s 8)) _ _ rfl rfl hkr (by rw [keyA_size, keyA_size, HL.out]; rfl) (by rw [keyA_size, HL.out]; exact info_key) (keyA_one _) ?_; intro w7 hg7 hs7 hR7))
                  refine bodyPost_ret (results_cell_row Try.results73 _ _ w.heap.size _ _ (0, 0) _ rfl hR7 under_key rfl (by rw [keyA_size, HL.out]; exact info_key)) rfl ⟨?_, hbr.grown hg7 hbr.size (fun k hk => ?_)⟩
                  · rw [HS.out]
                  · cases hk; exact Nat.le_refl _
end Go.Proofs.Yteialfdhbfbkgaa
