/-
  Signatures: names, challenges, signing; both programs.
-/
import Derived.Test.YteialfdhbfbkgaaMac3
import Derived.Test.YteialfdhbfbkgaaProof2
import Derived.Lib.SlBytesConst
namespace Go.Proofs.Yteialfdhbfbkgaa
set_option linter.unusedVariables false
set_option linter.unusedSimpArgs false
open Go Go.RowKit

def sigS : List UInt8 := [115, 105, 103, 110]
def sigC (pub t : Int) (b : List UInt8) : Int := ofN (parts [sigS, put64 pub.toNat, put64 t.toNat, b])
theorem sigC_pos (pub t : Int) (b : List UInt8) : 0 ≤ sigC pub t b ∧ sigC pub t b < 2305843009213693950 := ofN_pos _
def nameL (pub : Int) : List UInt8 := sha (put64 pub.toNat)
theorem length_nameL (pub : Int) : (nameL pub).length = 32 := length_sha _
def sigD (secret : Int) (b : List UInt8) : Int := ofN (mac (put64 secret.toNat) b)
theorem sigD_pos (secret : Int) (b : List UInt8) : 0 ≤ sigD secret b ∧ sigD secret b < 2305843009213693950 := ofN_pos _
def signC (secret : Int) (b : List UInt8) : Int := sigC (timesP 37 secret) (timesP 37 (sigD secret b)) b
def signS (secret : Int) (b : List UInt8) : Int := ansP (signC secret b) secret (sigD secret b)
theorem signC_pos (secret : Int) (b : List UInt8) : 0 ≤ signC secret b ∧ signC secret b < 2305843009213693950 := ofN_pos _
theorem signS_pos (secret : Int) (b : List UInt8) : 0 ≤ signS secret b ∧ signS secret b < 2305843009213693950 := ansP_pos _ _ _
def signOk (pub : Int) (b : List UInt8) (c s : Int) : Prop := okP pub ∧ smallP c s ∧ sigC pub (backP 37 pub c s) b = c
instance (pub : Int) (b : List UInt8) (c s : Int) : Decidable (signOk pub b c s) := by unfold signOk; infer_instance

theorem seesBB_new {w : World} (us : List Value) (t : TypeId) (ll : List (List UInt8)) (hl : us.length = ll.length) (hm : ll.length ≤ 1000) (h : ∀ (i : Nat) (l : List UInt8) (u : Value), ll[i]? = some l → us[i]? = some u → SeesB w u l) :
    SeesBB (w.alloc (.cells us.toArray t)) (.slice (some ⟨w.heap.size, 0, none⟩) ll.length ll.length) ll :=
  ⟨us, by have := sees_new w 1 us.toArray t ll.length (by simp [hl]) (by unfold maxLen; omega); simpa using this, fun i l u h1 h2 => (h i l u h1 h2).alloc (by decide) _⟩
theorem seesBB_4 {w : World} {u1 u2 u3 u4 : Value} {l1 l2 l3 l4 : List UInt8} (t : TypeId) (h1 : SeesB w u1 l1) (h2 : SeesB w u2 l2) (h3 : SeesB w u3 l3) (h4 : SeesB w u4 l4) :
    SeesBB (w.alloc (.cells #[u1, u2, u3, u4] t)) (.slice (some ⟨w.heap.size, 0, none⟩) 4 4) [l1, l2, l3, l4] :=
  seesBB_new [u1, u2, u3, u4] t [l1, l2, l3, l4] rfl (by show 4 ≤ 1000; decide) (fun i l u hl hu => by
    match i with
    | 0 => cases hl; cases hu; exact h1
    | 1 => cases hl; cases hu; exact h2
    | 2 => cases hl; cases hu; exact h3
    | 3 => cases hl; cases hu; exact h4
    | n + 4 => simp at hl)
theorem seesB_key {w : World} {g : Nat} {l : List UInt8} {t : TypeId} (h : Blk w g (keyA l) t) (h32 : l.length = 32) : SeesB w (.slice (some ⟨g, 0, none⟩) 32 32) l := by
  have h1 := sees_block h 1 l.length (by rw [keyA_size, Nat.mul_one]) (by rw [h32]; decide)
  rw [h32] at h1
  unfold SeesB; rw [h32]
  rwa [keyA, List.toList_toArray] at h1

theorem seesB_litF (w : World) (cs : List Value) (t : TypeId) (fr : Nat × Nat) (l : List UInt8) (n : Nat) (h : cs = l.map BV) (hn : n = l.length) (hm : n ≤ maxLen) : SeesB (w.alloc (.cells cs.toArray t fr)) (.slice (some ⟨w.heap.size, 0, none⟩) n n) l := by
  subst h; subst hn
  have := sees_block (heap_alloc_new w (.cells (l.map BV).toArray t fr)) 1 l.length (by simp) hm
  simpa using this
theorem conv4 (a b c d : Int) (W : World) : (convert 25 25 (.slice (some ⟨W.heap.size, 0, none⟩) 4 4)).run Try.prog (W.alloc (.cells #[.int .u8 a, .int .u8 b, .int .u8 c, .int .u8 d] 5)) = .ok (.slice (some ⟨W.heap.size, 0, none⟩) 4 4) (W.alloc (.cells #[.int .u8 a, .int .u8 b, .int .u8 c, .int .u8 d] 5 (4, 5))) :=
  Lib.run_convert_bytes_const W 25 5 #[.int .u8 a, .int .u8 b, .int .u8 c, .int .u8 d] 4 4 u_bytes u_byte
set_option maxRecDepth 100000 in
set_option maxHeartbeats 1000000 in
theorem Name_any (pub : Int) (w : World) (hp : in64 pub) :
    Calls Try.prog 43 #[.int .u64 pub] w fun e w' => e = .returned (.agg (keyA (nameL pub))) ∧ Below w.heap.size w w' := by
  obtain ⟨p0, p1⟩ := hp
  have hR0 : Blk (w.alloc (.cells (keyA (List.replicate 32 0)) 23)) w.heap.size (keyA (List.replicate 32 0)) 23 := Blk.new _ _ _
  have hbel0 : Below w.heap.size w (w.alloc (.cells (keyA (List.replicate 32 0)) 23)) := by go_grown
  rw [keyA_zero] at hR0 hbel0
  rw [← keyA_zero] at hR0
  have HR0 := Lib.hid hR0; have HB0 := Lib.hid hbel0
  clear hR0 hbel0
  go_enter Try.func43, Try.ntmps43
  go_wp2_with (first
    | (go_at_call 56; refine (Bytes_any _ _ (by omega) (by omega)).mono ?_; rintro e w1 ⟨v1, rfl, hown1, hb1⟩; have hR1 := HR0.out.below hb1; have hbel1 := HB0.out.trans (hb1.mono HB0.out.size))
    | (go_at_call 72; refine (Sum_any _ _ (put64 pub.toNat) (sees_of_owns hown1) (by rw [length_put64]; decide)).mono ?_; rintro e w2 ⟨rfl, hb2⟩; have hR2 := hR1.below hb2; have hbel2 := hbel1.trans (hb2.mono hbel1.size))
    | (refine wpList_store_row rfl 23 _ _ rfl w.heap.size (keyA (sha (put64 pub.toNat))) _ _ rfl rfl hR2 (by rw [keyA_size, keyA_size, length_sha, List.length_replicate]) (by rw [keyA_size, length_sha]; exact info_key) (keyA_one _) ?_; intro w3 hg3 hs3 hR3))
  refine bodyPost_ret (results_cell_row Try.results43 _ _ w.heap.size _ _ (0, 0) _ rfl hR3 under_key rfl (by rw [keyA_size, length_sha]; exact info_key)) rfl ⟨rfl, hbel2.grown hg3 hbel2.size (fun k hk => by cases hk; exact Nat.le_refl _)⟩
set_option maxRecDepth 100000 in
set_option maxHeartbeats 1000000 in
theorem Namer_any (pub : Int) (w : World) (hp : in64 pub) :
    Calls Try.prog 44 #[.int .u64 pub] w fun e w' => e = .returned (.agg (keyA (nameL pub))) ∧ Below w.heap.size w w' := by
  obtain ⟨p0, p1⟩ := hp
  have hR0 : Blk (w.alloc (.cells (keyA (List.replicate 32 0)) 23)) w.heap.size (keyA (List.replicate 32 0)) 23 := Blk.new _ _ _
  have hbel0 : Below w.heap.size w (w.alloc (.cells (keyA (List.replicate 32 0)) 23)) := by go_grown
  rw [keyA_zero] at hR0 hbel0
  rw [← keyA_zero] at hR0
  have HR0 := Lib.hid hR0; have HB0 := Lib.hid hbel0
  clear hR0 hbel0
  go_enter Try.func44, Try.ntmps44
  go_wp2_with (first
    | (go_at_call 59; refine (Bytesr_any _ _ (by omega) (by omega)).mono ?_; rintro e w1 ⟨v1, rfl, hown1, hb1⟩; have hR1 := HR0.out.below hb1; have hbel1 := HB0.out.trans (hb1.mono HB0.out.size))
    | (go_at_call 73; refine (Shar_any _ _ (put64 pub.toNat) (sees_of_owns hown1) (by rw [length_put64]; decide)).mono ?_; rintro e w2 ⟨rfl, hb2⟩; have hR2 := hR1.below hb2; have hbel2 := hbel1.trans (hb2.mono hbel1.size))
    | (refine wpList_store_row rfl 23 _ _ rfl w.heap.size (keyA (sha (put64 pub.toNat))) _ _ rfl rfl hR2 (by rw [keyA_size, keyA_size, length_sha, List.length_replicate]) (by rw [keyA_size, length_sha]; exact info_key) (keyA_one _) ?_; intro w3 hg3 hs3 hR3))
  refine bodyPost_ret (results_cell_row Try.results44 _ _ w.heap.size _ _ (0, 0) _ rfl hR3 under_key rfl (by rw [keyA_size, length_sha]; exact info_key)) rfl ⟨rfl, hbel2.grown hg3 hbel2.size (fun k hk => by cases hk; exact Nat.le_refl _)⟩

set_option maxRecDepth 100000 in
set_option maxHeartbeats 1000000 in
theorem sigC_any (pub t : Int) (b : List UInt8) (v : Value) (w : World) (hp : in64 pub) (ht : in64 t) (hv : SeesB w v b) (hl : b.length ≤ 70368744170000) :
    Calls Try.prog 67 #[.int .u64 pub, .int .u64 t, v] w fun e w' => e = .returned (.int .u64 (sigC pub t b)) ∧ Below w.heap.size w w' := by
  obtain ⟨p0, p1⟩ := hp; obtain ⟨t0, t1⟩ := ht
  obtain ⟨a0, c0, rfl, hac0, hc0⟩ := sees_form hv
  have HS := Lib.hid (show sigC pub t b = ofN (parts [sigS, put64 pub.toNat, put64 t.toNat, b]) from rfl)
  have HFL : Hid ((flatP [sigS, put64 pub.toNat, put64 t.toNat, b]).length ≤ 70368744177000) := by
    show _ ≤ _
    simp only [flatP, List.flatMap_cons, List.flatMap_nil, List.length_append, length_put64, List.length_nil]
    have : sigS.length = 4 := rfl
    omega
  have hsg := Lib.hid (seesB_litF w [BV 115, BV 105, BV 103, BV 110] 5 (4, 5) sigS 4 rfl rfl (by decide))
  have hb0 := Lib.hid (show Below w.heap.size w (w.alloc (.cells #[BV 115, BV 105, BV 103, BV 110] 5 (4, 5))) by go_grown)
  have hcv := fun W : World => conv4 115 105 103 110 W
  generalize sigC pub t b = C at *
  go_enter Try.func67, Try.ntmps67
  go_wp2_with (first
    | (go_at_call 56; refine (Bytes_any pub _ (by omega) (by omega)).mono ?_; rintro e w1 ⟨v1, rfl, hown1, hb1⟩; obtain ⟨a1, c1, rfl, hac1, hc1⟩ := owns_form hown1
       have hsg1 := hsg.out.below hb1 (by decide)
       have hbel1 := hb0.out.trans (hb1.mono hb0.out.size))
    | (go_at_call 56; refine (Bytes_any t _ (by omega) (by omega)).mono ?_; rintro e w2 ⟨v2, rfl, hown2, hb2⟩; obtain ⟨a2, c2, rfl, hac2, hc2⟩ := owns_form hown2
       have hsg2 := hsg1.below hb2 (by decide)
       have hp2 := (sees_of_owns hown1).below hb2 (by decide)
       have hbel2 := hbel1.trans (hb2.mono hbel1.size))
    | (go_at_call 57; refine (Parts_any _ _ [sigS, put64 pub.toNat, put64 t.toNat, b] (seesBB_4 _ hsg2 hp2 (sees_of_owns hown2) (hv.below hbel2 (by decide))) HFL.out).mono ?_; rintro e w5 ⟨rfl, hb5⟩
       have hbel5 := (hbel2.alloc hbel2.size (.cells _ _)).trans (hb5.mono (by simp only [World.size_alloc]; exact Nat.le_succ_of_le hbel2.size)))
    | (refine wpList_store_row rfl 23 _ _ rfl w5.heap.size (keyA (parts [sigS, put64 pub.toNat, put64 t.toNat, b])) _ _ rfl rfl (Blk.new _ _ _) (by rw [keyA_size, length_parts]; rfl) (by rw [keyA_size, length_parts]; exact info_key) (keyA_one _) ?_; intro w7 hg7 hs7 hR7
       have hsee := seesB_key hR7 (length_parts _)
       have hbel7 : Below w.heap.size w w7 := (hbel5.alloc hbel5.size _).grown hg7 (by simp only [World.size_alloc]; exact Nat.le_succ_of_le hbel5.size) (fun k hk => by cases hk; exact hbel5.size))
    | (go_at_call 58; refine (Of_any _ _ (parts [sigS, put64 pub.toNat, put64 t.toNat, b]) hsee (by rw [length_parts]; decide)).mono ?_; rintro e w8 ⟨rfl, n8, rfl⟩))
  go_ret
  exact ⟨ret_u64 HS.out.symm, below_drewN hbel7 _⟩
set_option maxRecDepth 100000 in
set_option maxHeartbeats 1000000 in
theorem sigCr_any (pub t : Int) (b : List UInt8) (v : Value) (w : World) (hp : in64 pub) (ht : in64 t) (hv : SeesB w v b) (hl : b.length ≤ 70368744170000) :
    Calls Try.prog 69 #[.int .u64 pub, .int .u64 t, v] w fun e w' => e = .returned (.int .u64 (sigC pub t b)) ∧ Below w.heap.size w w' := by
  obtain ⟨p0, p1⟩ := hp; obtain ⟨t0, t1⟩ := ht
  obtain ⟨a0, c0, rfl, hac0, hc0⟩ := sees_form hv
  have HS := Lib.hid (show sigC pub t b = ofN (parts [sigS, put64 pub.toNat, put64 t.toNat, b]) from rfl)
  have HFL : Hid ((flatP [sigS, put64 pub.toNat, put64 t.toNat, b]).length ≤ 70368744177000) := by
    show _ ≤ _
    simp only [flatP, List.flatMap_cons, List.flatMap_nil, List.length_append, length_put64, List.length_nil]
    have : sigS.length = 4 := rfl
    omega
  have hsg := Lib.hid (seesB_litF w [BV 115, BV 105, BV 103, BV 110] 5 (4, 5) sigS 4 rfl rfl (by decide))
  have hb0 := Lib.hid (show Below w.heap.size w (w.alloc (.cells #[BV 115, BV 105, BV 103, BV 110] 5 (4, 5))) by go_grown)
  have hcv := fun W : World => conv4 115 105 103 110 W
  generalize sigC pub t b = C at *
  go_enter Try.func69, Try.ntmps69
  go_wp2_with (first
    | (go_at_call 59; refine (Bytesr_any pub _ (by omega) (by omega)).mono ?_; rintro e w1 ⟨v1, rfl, hown1, hb1⟩; obtain ⟨a1, c1, rfl, hac1, hc1⟩ := owns_form hown1
       have hsg1 := hsg.out.below hb1 (by decide)
       have hbel1 := hb0.out.trans (hb1.mono hb0.out.size))
    | (go_at_call 59; refine (Bytesr_any t _ (by omega) (by omega)).mono ?_; rintro e w2 ⟨v2, rfl, hown2, hb2⟩; obtain ⟨a2, c2, rfl, hac2, hc2⟩ := owns_form hown2
       have hsg2 := hsg1.below hb2 (by decide)
       have hp2 := (sees_of_owns hown1).below hb2 (by decide)
       have hbel2 := hbel1.trans (hb2.mono hbel1.size))
    | (go_at_call 60; refine (Partsr_any _ _ [sigS, put64 pub.toNat, put64 t.toNat, b] (seesBB_4 _ hsg2 hp2 (sees_of_owns hown2) (hv.below hbel2 (by decide))) HFL.out).mono ?_; rintro e w5 ⟨rfl, hb5⟩
       have hbel5 := (hbel2.alloc hbel2.size (.cells _ _)).trans (hb5.mono (by simp only [World.size_alloc]; exact Nat.le_succ_of_le hbel2.size)))
    | (refine wpList_store_row rfl 23 _ _ rfl w5.heap.size (keyA (parts [sigS, put64 pub.toNat, put64 t.toNat, b])) _ _ rfl rfl (Blk.new _ _ _) (by rw [keyA_size, length_parts]; rfl) (by rw [keyA_size, length_parts]; exact info_key) (keyA_one _) ?_; intro w7 hg7 hs7 hR7
       have hsee := seesB_key hR7 (length_parts _)
       have hbel7 : Below w.heap.size w w7 := (hbel5.alloc hbel5.size _).grown hg7 (by simp only [World.size_alloc]; exact Nat.le_succ_of_le hbel5.size) (fun k hk => by cases hk; exact hbel5.size))
    | (go_at_call 61; refine (OfN_any _ _ (parts [sigS, put64 pub.toNat, put64 t.toNat, b]) hsee (by rw [length_parts]; decide)).mono ?_; rintro e w8 ⟨rfl, n8, rfl⟩))
  go_ret
  exact ⟨ret_u64 HS.out.symm, below_drewN hbel7 _⟩
end Go.Proofs.Yteialfdhbfbkgaa
