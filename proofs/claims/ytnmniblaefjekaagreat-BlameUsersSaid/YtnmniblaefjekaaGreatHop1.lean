/-
  Products of the reference.
-/
import Derived.Test.YtnmniblaefjekaaGreatOrd
import Derived.Test.YtnmniblaefjekaaGreatBl4
import Derived.Test.YtnmniblaefjekaaGreatPr
namespace Go.Proofs.YtnmniblaefjekaaGreat
set_option linter.unusedVariables false
set_option linter.unusedSimpArgs false
open Go Go.RowKit

theorem Blk.grownT {w w' : World} {g : Nat} {cs : Array Value} {t t' : TypeId} {r : Option Nat} (h : Blk w g cs t) (hg : w.grownBy w' r) (hr : RowT w r t') (hne : t ≠ t') : Blk w' g cs t :=
  h.grownBy hg ((RowT.blk h).ne hr hne g rfl)
theorem in64_prodP : ∀ (l : List Int) (o : Int), 0 ≤ o → o < 2305843009213693951 → 0 ≤ prodP l o ∧ prodP l o < 2305843009213693951
  | [], o, h0, h1 => ⟨h0, h1⟩
  | x :: l, o, h0, h1 => by
    rw [prodP]
    split
    · exact in64_prodP l _ (Int.emod_nonneg _ (by decide)) (Int.emod_lt_of_pos _ (by decide))
    · exact ⟨by decide, by decide⟩
theorem prodE_pos (es : List Ent) : 0 ≤ prodE es ∧ prodE es < 2305843009213693951 := in64_prodP _ 1 (by decide) (by decide)
set_option maxRecDepth 100000 in
set_option maxHeartbeats 400000 in
theorem Productr_any (w : World) (v : Value) (l : List Int) (hv : SeesU w v l) (hl : ∀ x ∈ l, in64 x) :
    Calls Tryz.prog 93 #[v] w fun e w' => e = .returned (.int .u64 (prodP l 1)) ∧ w = w' := by
  have HV := Lib.hid hv
  obtain ⟨a, c, rfl, hc, hm⟩ := sees_form hv
  clear hv
  generalize hp : prodP l 1 = p
  have HPP := Lib.hid hp; clear hp
  go_enter Tryz.func93, Tryz.ntmps93
  go_wp2_with fail
  go_loop [4, 3] (fun i x => ProdRel l i x) (fun i _ => l.length - (intOf i).toNat)
  case atStart => exact ⟨0, 1, by omega, rfl, rfl, by omega, by omega, Lib.hid rfl⟩
  case round =>
    obtain ⟨k, o, hk, rfl, rfl, ho0, ho, hP⟩ := hrel
    by_cases hlt : k < l.length
    · obtain ⟨hl1, a1, c1, he1, hn1, hm1, hnc1, hcellx⟩ := HV.out
      cases he1
      obtain ⟨b, o1, rfl, hcell⟩ := hcellx (by omega)
      have hck := hcell k (UV l[k]) (by simp only [List.getElem?_map, List.getElem?_eq_getElem hlt]; rfl)
      clear hcellx hl1 hm1 hn1 hnc1 hcell
      have hin := hl l[k] (List.getElem_mem hlt)
      obtain ⟨z0, z1⟩ := hin
      have hdr : l.drop k = l[k] :: l.drop (k + 1) := List.drop_eq_getElem_cons hlt
      have hP2 := hP.out
      rw [hdr, prodP] at hP2
      clear hdr hP
      generalize l[k] = z at *
      by_cases hz : okP z
      · have hd := decide_eq_true hz
        rw [if_pos hz] at hP2
        have HP := Lib.hid hP2; clear hP2
        clear hz
        go_wp2_with (first
          | (go_at_call 50; refine (Rightr_any _ _ (by omega) (by omega)).mono ?_; rintro e_ w' ⟨rfl, rfl⟩)
          | (go_at_call 117; refine (MulP_any _ _ _ (by omega) (by omega) (by omega) (by omega)).mono ?_; rintro e_ w' ⟨rfl, rfl⟩))
        go_round
        case rel => exact ⟨k + 1, _, by omega, by go_num, rfl, by omega, by omega, HP⟩
        case measure => simp [intOf]; omega
      · have hd := decide_eq_false hz
        rw [if_neg hz] at hP2
        have HP := Lib.hid hP2; clear hP2
        clear hz
        go_wp2_with (go_at_call 50; refine (Rightr_any _ _ (by omega) (by omega)).mono ?_; rintro e_ w' ⟨rfl, rfl⟩)
        go_ret
        exact ⟨ret_u64 (HP.out.symm.trans HPP.out), rfl⟩
    · obtain rfl : k = l.length := by omega
      have hP2 := hP.out
      rw [List.drop_length, prodP] at hP2
      have HP := Lib.hid hP2; clear hP2 hP
      go_wp2
      go_ret
      exact ⟨ret_u64 (HP.out.symm.trans HPP.out), rfl⟩
def HProdRel (w : World) (es : List Ent) (x i : Value) (wr : World) : Prop :=
  ∃ k : Nat, k ≤ es.length ∧ i = .int .i64 k ∧ OwnU wr w.heap.size x ((es.take k).map Ent.x) ∧ Ext w wr
set_option maxRecDepth 100000 in
set_option maxHeartbeats 1000000 in
theorem hproductr_any (es : List Ent) (B : Nat) (v : Value) (w : World) (hv : SlR entR B w v es) (he : ∀ e ∈ es, e.ok) (hl : es.length ≤ 1000000000) :
    Calls Tryz.prog 60 #[v] w fun e w' => e = .returned (.int .u64 (prodE es)) ∧ Below w.heap.size w w' := by
  obtain ⟨a, c, rfl, hc, hm⟩ := hv.form
  have HV := Lib.hid hv; clear hv
  have HE := Lib.hid he; clear he
  go_enter Tryz.func60, Tryz.ntmps60
  go_wp2_with fail
  go_loopw [3, 4] (fun x i wr => HProdRel w es x i wr) (fun _ i _ => es.length - (intOf i).toNat)
  case atStart => exact ⟨0, Nat.zero_le _, rfl, ownU_nil _ _, Ext.refl _⟩
  case round =>
    obtain ⟨k, hk, rfl, hown, hext⟩ := hrel
    have HO := Lib.hid hown; have HX := Lib.hid hext
    obtain ⟨a1, c1, rfl, -, -⟩ := owns_form hown
    clear hown hext
    by_cases hlt : k < es.length
    · obtain ⟨b, o, c', e1, -, -⟩ := HV.out.open (by omega)
      obtain ⟨rfl, rfl⟩ : a = some ⟨b, o, none⟩ ∧ c = c' := by injection e1 with e1 _ e3; exact ⟨e1, e3⟩
      clear e1
      obtain ⟨e, hek⟩ : ∃ e, es[k]? = some e := ⟨_, List.getElem?_eq_getElem hlt⟩
      obtain ⟨ve, hrg, -⟩ := slE_at (HV.out.ext HX.out) k e hek
      have hcx : wr.cell? ⟨b, o + k * 2, none⟩ = some (.int .u64 e.x) := by have := hrg 0 _ rfl; rwa [Nat.add_zero] at this
      have HT := Lib.hid (show (es.take k).map Ent.x ++ [e.x] = (es.take (k + 1)).map Ent.x by
        obtain ⟨h1, rfl⟩ := List.getElem?_eq_some_iff.1 hek
        rw [List.take_succ_eq_append_getElem h1, List.map_append]; rfl)
      clear hrg hek
      have hlk : ((es.take k).map Ent.x).length = k := by rw [List.length_map, List.length_take]; omega
      have HLK := Lib.hid hlk
      have HOK := Lib.hid (show OwnU wr w.heap.size (.slice a1 k c1) ((es.take k).map Ent.x) by
        have h := HO.out; rw [show Value.slice a1 ((es.take k).map Ent.x).length c1 = Value.slice a1 k c1 from by rw [hlk]] at h; exact h)
      rw [hlk]
      clear hlk
      go_wp2_with (at_builtin; refine appU (W := w) rfl _ _ rfl (.slice a1 k c1) ((es.take k).map Ent.x) rfl (HOK.out.alloc _) _ [e.x] rfl (seesU_lit1 _ _ _) (by rw [HLK.out]; simp only [List.length_cons, List.length_nil]; omega) (Below.alloc HX.out (Below.size HX.out) _) ?_; intro v2 w2 hown2 hg2 hb2)
      go_roundw
      case rel => exact ⟨k + 1, by omega, by go_num, by rw [← HT.out]; exact hown2, hb2⟩
      case measure => (simp [intOf] <;> omega)
    · obtain rfl : k = es.length := by omega
      have hto := HO.out
      rw [List.take_length] at hto
      have HP := Lib.hid fun (w' : World) (h : Ext wr w') => Productr_any w' _ (es.map Ent.x) (by
        have := (sees_of_owns hto).below h (by decide)
        exact this) (fun x hx => by obtain ⟨e, he, rfl⟩ := List.mem_map.1 hx; exact HE.out e he)
      have HPE := Lib.hid (show prodE es = prodP (es.map Ent.x) 1 from rfl)
      generalize prodP (es.map Ent.x) 1 = PR at *
      have hlk : ((es.take es.length).map Ent.x).length = es.length := by rw [List.take_length, List.length_map]
      rw [List.length_map] at HP
      rw [hlk]
      go_wp2_with (go_at_call 93; refine (HP.out _ (Ext.refl _)).mono ?_; rintro r w3 ⟨rfl, rfl⟩)
      go_ret
      exact ⟨by rw [HPE.out]; rfl, HX.out⟩
end Go.Proofs.YtnmniblaefjekaaGreat
