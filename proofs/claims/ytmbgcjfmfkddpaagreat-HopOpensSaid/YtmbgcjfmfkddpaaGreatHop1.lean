/-
  Products of the reference.
-/
import Derived.Test.YtmbgcjfmfkddpaaGreatPrd
import Derived.Test.YtmbgcjfmfkddpaaGreatSet
import Derived.Test.YtmbgcjfmfkddpaaGreatOrd
import Derived.Test.YtmbgcjfmfkddpaaGreatBl4
import Derived.Test.YtmbgcjfmfkddpaaGreatPr
namespace Go.Proofs.YtmbgcjfmfkddpaaGreat
set_option linter.unusedVariables false
set_option linter.unusedSimpArgs false
open Go Go.RowKit

theorem prodE_pos (es : List Ent) : 0 ≤ prodE es ∧ prodE es < 2305843009213693951 := in64_prodP _ 1 (by decide) (by decide)
def HProdRel (w : World) (es : List Ent) (x i : Value) (wr : World) : Prop :=
  ∃ k : Nat, k ≤ es.length ∧ i = .int .i64 k ∧ OwnU wr w.heap.size x ((es.take k).map Ent.x) ∧ Ext w wr
set_option maxRecDepth 100000 in
set_option maxHeartbeats 1000000 in
theorem hproductr_any (es : List Ent) (B : Nat) (v : Value) (w : World) (hv : SlR entR B w v es) (he : ∀ e ∈ es, e.ok) (hl : es.length ≤ 1000000000) :
    Calls Tryz.prog 38 #[v] w fun e w' => e = .returned (.int .u64 (prodE es)) ∧ Below w.heap.size w w' := by
  obtain ⟨a, c, rfl, hc, hm⟩ := hv.form
  have HV := Lib.hid hv; clear hv
  have HE := Lib.hid he; clear he
  go_enter Tryz.func38, Tryz.ntmps38
  go_wp2_with fail
  go_loopw [3, 4] (fun x i wr => HProdRel w es x i wr) (fun _ i _ => es.length - (intOf i).toNat)
  case atStart => exact ⟨0, Nat.zero_le _, rfl, ownU_nil _ _, Ext.refl _⟩
  case round =>
    obtain ⟨k, hk, rfl, hown, hext⟩ := hrel
    have HO := Lib.hid hown; have HX := Lib.hid hext
    obtain ⟨a1, c1, rfl, -, -⟩ := owns_form hown
    clear hown hext
    by_cases hlt : k < es.length
    · obtain ⟨b, o, c', e1, -, -⟩ := HV.out.open (by omega)
      obtain ⟨rfl, rfl⟩ : a = some ⟨b, o, none⟩ ∧ c = c' := by injection e1 with e1 _ e3; exact ⟨e1, e3⟩
      clear e1
      obtain ⟨e, hek⟩ : ∃ e, es[k]? = some e := ⟨_, List.getElem?_eq_getElem hlt⟩
      obtain ⟨ve, hrg, -⟩ := slE_at (HV.out.ext HX.out) k e hek
      have hcx : wr.cell? ⟨b, o + k * 2, none⟩ = some (.int .u64 e.x) := by have := hrg 0 _ rfl; rwa [Nat.add_zero] at this
      have HT := Lib.hid (show (es.take k).map Ent.x ++ [e.x] = (es.take (k + 1)).map Ent.x by
        obtain ⟨h1, rfl⟩ := List.getElem?_eq_some_iff.1 hek
        rw [List.take_succ_eq_append_getElem h1, List.map_append]; rfl)
      clear hrg hek
      have hlk : ((es.take k).map Ent.x).length = k := by rw [List.length_map, List.length_take]; omega
      have HLK := Lib.hid hlk
      have HOK := Lib.hid (show OwnU wr w.heap.size (.slice a1 k c1) ((es.take k).map Ent.x) by
        have h := HO.out; rw [show Value.slice a1 ((es.take k).map Ent.x).length c1 = Value.slice a1 k c1 from by rw [hlk]] at h; exact h)
      rw [hlk]
      clear hlk
      go_wp2_with (at_builtin; refine appU (W := w) rfl _ _ rfl (.slice a1 k c1) ((es.take k).map Ent.x) rfl (HOK.out.alloc _) _ [e.x] rfl (seesU_lit1 _ _ _) (by rw [HLK.out]; simp only [List.length_cons, List.length_nil]; omega) (Below.alloc HX.out (Below.size HX.out) _) ?_; intro v2 w2 hown2 hg2 hb2)
      go_roundw
      case rel => exact ⟨k + 1, by omega, by go_num, by rw [← HT.out]; exact hown2, hb2⟩
      case measure => (simp [intOf] <;> omega)
    · obtain rfl : k = es.length := by omega
      have hto := HO.out
      rw [List.take_length] at hto
      have HP := Lib.hid fun (w' : World) (h : Ext wr w') => Productr_any w' _ (es.map Ent.x) (by
        have := (sees_of_owns hto).below h (by decide)
        exact this) (fun x hx => by obtain ⟨e, he, rfl⟩ := List.mem_map.1 hx; exact HE.out e he)
      have HPE := Lib.hid (show prodE es = prodP (es.map Ent.x) 1 from rfl)
      generalize prodP (es.map Ent.x) 1 = PR at *
      have hlk : ((es.take es.length).map Ent.x).length = es.length := by rw [List.take_length, List.length_map]
      rw [List.length_map] at HP
      rw [hlk]
      go_wp2_with (go_at_call 57; refine (HP.out _ (Ext.refl _)).mono ?_; rintro r w3 ⟨rfl, rfl⟩)
      go_ret
      exact ⟨by rw [HPE.out]; rfl, HX.out⟩
end Go.Proofs.YtmbgcjfmfkddpaaGreat
