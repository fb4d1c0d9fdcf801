/-
  Entries made for a chain.
-/
import Derived.Test.YtmbgcjfmfkddpaaGreatHop2
import Derived.Test.YtmbgcjfmfkddpaaGreatPr
namespace Go.Proofs.YtmbgcjfmfkddpaaGreat
set_option linter.unusedVariables false
set_option linter.unusedSimpArgs false
open Go Go.RowKit

def madeX (from_ : Int) (i : Nat) : Int := IntKind.u64.wrap (from_ + (i : Int) * 977)
def madeE (ps : List Pub) (from_ : Int) (i : Nat) : Ent := ⟨timesP 37 (madeX from_ i), boxL ps (madeX from_ i) (put64 i) (-1)⟩
def madeL (ps : List Pub) (from_ : Int) : Nat → List Ent
  | 0 => []
  | n + 1 => madeL ps from_ n ++ [madeE ps from_ n]
theorem length_madeL (ps : List Pub) (from_ : Int) : ∀ n, (madeL ps from_ n).length = n
  | 0 => rfl
  | n + 1 => by rw [madeL, List.length_append, length_madeL ps from_ n]; rfl
theorem madeX_in (from_ : Int) (i : Nat) : in64 (madeX from_ i) := by unfold madeX; rw [IntKind.wrap_u64]; exact ⟨Int.emod_nonneg _ (by decide), Int.emod_lt_of_pos _ (by decide)⟩
set_option maxRecDepth 100000 in
set_option maxHeartbeats 2000000 in
theorem Made19_any (ps : List Pub) (n from_ : Int) (vl : Value) (w : World) (hps : SeesP w vl ps) (hok : ∀ p ∈ ps, p.ok) (hpl : ps.length ≤ 1000) (hn : n ≤ 1000) (hn0 : -9223372036854775808 ≤ n) (hf : in64 from_) :
    Calls Tryz.prog 8 #[vl, .int .i64 n, .int .u64 from_] w fun e w' => ∃ v, e = .returned v ∧ OwR entR 0 w.heap.size w' v (madeL ps from_ n.toNat) ∧ Below w.heap.size w w' := by
  obtain ⟨a0, c0, rfl, -, -⟩ := sees_form hps
  obtain ⟨f0, f1⟩ := hf
  have HP := Lib.hid hps; clear hps
  go_enter Tryz.func8, Tryz.ntmps8
  go_wp2_with fail
  go_loopw [7, 8] (fun v i wr => ∃ k : Nat, i = .int .i64 k ∧ (k : Int) ≤ max n 0 ∧ OwR entR 0 w.heap.size wr v (madeL ps from_ k) ∧ Ext w wr) (fun _ i _ => n.toNat - (intOf i).toNat)
  case atStart => exact ⟨0, rfl, by omega, OwR.nil _ _ _, Ext.refl _⟩
  case round =>
    obtain ⟨k, rfl, hk, hown, hext⟩ := hrel
    have HO := Lib.hid hown; have HX := Lib.hid hext
    obtain ⟨a1, c1, rfl, -, -⟩ := hown.form
    clear hown hext
    by_cases hlt : (k : Int) < n
    · have hkl : k ≤ 1000 := by omega
      have HW := Lib.hid fun (w' : World) (v : Value) (h : Ext w w') (hv : SeesB w' v (put64 k)) => Wrapr_any ps (madeX from_ k) (put64 k) _ v w' (HP.out.below h (by decide)) hok (madeX_in _ _) hv (by rw [length_put64]; omega) (by omega)
      have HML := Lib.hid (show madeL ps from_ (k + 1) = madeL ps from_ k ++ [⟨timesP 37 (madeX from_ k), boxL ps (madeX from_ k) (put64 k) (-1)⟩] from rfl)
      have HLN := Lib.hid (length_madeL ps from_ k)
      have hmx : IntKind.u64.wrap (from_ + (k : Int) * 977) = madeX from_ k := rfl
      have HPT := Lib.hid fun (w' : World) => Put64r_any w' (.slice none 0 0) [] k (Sees.nil _ _) (by omega) (by omega) (by simp)
      generalize madeX from_ k = mx at *
      generalize timesP 37 mx = tx at *
      generalize boxL ps mx (put64 k) (-1) = BX at *
      generalize madeL ps from_ k = ML at *
      go_wp2_with (first
        | (go_at_call 15; refine (HPT.out _).mono ?_; rintro r x2 ⟨v2, rfl, hown2, hb2⟩
           have hs2 : SeesB x2 v2 (put64 k) := sees_of_owns (by simpa using hown2)
           have hbel2 : Ext w x2 := Ext.tr HX.out hb2)
        | (go_at_call 22; refine (HW.out _ _ hbel2 hs2).mono ?_; rintro r x3 ⟨v3, rfl, hown3, hb3⟩
           obtain ⟨a3, c3, rfl, -, -⟩ := owns_form hown3
           have e3 : Ext wr x3 := Ext.tr hb2 hb3
           have hbel3 : Ext w x3 := Ext.tr HX.out e3)
        | (at_builtin; refine appE (W := w) (B := 0) rfl _ _ rfl (Nat.zero_le _) _ ML rfl (HO.out.ext (Ext.tr e3 (Ext.alloc _ _))) (.slice (some ⟨x3.heap.size, 0, none⟩) 1 1) [⟨tx, BX⟩] rfl (SlR.lit1 (R := entR) (y := ⟨tx, BX⟩) (w := x3) (c := [.int .u64 tx, .slice a3 BX.length c3]) ⟨_, rfl, slB_own hown3⟩) (by have := HLN.out; simp only [List.length_cons, List.length_nil]; omega) (Ext.tr hbel3 (Ext.alloc _ _)) ?_; intro v4 w4 hown4 hg4 hb4))
      go_roundw
      case rel => exact ⟨k + 1, rfl, by omega, by rw [HML.out]; exact hown4, hb4⟩
      case measure => (simp [intOf] <;> omega)
    · have HKN := Lib.hid (show n.toNat = k by omega)
      go_wp2_with fail
      go_ret
      exact ⟨_, rfl, by rw [HKN.out]; exact HO.out, HX.out⟩
end Go.Proofs.YtmbgcjfmfkddpaaGreat
