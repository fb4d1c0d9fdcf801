/-
  Hops and blames: the plain words.
-/
import Derived.Test.YtbgnfioggmkdeaaGreatDoorRep
import Derived.Test.YtbgnfioggmkdeaaGreatDoorPeel
namespace Go.Proofs.YtbgnfioggmkdeaaGreatDoor
set_option linter.unusedVariables false
set_option linter.unusedSimpArgs false
open Go Go.RowKit

deriving instance DecidableEq for Ent
/-- An entry opened at a place. -/
def opE (s : Sec) (at_ : Int) (e : Ent) : Option Ent := (openE s.blind s.mix at_ e.x e.box).map fun p => ⟨p.1, p.2⟩
theorem opE_ok {s : Sec} {at_ : Int} {e e' : Ent} (h : opE s at_ e = some e') : e'.ok ∧ e'.box.length + 16 = e.box.length := by
  unfold opE openE at h
  split at h
  · cases ho : openL (hopK (timesP e.x s.mix)) (besL at_) e.box with
    | none => rw [ho] at h; cases h
    | some b =>
      rw [ho] at h; cases h
      exact ⟨⟨(timesP_pos _ _).1, Int.lt_trans (timesP_pos _ _).2 (by decide)⟩, length_openL ho⟩
  · cases h
/-- Which of the first n can't be opened. -/
def failsN (s : Sec) (at_ : Int) (es : List Ent) : Nat → List Int
  | 0 => []
  | n + 1 => failsN s at_ es n ++ (match es[n]? with | some e => if (opE s at_ e).isNone then [(n : Int)] else [] | none => [])
def failsL (s : Sec) (at_ : Int) (es : List Ent) : List Int := failsN s at_ es es.length
/-- What is opened: nothing, where it can't be. -/
def opened (s : Sec) (at_ : Int) (es : List Ent) : List Ent := es.map fun e => (opE s at_ e).getD ⟨0, []⟩
/-- A list of numbers that is an order. -/
def permOk (p : List Int) : Prop := (∀ x ∈ p, 0 ≤ x ∧ x < p.length) ∧ p.Nodup
instance (p : List Int) : Decidable (permOk p) := by unfold permOk; infer_instance
def orderL (es : List Ent) (order : List Int) : List Ent := if order.length = es.length ∧ permOk order then order.map fun i => es.getD i.toNat ⟨0, []⟩ else es
def prodE (es : List Ent) : Int := prodP (es.map Ent.x) 1
/-- A proof. -/
structure Prf where
  (c s : Int)
deriving instance DecidableEq for Prf
def Prf.ok (p : Prf) : Prop := in64 p.c ∧ in64 p.s
def equalP (g x h y secret draw : Int) : Prf := ⟨equalC g x h y draw, ansP (equalC g x h y draw) secret draw⟩
theorem equalP_ok (g x h y secret draw : Int) : (equalP g x h y secret draw).ok := ⟨⟨(equalC_pos _ _ _ _ _).1, Int.lt_trans (equalC_pos _ _ _ _ _).2 (by decide)⟩, ⟨(ansP_pos _ _ _).1, Int.lt_trans (ansP_pos _ _ _).2 (by decide)⟩⟩
/-- A pass. -/
structure Pas where
  es : List Ent
  p : Prf
def runL (s : Sec) (p : Pub) (at_ : Int) (es : List Ent) (order : List Int) (draw : Int) : Pas :=
  if failsL s at_ es = [] then ⟨orderL (opened s at_ es) order, equalP p.base p.blind (prodE es) (prodE (orderL (opened s at_ es) order)) s.blind draw⟩ else ⟨[], ⟨0, 0⟩⟩
def checkH (p : Pub) (ins : List Ent) (x : Pas) : Prop :=
  x.es.length = ins.length ∧ (∀ e ∈ x.es, okP e.x ∧ ∃ e0, ins[0]? = some e0 ∧ e.box.length + 16 = e0.box.length) ∧ equalOk p.base p.blind (prodE ins) (prodE x.es) x.p.c x.p.s
/-- A step of a blame. -/
structure Stp where
  frm : Int
  e : Ent
  shared : Int
  (b m : Prf)
def Stp.ok (t : Stp) : Prop := inI t.frm ∧ t.e.ok ∧ in64 t.shared ∧ t.b.ok ∧ t.m.ok
def answerL (s : Sec) (p : Pub) (frm : Int) (e : Ent) (a b : Int) : Stp :=
  ⟨frm, e, timesP e.x s.mix, equalP p.base p.blind e.x (timesP e.x s.blind) s.blind a, equalP p.base p.mix e.x (timesP e.x s.mix) s.mix b⟩
def mixedOk (p : Pub) (t : Stp) : Prop := equalOk p.base p.mix t.e.x t.shared t.m.c t.m.s
def passedL (p : Pub) (at_ : Int) (ins : List Ent) (out : Ent) (t : Stp) : Prop :=
  0 ≤ t.frm ∧ ins[t.frm.toNat]? = some t.e ∧ mixedOk p t ∧ openL (hopK t.shared) (besL at_) t.e.box = some out.box ∧ equalOk p.base p.blind t.e.x out.x t.b.c t.b.s
def failedL (p : Pub) (at_ : Int) (e : Ent) (t : Stp) : Prop :=
  t.e = e ∧ mixedOk p t ∧ openL (hopK t.shared) (besL at_) e.box = none
instance (p : Pub) (t : Stp) : Decidable (mixedOk p t) := by unfold mixedOk; infer_instance
instance (p : Pub) (at_ : Int) (ins : List Ent) (out : Ent) (t : Stp) : Decidable (passedL p at_ ins out t) := by unfold passedL; infer_instance
instance (p : Pub) (at_ : Int) (e : Ent) (t : Stp) : Decidable (failedL p at_ e t) := by unfold failedL; infer_instance
/-- Who is to blame, when the places from h - 1 down are asked: e is asked for, and stands at at_. -/
def traceN (l : List Pub) (lists : List (List Ent)) (steps : List Stp) (h : Nat) : Nat → Ent → Int → Int × Int
  | 0, _, at_ => (1, at_)
  | i + 1, e, at_ =>
    match l[i]?, lists[i]?, steps[h - i]? with
    | some p, some ins, some t => if passedL p i ins e t then traceN l lists steps h i t.e t.frm else (2, i)
    | _, _, _ => (2, i)
def traceL (l : List Pub) (lists : List (List Ent)) (at_ : Int) (steps : List Stp) : Int × Int :=
  match lists.getLast?, l[lists.length - 1]? with
  | some last, some p =>
    if 0 ≤ at_ ∧ at_ < last.length then
      match last[at_.toNat]?, steps[0]? with
      | some e, some t => if failedL p ((lists.length - 1 : Nat) : Int) e t then traceN l lists steps (lists.length - 1) (lists.length - 1) e at_ else (2, ((lists.length - 1 : Nat) : Int))
      | _, _ => (2, ((lists.length - 1 : Nat) : Int))
    else (0, 0)
  | _, _ => (0, 0)
end Go.Proofs.YtbgnfioggmkdeaaGreatDoor
