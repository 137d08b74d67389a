/-
  THE ROW's STEP for a law that takes nothing and writes nothing that was there.
-/
import Derived.Test.YtcfncbnloaiifaaGreatDoorBase
import Derived.Test.YtcfncbnloaiifaaGreatDoorTab2
import Derived.Test.YtcfncbnloaiifaaGreatDoorChecked
import Derived.ProofKit
import Derived.OpenShut
import Derived.ChangeOld
import Derived.Below
import Derived.ChangeCalls
import Derived.Deep.DeepHandedRow
import Derived.LaidMore
import Derived.Shelf.Vars
namespace Go.Proofs.YtcfncbnloaiifaaGreatDoor
open Go Go.RowKit Go.ChangeShapes Go.WideShapes Go.ChangeAt
theorem own : ownKnob Tryz.prog.godebug = none := by kernel_rfl
/-- The variables stand ahead of all else. -/
theorem vars_at (w : World) (h : w.ShapedOpen Tryz.prog) : 8 ≤ w.heap.size := by
  have h7 : ((((begin Tryz.prog (fun _ _ => 0) default).world.heap[7]?).bind Obj.row?).isSome) = true := by kernel_rfl
  obtain ⟨x, hx⟩ := Option.isSome_iff_exists.1 h7
  obtain ⟨zero, t⟩ := x
  obtain ⟨cs, hh, _⟩ := h.1 7 zero t (of_decide_eq_true (by kernel_rfl)) hx
  have := (Array.getElem?_eq_some_iff.1 hh).1
  omega
theorem lifted_none {F : Nat} {fn : Func} {s : ChangeSpec} {laid : List (String × DataW Unit)} (hf : Tryz.prog.funcs[F]? = some fn) (hv : s.vars = []) (hvt : s.plain.varTypes Tryz.prog = []) (hr : fn.resultTypes = #[4]) (hp : fn.params = #[]) (hi : Tryz.prog.inits.idxOf? F = none)
    (hs : ∀ (H : Type), s.fn H [] = { results := [.lit (.bool true)], args := [] })
    (walk : ∀ (W : World), 8 ≤ W.heap.size → Calls Tryz.prog F #[] W (Gives W (.bool true)))
    (os : Os) (started : os.Started) (H : Type) (enc : TypeId × Value → H)
    (witness : ∃ (w : World) (tape : Tape) (i : Input), w.os = os ∧ (w.forCall tape i).Shaped Tryz.prog ∧ i.vars = [] ∧ Input.okWide Tryz.prog (w.forCall tape i) .any w.heap.size F i ∧
      (OpenSpec.ofChange s).preRow enc Tryz.prog fn [] false laid (w.forCall tape i).memory i.args ∧ ({} : Assume).holds Tryz.prog (lone (Frame.enter Tryz.prog F i.args .normal) [] (w.forCall tape i))) :
    ReturnsInHanded {} Tryz.checked os F .any ((OpenSpec.ofChange s).preRow enc Tryz.prog fn [] false laid) (s.post enc Tryz.prog fn false true false false) := by
  refine returnsInHanded_of_row (C := Tryz.checked) (s := OpenSpec.ofChange s) (F := fun _ _ _ => 0) own started hi hf witness ?_
  intro W base args ds gs before hval hW hcnd _ hsz _ hsh _
  have hW' := hW
  obtain ⟨p, q, hA, hV, rfl, hfz, hnd⟩ := hW
  have hv' : (OpenSpec.ofChange s).vars = [] := hv
  rw [hv'] at hV
  obtain ⟨rfl, rfl⟩ := trodVars_none hV
  have hA' : DataW.TrodAll enc Tryz.prog W 0 (fun _ => true) true fn.params.toList args.toList ds p := hA
  have hlen := trodAll_length hA'
  rw [hp] at hlen
  have hargs : args = #[] := by apply Array.eq_empty_of_size_eq_zero; simpa using hlen.1
  have hds : ds = [] := List.eq_nil_of_length_eq_zero (by simpa using hlen.2)
  subst hargs hds
  refine (walk W (vars_at W hsh)).mono fun e W' ⟨he, k⟩ => ?_
  subst he
  have bel := k.below
  have hfn : s.fn H ([] ++ []) = { results := [.lit (.bool true)], args := [] } := hs H
  have hnil : ∀ sp, DataW.TrodAll enc Tryz.prog W' 0 sp true fn.params.toList (#[] : Array Value).toList [] p := fun sp => by
    rw [hp] at hA' ⊢
    cases hA'
    constructor
  refine ⟨_, rfl, [], [], _, [], p, [], hW', ?_, ?_, ?_, bel.frame _, fun h => by cases h⟩
  · rw [hr]; show DataW.TrodAll _ _ _ _ _ _ _ _ (s.fn H ([] ++ [])).results _; rw [hfn]; exact trodAll_mk1 (shut_bool Tryz.underlying4 _)
  · show DataW.TrodAll _ _ _ _ _ _ _ _ (s.fn H ([] ++ [])).args _; rw [hfn]; exact hnil _
  · have e1 : ((OpenSpec.ofChange s).at fun _ _ _ => 0).vars = [] := hv
    have e2 : (((OpenSpec.ofChange s).at fun _ _ _ => 0).fn H ([] ++ [])) = { results := [.lit (.bool true)], args := [] } := hfn
    rw [e2, e1]; rfl
end Go.Proofs.YtcfncbnloaiifaaGreatDoor
