/-
  The law RunnerKnown: its row.
-/
import Derived.Test.YtcfncbnloaiifaaGreatDoorRowN
import Derived.Test.YtcfncbnloaiifaaGreatDoorRowW
import Derived.Test.YtcfncbnloaiifaaGreatDoorRowP
import Derived.Test.YtcfncbnloaiifaaGreatDoorRko
namespace Go.Proofs.YtcfncbnloaiifaaGreatDoor.runnerKnown
open Go Go.ChangeShapes Go.WideShapes Go.ChangeAt Go.RowKit
set_option linter.unusedVariables false
set_option maxRecDepth 100000
theorem funcNo : Tryz.pinned.checked.prog.funcNamed Rows.runnerKnownRow.func = some 7 := by kernel_rfl
theorem inPl : (Rows.runnerKnownRow.inPlace == Tryz.pinned.checked.prog.inPlace 7) = true := by kernel_rfl
theorem unfo : (Rows.runnerKnownRow.unfollowed == Tryz.pinned.checked.prog.unfollowed 7) = true := by kernel_rfl
theorem recu : (Rows.runnerKnownRow.recurses == Tryz.pinned.checked.prog.recurses 7) = true := by kernel_rfl
theorem nams : (Rows.runnerKnownRow.named == Tryz.pinned.checked.prog.varsNamed 7) = true := by kernel_rfl
theorem facts : joinedFacts Tryz.pinned.checked.prog 7 Tryz.f7 Rows.runnerKnownSpec Rows.runnerKnownRow = true := by
  unfold joinedFacts
  simp only [Bool.and_eq_true]
  and_intros
  all_goals first | with_reducible exact pLaidOut | with_reducible exact pMapsRowed | with_reducible exact pStopsHeard | with_reducible exact pMayEnter | with_reducible exact pLifts | with_reducible exact inPl | with_reducible exact unfo | with_reducible exact recu | with_reducible exact nams | kernel_rfl
theorem inst : Tryz.f7.isInstance Tryz.pinned.checked.prog Rows.runnerKnownRow.origin Rows.runnerKnownRow.targs := of_decide_eq_true (by kernel_rfl)
theorem wrapper : Tryz.f7.isWrapper Tryz.pinned.checked.prog Rows.runnerKnownRow.wrapper Rows.runnerKnownRow.mainSum := (by unfold Func.isWrapper; first | (rw [if_pos (by decide +kernel)]; kernel_rfl) | (rw [if_neg (by decide +kernel)]; exact ⟨rfl, rfl⟩))
theorem witness (os : Os) (H : Type) (enc : TypeId × Value → H) : ∃ (w : World) (tape : Tape) (i : Input), w.os = os ∧ (w.forCall tape i).Shaped Tryz.prog ∧ i.vars = [] ∧ Input.okWide Tryz.prog (w.forCall tape i) .any w.heap.size 7 i ∧
      (OpenSpec.ofChange Rows.runnerKnownSpec).preRow enc Tryz.prog Tryz.f7 [] false laidV (w.forCall tape i).memory i.args ∧ ({} : Assume).holds Tryz.prog (lone (Frame.enter Tryz.prog 7 i.args .normal) [] (w.forCall tape i)) :=
  ChangeSpec.witness_shaped (enc := enc) (C := Tryz.checked) (os := os) (X := fun w _ => laidMetH Tryz.prog laidV w) false (laidWorld os) #[] 8 rfl (World.shaped_of_RefB (by kernel_rfl) (by kernel_rfl)) (by kernel_rfl) (by kernel_rfl) (by kernel_rfl) (laid_met os _)
theorem lifted (os : Os) (started : os.Started) (H : Type) (enc : TypeId × Value → H) :
    ReturnsInHanded {} Tryz.checked os 7 .any ((OpenSpec.ofChange Rows.runnerKnownSpec).preRow enc Tryz.prog Tryz.f7 [] false laidV) (Rows.runnerKnownSpec.post enc Tryz.prog Tryz.f7 false true false false) :=
  lifted_none Tryz.func7 rfl rfl (by kernel_rfl) (by kernel_rfl) (by kernel_rfl) (fun H => rfl) rko_walk os started H enc (witness os H enc)
theorem over : Rows.runnerKnownRow.holds Tryz.pinned (OpenSpec.ofChange Rows.runnerKnownSpec) :=
  OpenClaim.holds_of_wide 7 Tryz.f7 rfl rfl rfl rfl rfl rfl rfl ⟨rfl, rfl, rfl, rfl, rfl⟩ rfl rfl rfl rfl rfl funcNo Tryz.func7 facts inst wrapper
    (fun os started H enc _ => lifted os started H enc)
end Go.Proofs.YtcfncbnloaiifaaGreatDoor.runnerKnown
