/-
  The law WorldKnown: its row.
-/
import Derived.Test.YtmcoaebldobapaaGreatDoorW05
import Derived.Test.YtmcoaebldobapaaGreatDoorW06
import Derived.Test.YtmcoaebldobapaaGreatDoorW07
import Derived.Test.YtmcoaebldobapaaGreatDoorW49
set_option linter.unusedVariables false
set_option linter.unusedSimpArgs false
namespace Go.Proofs.YtmcoaebldobapaaGreatDoor.worldKnown
open Go Go.ChangeShapes Go.WideShapes Go.ChangeAt Go.RowKit
set_option linter.unusedVariables false
set_option maxRecDepth 100000
theorem funcNo : Tryz.pinned.checked.prog.funcNamed Rows.worldKnownRow.func = some 3 := by kernel_rfl
theorem inPl : (Rows.worldKnownRow.inPlace == Tryz.pinned.checked.prog.inPlace 3) = true := by kernel_rfl
theorem unfo : (Rows.worldKnownRow.unfollowed == Tryz.pinned.checked.prog.unfollowed 3) = true := by kernel_rfl
theorem recu : (Rows.worldKnownRow.recurses == Tryz.pinned.checked.prog.recurses 3) = true := by kernel_rfl
theorem nams : (Rows.worldKnownRow.named == Tryz.pinned.checked.prog.varsNamed 3) = true := by kernel_rfl
theorem facts : joinedFacts Tryz.pinned.checked.prog 3 Tryz.f3 Rows.worldKnownSpec Rows.worldKnownRow = true := by
  unfold joinedFacts
  simp only [Bool.and_eq_true]
  and_intros
  all_goals first | with_reducible exact pLaidOut | with_reducible exact pMapsRowed | with_reducible exact pStopsHeard | with_reducible exact pMayEnter | with_reducible exact pLifts | with_reducible exact inPl | with_reducible exact unfo | with_reducible exact recu | with_reducible exact nams | kernel_rfl
theorem inst : Tryz.f3.isInstance Tryz.pinned.checked.prog Rows.worldKnownRow.origin Rows.worldKnownRow.targs := of_decide_eq_true (by kernel_rfl)
theorem wrapper : Tryz.f3.isWrapper Tryz.pinned.checked.prog Rows.worldKnownRow.wrapper Rows.worldKnownRow.mainSum := (by unfold Func.isWrapper; first | (rw [if_pos (by decide +kernel)]; kernel_rfl) | (rw [if_neg (by decide +kernel)]; exact ⟨rfl, rfl⟩))
theorem witness (os : Os) (H : Type) (enc : TypeId × Value → H) : ∃ (w : World) (tape : Tape) (i : Input), w.os = os ∧ (w.forCall tape i).Shaped Tryz.prog ∧ i.vars = [] ∧ Input.okWide Tryz.prog (w.forCall tape i) .any w.heap.size 3 i ∧
      (OpenSpec.ofChange Rows.worldKnownSpec).preRow enc Tryz.prog Tryz.f3 [] false laidV (w.forCall tape i).memory i.args ∧ ({} : Assume).holds Tryz.prog (lone (Frame.enter Tryz.prog 3 i.args .normal) [] (w.forCall tape i)) :=
  ChangeSpec.witness_shaped (enc := enc) (C := Tryz.checked) (os := os) (X := fun w _ => laidMetH Tryz.prog laidV w) false (laidWorld os) #[] 8 rfl (World.shaped_of_RefB (by kernel_rfl) (by kernel_rfl)) (by kernel_rfl) (by kernel_rfl) (by kernel_rfl) (laid_met os _)
theorem lifted (os : Os) (started : os.Started) (H : Type) (enc : TypeId × Value → H) :
    ReturnsInHanded {} Tryz.checked os 3 .any ((OpenSpec.ofChange Rows.worldKnownSpec).preRow enc Tryz.prog Tryz.f3 [] false laidV) (Rows.worldKnownSpec.post enc Tryz.prog Tryz.f3 false true false false) :=
  lifted_noneV Tryz.func3 rfl rfl (by kernel_rfl) (by kernel_rfl) (by kernel_rfl) (fun H => rfl) (fun W hs _ => wro_walk W hs) os started H enc (witness os H enc)
theorem over : Rows.worldKnownRow.holds Tryz.pinned (OpenSpec.ofChange Rows.worldKnownSpec) :=
  OpenClaim.holds_of_wide 3 Tryz.f3 rfl rfl rfl rfl rfl rfl rfl ⟨rfl, rfl, rfl, rfl, rfl⟩ rfl rfl rfl rfl rfl funcNo Tryz.func3 facts inst wrapper
    (fun os started H enc _ => lifted os started H enc)
end Go.Proofs.YtmcoaebldobapaaGreatDoor.worldKnown
