/-
  The law TendKnown: its row.
-/
import Derived.Test.YtmcoaebldobapaaGreatDoorD06
import Derived.Test.YtmcoaebldobapaaGreatDoorD07
import Derived.Test.YtmcoaebldobapaaGreatDoorD08
import Derived.Test.YtmcoaebldobapaaGreatDoorD49
set_option linter.unusedVariables false
set_option linter.unusedSimpArgs false
namespace Go.Proofs.YtmcoaebldobapaaGreatDoor.tendKnown
open Go Go.ChangeShapes Go.WideShapes Go.ChangeAt Go.RowKit
set_option linter.unusedVariables false
set_option maxRecDepth 100000
theorem funcNo : Tryz.pinned.checked.prog.funcNamed Rows.tendKnownRow.func = some 4 := by kernel_rfl
theorem inPl : (Rows.tendKnownRow.inPlace == Tryz.pinned.checked.prog.inPlace 4) = true := by kernel_rfl
theorem unfo : (Rows.tendKnownRow.unfollowed == Tryz.pinned.checked.prog.unfollowed 4) = true := by kernel_rfl
theorem recu : (Rows.tendKnownRow.recurses == Tryz.pinned.checked.prog.recurses 4) = true := by kernel_rfl
theorem nams : (Rows.tendKnownRow.named == Tryz.pinned.checked.prog.varsNamed 4) = true := by kernel_rfl
theorem facts : joinedFacts Tryz.pinned.checked.prog 4 Tryz.f4 Rows.tendKnownSpec Rows.tendKnownRow = true := by
  unfold joinedFacts
  simp only [Bool.and_eq_true]
  and_intros
  all_goals first | with_reducible exact pLaidOut | with_reducible exact pMapsRowed | with_reducible exact pStopsHeard | with_reducible exact pMayEnter | with_reducible exact pLifts | with_reducible exact inPl | with_reducible exact unfo | with_reducible exact recu | with_reducible exact nams | kernel_rfl
theorem inst : Tryz.f4.isInstance Tryz.pinned.checked.prog Rows.tendKnownRow.origin Rows.tendKnownRow.targs := of_decide_eq_true (by kernel_rfl)
theorem wrapper : Tryz.f4.isWrapper Tryz.pinned.checked.prog Rows.tendKnownRow.wrapper Rows.tendKnownRow.mainSum := (by unfold Func.isWrapper; first | (rw [if_pos (by decide +kernel)]; kernel_rfl) | (rw [if_neg (by decide +kernel)]; exact ⟨rfl, rfl⟩))
theorem witness (os : Os) (H : Type) (enc : TypeId × Value → H) : ∃ (w : World) (tape : Tape) (i : Input), w.os = os ∧ (w.forCall tape i).Shaped Tryz.prog ∧ i.vars = [] ∧ Input.okWide Tryz.prog (w.forCall tape i) .any w.heap.size 4 i ∧
      (OpenSpec.ofChange Rows.tendKnownSpec).preRow enc Tryz.prog Tryz.f4 [] false laidV (w.forCall tape i).memory i.args ∧ ({} : Assume).holds Tryz.prog (lone (Frame.enter Tryz.prog 4 i.args .normal) [] (w.forCall tape i)) :=
  ChangeSpec.witness_shaped (enc := enc) (C := Tryz.checked) (os := os) (X := fun w _ => laidMetH Tryz.prog laidV w) false (laidWorld os) #[] 8 rfl (World.shaped_of_RefB (by kernel_rfl) (by kernel_rfl)) (by kernel_rfl) (by kernel_rfl) (by kernel_rfl) (laid_met os _)
theorem lifted (os : Os) (started : os.Started) (H : Type) (enc : TypeId × Value → H) :
    ReturnsInHanded {} Tryz.checked os 4 .any ((OpenSpec.ofChange Rows.tendKnownSpec).preRow enc Tryz.prog Tryz.f4 [] false laidV) (Rows.tendKnownSpec.post enc Tryz.prog Tryz.f4 false true false false) :=
  lifted_noneV Tryz.func4 rfl rfl (by kernel_rfl) (by kernel_rfl) (by kernel_rfl) (fun H => rfl) (fun W hs _ => tdo_walk W hs) os started H enc (witness os H enc)
theorem over : Rows.tendKnownRow.holds Tryz.pinned (OpenSpec.ofChange Rows.tendKnownSpec) :=
  OpenClaim.holds_of_wide 4 Tryz.f4 rfl rfl rfl rfl rfl rfl rfl ⟨rfl, rfl, rfl, rfl, rfl⟩ rfl rfl rfl rfl rfl funcNo Tryz.func4 facts inst wrapper
    (fun os started H enc _ => lifted os started H enc)
end Go.Proofs.YtmcoaebldobapaaGreatDoor.tendKnown
