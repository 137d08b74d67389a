/-
  The law SpeakKnown: its row.
-/
import Derived.Test.YtmcoaebldobapaaGreatDoorS05
import Derived.Test.YtmcoaebldobapaaGreatDoorS06
import Derived.Test.YtmcoaebldobapaaGreatDoorS07
import Derived.Test.YtmcoaebldobapaaGreatDoorS40
import Derived.Test.YtmcoaebldobapaaGreatDoorS41
set_option linter.unusedVariables false
set_option linter.unusedSimpArgs false
namespace Go.Proofs.YtmcoaebldobapaaGreatDoor.speakKnown
open Go Go.ChangeShapes Go.WideShapes Go.ChangeAt Go.RowKit
set_option linter.unusedVariables false
set_option maxRecDepth 100000
theorem funcNo : Tryz.pinned.checked.prog.funcNamed Rows.speakKnownRow.func = some 6 := by kernel_rfl
theorem inPl : (Rows.speakKnownRow.inPlace == Tryz.pinned.checked.prog.inPlace 6) = true := by kernel_rfl
theorem unfo : (Rows.speakKnownRow.unfollowed == Tryz.pinned.checked.prog.unfollowed 6) = true := by kernel_rfl
theorem recu : (Rows.speakKnownRow.recurses == Tryz.pinned.checked.prog.recurses 6) = true := by kernel_rfl
theorem nams : (Rows.speakKnownRow.named == Tryz.pinned.checked.prog.varsNamed 6) = true := by kernel_rfl
theorem facts : joinedFacts Tryz.pinned.checked.prog 6 Tryz.f6 Rows.speakKnownSpec Rows.speakKnownRow = true := by
  unfold joinedFacts
  simp only [Bool.and_eq_true]
  and_intros
  all_goals first | with_reducible exact pLaidOut | with_reducible exact pMapsRowed | with_reducible exact pStopsHeard | with_reducible exact pMayEnter | with_reducible exact pLifts | with_reducible exact inPl | with_reducible exact unfo | with_reducible exact recu | with_reducible exact nams | kernel_rfl
theorem inst : Tryz.f6.isInstance Tryz.pinned.checked.prog Rows.speakKnownRow.origin Rows.speakKnownRow.targs := of_decide_eq_true (by kernel_rfl)
theorem wrapper : Tryz.f6.isWrapper Tryz.pinned.checked.prog Rows.speakKnownRow.wrapper Rows.speakKnownRow.mainSum := (by unfold Func.isWrapper; first | (rw [if_pos (by decide +kernel)]; kernel_rfl) | (rw [if_neg (by decide +kernel)]; exact ⟨rfl, rfl⟩))
theorem witness (os : Os) (H : Type) (enc : TypeId × Value → H) : ∃ (w : World) (tape : Tape) (i : Input), w.os = os ∧ (w.forCall tape i).Shaped Tryz.prog ∧ i.vars = [] ∧ Input.okWide Tryz.prog (w.forCall tape i) .any w.heap.size 6 i ∧
      (OpenSpec.ofChange Rows.speakKnownSpec).preRow enc Tryz.prog Tryz.f6 [] false laidV (w.forCall tape i).memory i.args ∧ ({} : Assume).holds Tryz.prog (lone (Frame.enter Tryz.prog 6 i.args .normal) [] (w.forCall tape i)) :=
  ChangeSpec.witness_shaped (enc := enc) (C := Tryz.checked) (os := os) (X := fun w _ => laidMetH Tryz.prog laidV w) false (laidWorld os) #[] 8 rfl (World.shaped_of_RefB (by kernel_rfl) (by kernel_rfl)) (by kernel_rfl) (by kernel_rfl) (by kernel_rfl) (laid_met os _)
theorem lifted (os : Os) (started : os.Started) (H : Type) (enc : TypeId × Value → H) :
    ReturnsInHanded {} Tryz.checked os 6 .any ((OpenSpec.ofChange Rows.speakKnownSpec).preRow enc Tryz.prog Tryz.f6 [] false laidV) (Rows.speakKnownSpec.post enc Tryz.prog Tryz.f6 false true false false) :=
  lifted_noneV Tryz.func6 rfl rfl (by kernel_rfl) (by kernel_rfl) (by kernel_rfl) (fun H => rfl) (fun W hs h => let ⟨_, _, _, _, hv⟩ := vars_known hs h; spo_walk hv) os started H enc (witness os H enc)
theorem over : Rows.speakKnownRow.holds Tryz.pinned (OpenSpec.ofChange Rows.speakKnownSpec) :=
  OpenClaim.holds_of_wide 6 Tryz.f6 rfl rfl rfl rfl rfl rfl rfl ⟨rfl, rfl, rfl, rfl, rfl⟩ rfl rfl rfl rfl rfl funcNo Tryz.func6 facts inst wrapper
    (fun os started H enc _ => lifted os started H enc)
end Go.Proofs.YtmcoaebldobapaaGreatDoor.speakKnown
