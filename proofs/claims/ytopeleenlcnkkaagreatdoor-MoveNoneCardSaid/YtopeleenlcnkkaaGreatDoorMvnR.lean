/-
  The law MoveNone: its row.
-/
import Derived.Test.YtopeleenlcnkkaaGreatDoorM18
import Derived.Test.YtopeleenlcnkkaaGreatDoorM46
import Derived.Test.YtopeleenlcnkkaaGreatDoorM47
import Derived.Test.YtopeleenlcnkkaaGreatDoorM54
set_option linter.unusedVariables false
set_option linter.unusedSimpArgs false
namespace Go.Proofs.YtopeleenlcnkkaaGreatDoor.moveNone
open Go Go.ChangeShapes Go.WideShapes Go.ChangeAt Go.RowKit
set_option linter.unusedVariables false
set_option maxRecDepth 100000
theorem funcNo : Tryz.pinned.checked.prog.funcNamed Rows.moveNoneRow.func = some 4 := by kernel_rfl
theorem inPl : (Rows.moveNoneRow.inPlace == Tryz.pinned.checked.prog.inPlace 4) = true := by kernel_rfl
theorem unfo : (Rows.moveNoneRow.unfollowed == Tryz.pinned.checked.prog.unfollowed 4) = true := by kernel_rfl
theorem recu : (Rows.moveNoneRow.recurses == Tryz.pinned.checked.prog.recurses 4) = true := by kernel_rfl
theorem nams : (Rows.moveNoneRow.named == Tryz.pinned.checked.prog.varsNamed 4) = true := by kernel_rfl
theorem facts : joinedFacts Tryz.pinned.checked.prog 4 Tryz.f4 Rows.moveNoneSpec Rows.moveNoneRow = true := by
  unfold joinedFacts
  simp only [Bool.and_eq_true]
  and_intros
  all_goals first | with_reducible exact pLaidOut | with_reducible exact pMapsRowed | with_reducible exact pStopsHeard | with_reducible exact pMayEnter | with_reducible exact pLifts | with_reducible exact inPl | with_reducible exact unfo | with_reducible exact recu | with_reducible exact nams | kernel_rfl
theorem inst : Tryz.f4.isInstance Tryz.pinned.checked.prog Rows.moveNoneRow.origin Rows.moveNoneRow.targs := of_decide_eq_true (by kernel_rfl)
theorem wrapper : Tryz.f4.isWrapper Tryz.pinned.checked.prog Rows.moveNoneRow.wrapper Rows.moveNoneRow.mainSum := (by unfold Func.isWrapper; first | (rw [if_pos (by decide +kernel)]; kernel_rfl) | (rw [if_neg (by decide +kernel)]; exact ⟨rfl, rfl⟩))
theorem witness (os : Os) (H : Type) (enc : TypeId × Value → H) : ∃ (w : World) (tape : Tape) (i : Input), w.os = os ∧ (w.forCall tape i).Shaped Tryz.prog ∧ i.vars = [] ∧ Input.okWide Tryz.prog (w.forCall tape i) .any w.heap.size 4 i ∧
      (OpenSpec.ofChange Rows.moveNoneSpec).preRow enc Tryz.prog Tryz.f4 [] false laidV (w.forCall tape i).memory i.args ∧ ({} : Assume).holds Tryz.prog (lone (Frame.enter Tryz.prog 4 i.args .normal) [] (w.forCall tape i)) :=
  ChangeSpec.witness_shaped (enc := enc) (C := Tryz.checked) (os := os) (X := fun w _ => laidMetH Tryz.prog laidV w) false (laidWorld os) #[.agg #[.int .i64 0, .slice none 0 0], .agg #[.int .i64 0, .slice none 0 0]] 8 rfl (World.shaped_of_RefB (by kernel_rfl) (by kernel_rfl)) (by kernel_rfl) (by kernel_rfl) (by kernel_rfl) (laid_met os _)
theorem lifted (os : Os) (started : os.Started) (H : Type) (enc : TypeId × Value → H) :
    ReturnsInHanded {} Tryz.checked os 4 .any ((OpenSpec.ofChange Rows.moveNoneSpec).preRow enc Tryz.prog Tryz.f4 [] false laidV) (Rows.moveNoneSpec.post enc Tryz.prog Tryz.f4 false true false false) := by
  refine lifted_laid Tryz.func4 rfl rfl (by kernel_rfl) (by kernel_rfl) (by kernel_rfl) (fun H ds hl => ?_) ?_ os started H enc (witness os H enc)
  · rw [Tryz.params4] at hl
    match ds, hl with
    | [d, d1], _ => rfl
  · intro H enc W base args ds p hA hval hfz hsz hsh
    rw [Tryz.params4] at hA hval hsz
    obtain ⟨v0, v1, d0, d1, p0, p1, rfl, rfl, rfl, h0, h1⟩ := trodAll_two hA
    obtain ⟨cs, rfl, _⟩ := okWide_struct Tryz.underlying24 (hval 0 24 v0 rfl rfl)
    obtain ⟨cs', rfl, _⟩ := okWide_struct Tryz.underlying24 (hval 1 24 v1 rfl rfl)
    obtain ⟨fuel0, hf0⟩ := h0
    obtain ⟨fuel1, hf1⟩ := h1
    obtain ⟨a, ha⟩ := open_job hf0
    obtain ⟨b, hb⟩ := open_job hf1
    obtain ⟨m, hm⟩ := maxLen_at W hsh
    have ha' := ha
    have hb' := hb
    obtain ⟨va, ea, _⟩ := ha'
    obtain ⟨vb, eb, _⟩ := hb'
    have ea' : cs = #[.int .i64 a.par, va] := ea
    have eb' : cs' = #[.int .i64 b.par, vb] := eb
    subst ea' eb'
    exact none_walk a b va vb W m hm ha hb
theorem over : Rows.moveNoneRow.holds Tryz.pinned (OpenSpec.ofChange Rows.moveNoneSpec) :=
  OpenClaim.holds_of_wide 4 Tryz.f4 rfl rfl rfl rfl rfl rfl rfl ⟨rfl, rfl, rfl, rfl, rfl⟩ rfl rfl rfl rfl rfl funcNo Tryz.func4 facts inst wrapper
    (fun os started H enc _ => lifted os started H enc)
end Go.Proofs.YtopeleenlcnkkaaGreatDoor.moveNone
