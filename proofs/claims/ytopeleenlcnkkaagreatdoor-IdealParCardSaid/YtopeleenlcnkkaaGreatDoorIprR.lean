/-
  The law IdealPar: its row.
-/
import Derived.Test.YtopeleenlcnkkaaGreatDoorK24
import Derived.Test.YtopeleenlcnkkaaGreatDoorK25
import Derived.Test.YtopeleenlcnkkaaGreatDoorK26
import Derived.Test.YtopeleenlcnkkaaGreatDoorK52
set_option linter.unusedVariables false
set_option linter.unusedSimpArgs false
namespace Go.Proofs.YtopeleenlcnkkaaGreatDoor.idealPar
open Go Go.ChangeShapes Go.WideShapes Go.ChangeAt Go.RowKit
set_option linter.unusedVariables false
set_option maxRecDepth 100000
theorem funcNo : Tryz.pinned.checked.prog.funcNamed Rows.idealParRow.func = some 8 := by kernel_rfl
theorem inPl : (Rows.idealParRow.inPlace == Tryz.pinned.checked.prog.inPlace 8) = true := by kernel_rfl
theorem unfo : (Rows.idealParRow.unfollowed == Tryz.pinned.checked.prog.unfollowed 8) = true := by kernel_rfl
theorem recu : (Rows.idealParRow.recurses == Tryz.pinned.checked.prog.recurses 8) = true := by kernel_rfl
theorem nams : (Rows.idealParRow.named == Tryz.pinned.checked.prog.varsNamed 8) = true := by kernel_rfl
theorem facts : joinedFacts Tryz.pinned.checked.prog 8 Tryz.f8 Rows.idealParSpec Rows.idealParRow = true := by
  unfold joinedFacts
  simp only [Bool.and_eq_true]
  and_intros
  all_goals first | with_reducible exact pLaidOut | with_reducible exact pMapsRowed | with_reducible exact pStopsHeard | with_reducible exact pMayEnter | with_reducible exact pLifts | with_reducible exact inPl | with_reducible exact unfo | with_reducible exact recu | with_reducible exact nams | kernel_rfl
theorem inst : Tryz.f8.isInstance Tryz.pinned.checked.prog Rows.idealParRow.origin Rows.idealParRow.targs := of_decide_eq_true (by kernel_rfl)
theorem wrapper : Tryz.f8.isWrapper Tryz.pinned.checked.prog Rows.idealParRow.wrapper Rows.idealParRow.mainSum := (by unfold Func.isWrapper; first | (rw [if_pos (by decide +kernel)]; kernel_rfl) | (rw [if_neg (by decide +kernel)]; exact ⟨rfl, rfl⟩))
theorem witness (os : Os) (H : Type) (enc : TypeId × Value → H) : ∃ (w : World) (tape : Tape) (i : Input), w.os = os ∧ (w.forCall tape i).Shaped Tryz.prog ∧ i.vars = [] ∧ Input.okWide Tryz.prog (w.forCall tape i) .any w.heap.size 8 i ∧
      (OpenSpec.ofChange Rows.idealParSpec).preRow enc Tryz.prog Tryz.f8 [] false laidV (w.forCall tape i).memory i.args ∧ ({} : Assume).holds Tryz.prog (lone (Frame.enter Tryz.prog 8 i.args .normal) [] (w.forCall tape i)) :=
  ChangeSpec.witness_shaped (enc := enc) (C := Tryz.checked) (os := os) (X := fun w _ => laidMetH Tryz.prog laidV w) false (laidWorld os) #[.agg #[.int .i64 0, .slice none 0 0], .slice none 0 0, .int .i64 0] 8 rfl (World.shaped_of_RefB (by kernel_rfl) (by kernel_rfl)) (by kernel_rfl) (by kernel_rfl) (by kernel_rfl) (laid_met os _)
theorem lifted (os : Os) (started : os.Started) (H : Type) (enc : TypeId × Value → H) :
    ReturnsInHanded {} Tryz.checked os 8 .any ((OpenSpec.ofChange Rows.idealParSpec).preRow enc Tryz.prog Tryz.f8 [] false laidV) (Rows.idealParSpec.post enc Tryz.prog Tryz.f8 false true false false) := by
  refine lifted_laid Tryz.func8 rfl rfl (by kernel_rfl) (by kernel_rfl) (by kernel_rfl) (fun H ds hl => ?_) ?_ os started H enc (witness os H enc)
  · rw [Tryz.params8] at hl
    match ds, hl with
    | [d, d1, d2], _ => rfl
  · intro H enc W base args ds p hA hval hfz hsz hsh
    rw [Tryz.params8] at hA hval hsz
    obtain ⟨v0, v1, v2, d0, d1, d2, p0, p1, p2, rfl, rfl, rfl, h0, h1, h2⟩ := trodAll_three hA
    obtain ⟨cs, rfl, _⟩ := okWide_struct Tryz.underlying24 (hval 0 24 v0 rfl rfl)
    obtain ⟨a', n', cap', rfl⟩ := okWide_slice Tryz.underlying42 (hval 1 42 v1 rfl rfl)
    obtain ⟨z, rfl⟩ := okWide_int Tryz.underlying3 (hval 2 3 v2 rfl rfl)
    obtain ⟨fuel, hf⟩ := h0
    obtain ⟨fuel', hf'⟩ := h1
    obtain ⟨fuel2, hf2⟩ := h2
    obtain ⟨j, hj⟩ := open_job hf
    obtain ⟨L, _, hr, hR⟩ := open_recs hf'
    obtain ⟨m, hm⟩ := maxLen_at W hsh
    obtain ⟨z', hz, hw⟩ := open_int3 hf2
    injection hz with _ hz
    subst hz
    exact par_walk j cs _ L z W m hm hj hr hR hw
theorem over : Rows.idealParRow.holds Tryz.pinned (OpenSpec.ofChange Rows.idealParSpec) :=
  OpenClaim.holds_of_wide 8 Tryz.f8 rfl rfl rfl rfl rfl rfl rfl ⟨rfl, rfl, rfl, rfl, rfl⟩ rfl rfl rfl rfl rfl funcNo Tryz.func8 facts inst wrapper
    (fun os started H enc _ => lifted os started H enc)
end Go.Proofs.YtopeleenlcnkkaaGreatDoor.idealPar
