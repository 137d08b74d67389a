/-
  The law IdealFits: its row.
-/
import Derived.Test.YtglbkodmmogomaaGreatDoorF21
import Derived.Test.YtglbkodmmogomaaGreatDoorF22
import Derived.Test.YtglbkodmmogomaaGreatDoorF23
import Derived.Test.YtglbkodmmogomaaGreatDoorF47
set_option linter.unusedVariables false
set_option linter.unusedSimpArgs false
namespace Go.Proofs.YtglbkodmmogomaaGreatDoor.idealFits
open Go Go.ChangeShapes Go.WideShapes Go.ChangeAt Go.RowKit
set_option linter.unusedVariables false
set_option maxRecDepth 100000
theorem funcNo : Tryz.pinned.checked.prog.funcNamed Rows.idealFitsRow.func = some 4 := by kernel_rfl
theorem inPl : (Rows.idealFitsRow.inPlace == Tryz.pinned.checked.prog.inPlace 4) = true := by kernel_rfl
theorem unfo : (Rows.idealFitsRow.unfollowed == Tryz.pinned.checked.prog.unfollowed 4) = true := by kernel_rfl
theorem recu : (Rows.idealFitsRow.recurses == Tryz.pinned.checked.prog.recurses 4) = true := by kernel_rfl
theorem nams : (Rows.idealFitsRow.named == Tryz.pinned.checked.prog.varsNamed 4) = true := by kernel_rfl
theorem facts : joinedFacts Tryz.pinned.checked.prog 4 Tryz.f4 Rows.idealFitsSpec Rows.idealFitsRow = true := by
  unfold joinedFacts
  simp only [Bool.and_eq_true]
  and_intros
  all_goals first | with_reducible exact pLaidOut | with_reducible exact pMapsRowed | with_reducible exact pStopsHeard | with_reducible exact pMayEnter | with_reducible exact pLifts | with_reducible exact inPl | with_reducible exact unfo | with_reducible exact recu | with_reducible exact nams | kernel_rfl
theorem inst : Tryz.f4.isInstance Tryz.pinned.checked.prog Rows.idealFitsRow.origin Rows.idealFitsRow.targs := of_decide_eq_true (by kernel_rfl)
theorem wrapper : Tryz.f4.isWrapper Tryz.pinned.checked.prog Rows.idealFitsRow.wrapper Rows.idealFitsRow.mainSum := (by unfold Func.isWrapper; first | (rw [if_pos (by decide +kernel)]; kernel_rfl) | (rw [if_neg (by decide +kernel)]; exact ⟨rfl, rfl⟩))
theorem witness (os : Os) (H : Type) (enc : TypeId × Value → H) : ∃ (w : World) (tape : Tape) (i : Input), w.os = os ∧ (w.forCall tape i).Shaped Tryz.prog ∧ i.vars = [] ∧ Input.okWide Tryz.prog (w.forCall tape i) .any w.heap.size 4 i ∧
      (OpenSpec.ofChange Rows.idealFitsSpec).preRow enc Tryz.prog Tryz.f4 [] false laidV (w.forCall tape i).memory i.args ∧ ({} : Assume).holds Tryz.prog (lone (Frame.enter Tryz.prog 4 i.args .normal) [] (w.forCall tape i)) :=
  ChangeSpec.witness_shaped (enc := enc) (C := Tryz.checked) (os := os) (X := fun w _ => laidMetH Tryz.prog laidV w) false (laidWorld os) #[.agg #[.string ⟨#[]⟩, .int .u8 0, .slice none 0 0, .int .u8 0, .int .i64 0, .slice none 0 0, .int .i64 0], .string ⟨#[]⟩] 8 rfl (World.shaped_of_RefB (by kernel_rfl) (by kernel_rfl)) (by kernel_rfl) (by kernel_rfl) (by kernel_rfl) (laid_met os _)
theorem lifted (os : Os) (started : os.Started) (H : Type) (enc : TypeId × Value → H) :
    ReturnsInHanded {} Tryz.checked os 4 .any ((OpenSpec.ofChange Rows.idealFitsSpec).preRow enc Tryz.prog Tryz.f4 [] false laidV) (Rows.idealFitsSpec.post enc Tryz.prog Tryz.f4 false true false false) := by
  refine lifted_laid Tryz.func4 rfl rfl (by kernel_rfl) (by kernel_rfl) (by kernel_rfl) (fun H ds hl => ?_) ?_ os started H enc (witness os H enc)
  · rw [Tryz.params4] at hl
    match ds, hl with
    | [d, d1], _ => rfl
  · intro H enc W base args ds p hA hval hfz hsz hsh
    rw [Tryz.params4] at hA hval hsz
    obtain ⟨v0, v1, d0, d1, p0, p1, rfl, rfl, rfl, h0, h1⟩ := trodAll_two hA
    obtain ⟨cs, rfl, _⟩ := okWide_struct Tryz.underlying42 (hval 0 42 v0 rfl rfl)
    obtain ⟨fuel, hf⟩ := h0
    obtain ⟨d, hd⟩ := open_jnode hf
    obtain ⟨s, rfl, rfl, rfl, hs⟩ := Go.ChangeMaps.open_string Tryz.underlying9 (hval 1 9 v1 rfl rfl) h1
    obtain ⟨m, hm⟩ := maxLen_at W hsh
    exact ifits_walk d cs s W m hd hs hm
theorem over : Rows.idealFitsRow.holds Tryz.pinned (OpenSpec.ofChange Rows.idealFitsSpec) :=
  OpenClaim.holds_of_wide 4 Tryz.f4 rfl rfl rfl rfl rfl rfl rfl ⟨rfl, rfl, rfl, rfl, rfl⟩ rfl rfl rfl rfl rfl funcNo Tryz.func4 facts inst wrapper
    (fun os started H enc _ => lifted os started H enc)
end Go.Proofs.YtglbkodmmogomaaGreatDoor.idealFits
