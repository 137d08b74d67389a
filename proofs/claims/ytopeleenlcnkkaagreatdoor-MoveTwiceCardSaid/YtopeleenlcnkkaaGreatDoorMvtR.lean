/-
  The law MoveTwice: its row.
-/
import Derived.Test.YtopeleenlcnkkaaGreatDoorM45
import Derived.Test.YtopeleenlcnkkaaGreatDoorM46
import Derived.Test.YtopeleenlcnkkaaGreatDoorM47
import Derived.Test.YtopeleenlcnkkaaGreatDoorM51
set_option linter.unusedVariables false
set_option linter.unusedSimpArgs false
namespace Go.Proofs.YtopeleenlcnkkaaGreatDoor.moveTwice
open Go Go.ChangeShapes Go.WideShapes Go.ChangeAt Go.RowKit
set_option linter.unusedVariables false
set_option maxRecDepth 100000
theorem funcNo : Tryz.pinned.checked.prog.funcNamed Rows.moveTwiceRow.func = some 3 := by kernel_rfl
theorem inPl : (Rows.moveTwiceRow.inPlace == Tryz.pinned.checked.prog.inPlace 3) = true := by kernel_rfl
theorem unfo : (Rows.moveTwiceRow.unfollowed == Tryz.pinned.checked.prog.unfollowed 3) = true := by kernel_rfl
theorem recu : (Rows.moveTwiceRow.recurses == Tryz.pinned.checked.prog.recurses 3) = true := by kernel_rfl
theorem nams : (Rows.moveTwiceRow.named == Tryz.pinned.checked.prog.varsNamed 3) = true := by kernel_rfl
theorem facts : joinedFacts Tryz.pinned.checked.prog 3 Tryz.f3 Rows.moveTwiceSpec Rows.moveTwiceRow = true := by
  unfold joinedFacts
  simp only [Bool.and_eq_true]
  and_intros
  all_goals first | with_reducible exact pLaidOut | with_reducible exact pMapsRowed | with_reducible exact pStopsHeard | with_reducible exact pMayEnter | with_reducible exact pLifts | with_reducible exact inPl | with_reducible exact unfo | with_reducible exact recu | with_reducible exact nams | kernel_rfl
theorem inst : Tryz.f3.isInstance Tryz.pinned.checked.prog Rows.moveTwiceRow.origin Rows.moveTwiceRow.targs := of_decide_eq_true (by kernel_rfl)
theorem wrapper : Tryz.f3.isWrapper Tryz.pinned.checked.prog Rows.moveTwiceRow.wrapper Rows.moveTwiceRow.mainSum := (by unfold Func.isWrapper; first | (rw [if_pos (by decide +kernel)]; kernel_rfl) | (rw [if_neg (by decide +kernel)]; exact ⟨rfl, rfl⟩))
theorem witness (os : Os) (H : Type) (enc : TypeId × Value → H) : ∃ (w : World) (tape : Tape) (i : Input), w.os = os ∧ (w.forCall tape i).Shaped Tryz.prog ∧ i.vars = [] ∧ Input.okWide Tryz.prog (w.forCall tape i) .any w.heap.size 3 i ∧
      (OpenSpec.ofChange Rows.moveTwiceSpec).preRow enc Tryz.prog Tryz.f3 [] false laidV (w.forCall tape i).memory i.args ∧ ({} : Assume).holds Tryz.prog (lone (Frame.enter Tryz.prog 3 i.args .normal) [] (w.forCall tape i)) :=
  ChangeSpec.witness_shaped (enc := enc) (C := Tryz.checked) (os := os) (X := fun w _ => laidMetH Tryz.prog laidV w) false (laidWorld os) #[.agg #[.int .i64 0, .slice none 0 0], .agg #[.int .i64 0, .slice none 0 0], .slice none 0 0, .int .i64 0] 8 rfl (World.shaped_of_RefB (by kernel_rfl) (by kernel_rfl)) (by kernel_rfl) (by kernel_rfl) (by kernel_rfl) (laid_met os _)
theorem lifted (os : Os) (started : os.Started) (H : Type) (enc : TypeId × Value → H) :
    ReturnsInHanded {} Tryz.checked os 3 .any ((OpenSpec.ofChange Rows.moveTwiceSpec).preRow enc Tryz.prog Tryz.f3 [] false laidV) (Rows.moveTwiceSpec.post enc Tryz.prog Tryz.f3 false true false false) := by
  refine lifted_laid Tryz.func3 rfl rfl (by kernel_rfl) (by kernel_rfl) (by kernel_rfl) (fun H ds hl => ?_) ?_ os started H enc (witness os H enc)
  · rw [Tryz.params3] at hl
    match ds, hl with
    | [d, d1, d2, d3], _ => rfl
  · intro H enc W base args ds p hA hval hfz hsz hsh
    rw [Tryz.params3] at hA hval hsz
    obtain ⟨v0, v1, v2, v3, d0, d1, d2, d3, p0, p1, p2, p3, rfl, rfl, rfl, h0, h1, h2, h3⟩ := trodAll_four hA
    obtain ⟨cs, rfl, _⟩ := okWide_struct Tryz.underlying24 (hval 0 24 v0 rfl rfl)
    obtain ⟨cs', rfl, _⟩ := okWide_struct Tryz.underlying24 (hval 1 24 v1 rfl rfl)
    obtain ⟨a', n', cap', rfl⟩ := okWide_slice Tryz.underlying25 (hval 2 25 v2 rfl rfl)
    obtain ⟨z, rfl⟩ := okWide_int Tryz.underlying3 (hval 3 3 v3 rfl rfl)
    obtain ⟨fuel0, hf0⟩ := h0
    obtain ⟨fuel1, hf1⟩ := h1
    obtain ⟨fuel2, hf2⟩ := h2
    obtain ⟨fuel3, hf3⟩ := h3
    obtain ⟨a, ha⟩ := open_job hf0
    obtain ⟨b, hb⟩ := open_job hf1
    obtain ⟨l, _, hr, hR⟩ := open_sts hf2
    obtain ⟨z', hz, hw⟩ := open_int3 hf3
    injection hz with _ hz
    subst hz
    obtain ⟨m, hm⟩ := maxLen_at W hsh
    have ha' := ha
    have hb' := hb
    obtain ⟨va, ea, _⟩ := ha'
    obtain ⟨vb, eb, _⟩ := hb'
    have ea' : cs = #[.int .i64 a.par, va] := ea
    have eb' : cs' = #[.int .i64 b.par, vb] := eb
    subst ea' eb'
    exact twice_walk a b va vb _ l z W m hm ha hb hr hR hw
theorem over : Rows.moveTwiceRow.holds Tryz.pinned (OpenSpec.ofChange Rows.moveTwiceSpec) :=
  OpenClaim.holds_of_wide 3 Tryz.f3 rfl rfl rfl rfl rfl rfl rfl ⟨rfl, rfl, rfl, rfl, rfl⟩ rfl rfl rfl rfl rfl funcNo Tryz.func3 facts inst wrapper
    (fun os started H enc _ => lifted os started H enc)
end Go.Proofs.YtopeleenlcnkkaaGreatDoor.moveTwice
