/-
  The law ShadowFirst: its row.
-/
import Derived.Test.YtopeleenlcnkkaaGreatDoorK48
import Derived.Test.YtopeleenlcnkkaaGreatDoorK49
import Derived.Test.YtopeleenlcnkkaaGreatDoorK50
import Derived.Test.YtopeleenlcnkkaaGreatDoorK52
set_option linter.unusedVariables false
set_option linter.unusedSimpArgs false
namespace Go.Proofs.YtopeleenlcnkkaaGreatDoor.shadowFirst
open Go Go.ChangeShapes Go.WideShapes Go.ChangeAt Go.RowKit
set_option linter.unusedVariables false
set_option maxRecDepth 100000
theorem funcNo : Tryz.pinned.checked.prog.funcNamed Rows.shadowFirstRow.func = some 7 := by kernel_rfl
theorem inPl : (Rows.shadowFirstRow.inPlace == Tryz.pinned.checked.prog.inPlace 7) = true := by kernel_rfl
theorem unfo : (Rows.shadowFirstRow.unfollowed == Tryz.pinned.checked.prog.unfollowed 7) = true := by kernel_rfl
theorem recu : (Rows.shadowFirstRow.recurses == Tryz.pinned.checked.prog.recurses 7) = true := by kernel_rfl
theorem nams : (Rows.shadowFirstRow.named == Tryz.pinned.checked.prog.varsNamed 7) = true := by kernel_rfl
theorem facts : joinedFacts Tryz.pinned.checked.prog 7 Tryz.f7 Rows.shadowFirstSpec Rows.shadowFirstRow = true := by
 unfold joinedFacts
 simp only [Bool.and_eq_true]
 and_intros
 all_goals first | with_reducible exact pLaidOut | with_reducible exact pMapsRowed | with_reducible exact pStopsHeard | with_reducible exact pMayEnter | with_reducible exact pLifts | with_reducible exact inPl | with_reducible exact unfo | with_reducible exact recu | with_reducible exact nams | kernel_rfl
theorem inst : Tryz.f7.isInstance Tryz.pinned.checked.prog Rows.shadowFirstRow.origin Rows.shadowFirstRow.targs := of_decide_eq_true (by kernel_rfl)
theorem wrapper : Tryz.f7.isWrapper Tryz.pinned.checked.prog Rows.shadowFirstRow.wrapper Rows.shadowFirstRow.mainSum := (by unfold Func.isWrapper; first | (rw [if_pos (by decide +kernel)]; kernel_rfl) | (rw [if_neg (by decide +kernel)]; exact ⟨rfl, rfl⟩))
theorem witness (os : Os) (H : Type) (enc : TypeId × Value → H) : ∃ (w : World) (tape : Tape) (i : Input), w.os = os ∧ (w.forCall tape i).Shaped Tryz.prog ∧ i.vars = [] ∧ Input.okWide Tryz.prog (w.forCall tape i) .any w.heap.size 7 i ∧
   (OpenSpec.ofChange Rows.shadowFirstSpec).preRow enc Tryz.prog Tryz.f7 [] false laidV (w.forCall tape i).memory i.args ∧ ({} : Assume).holds Tryz.prog (lone (Frame.enter Tryz.prog 7 i.args .normal) [] (w.forCall tape i)) :=
 ChangeSpec.witness_shaped (enc := enc) (C := Tryz.checked) (os := os) (X := fun w _ => laidMetH Tryz.prog laidV w) false (laidWorld os) #[.agg #[.int .i64 0, .slice none 0 0, .slice none 0 0], .agg #[.int .i64 0, .slice none 0 0, .slice none 0 0], .slice none 0 0, .int .i64 0] 8 rfl (World.shaped_of_RefB (by kernel_rfl) (by kernel_rfl)) (by kernel_rfl) (by kernel_rfl) (by kernel_rfl) (laid_met os _)
theorem lifted (os : Os) (started : os.Started) (H : Type) (enc : TypeId × Value → H) :
  ReturnsInHanded {} Tryz.checked os 7 .any ((OpenSpec.ofChange Rows.shadowFirstSpec).preRow enc Tryz.prog Tryz.f7 [] false laidV) (Rows.shadowFirstSpec.post enc Tryz.prog Tryz.f7 false true false false) := by
 refine lifted_laid Tryz.func7 rfl rfl (by kernel_rfl) (by kernel_rfl) (by kernel_rfl) (fun H ds hl => ?_) ?_ os started H enc (witness os H enc)
 ·rw [Tryz.params7] at hl
  match ds, hl with
  | [d, d1, d2, d3], _ => rfl
 ·intro H enc W base args ds p hA hval hfz hsz hsh
  rw [Tryz.params7] at hA hval hsz
  obtain ⟨v0, v1, v2, v3, d0, d1, d2, d3, p0, p1, p2, p3, rfl, rfl, rfl, h0, h1, h2, h3⟩ := trodAll_four hA
  obtain ⟨cs, rfl, _⟩ := okWide_struct Tryz.underlying48 (hval 0 48 v0 rfl rfl)
  obtain ⟨cs', rfl, _⟩ := okWide_struct Tryz.underlying48 (hval 1 48 v1 rfl rfl)
  obtain ⟨a', n', cap', rfl⟩ := okWide_slice Tryz.underlying49 (hval 2 49 v2 rfl rfl)
  obtain ⟨z, rfl⟩ := okWide_int Tryz.underlying3 (hval 3 3 v3 rfl rfl)
  obtain ⟨fuel0, hf0⟩ := h0
  obtain ⟨fuel1, hf1⟩ := h1
  obtain ⟨fuel2, hf2⟩ := h2
  obtain ⟨fuel3, hf3⟩ := h3
  obtain ⟨sa, va, ua, ea, ha⟩ := open_side hf0
  obtain ⟨sb, vb, ub, eb, hb⟩ := open_side hf1
  obtain ⟨L, _, hr, hR⟩ := open_ins hf2
  obtain ⟨z', hz, hw⟩ := open_int3 hf3
  injection hz with _ hz
  subst hz
  obtain ⟨m, hm⟩ := maxLen_at W hsh
  have ea' : cs = #[.int .i64 sa.1.par, va, ua] := ea
  have eb' : cs' = #[.int .i64 sb.1.par, vb, ub] := eb
  subst ea' eb'
  exact first_walk sa sb va ua vb ub _ L z W m hm ha hb hr hR hw
theorem over : Rows.shadowFirstRow.holds Tryz.pinned (OpenSpec.ofChange Rows.shadowFirstSpec) :=
 OpenClaim.holds_of_wide 7 Tryz.f7 rfl rfl rfl rfl rfl rfl rfl ⟨rfl, rfl, rfl, rfl, rfl⟩ rfl rfl rfl rfl rfl funcNo Tryz.func7 facts inst wrapper
  (fun os started H enc _ => lifted os started H enc)
end Go.Proofs.YtopeleenlcnkkaaGreatDoor.shadowFirst
