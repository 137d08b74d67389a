/-
  TableTakes, whatever comes in: the law returns true, and what came in reads as it did. Proved: 'tableTakes.proved : Rows.TableTakesSaid', of any bytes.
-/
import Derived.Test.YtaalpijohdlabaaRows
import Derived.WalkKit
import Derived.Test.YtaalpijohdlabaaTtw
namespace Go.Proofs.Ytaalpijohdlabaa.tableTakes
open Go.ChangeShapes Go.WideShapes Go.ChangeAt Go.RowKit
set_option linter.unusedVariables false

set_option maxRecDepth 100000 in
theorem lifted (os : Os) (started : os.Started) (H : Type) (enc : TypeId × Value → H) :
    ReturnsInHanded {} Try.checked os 8 .any (Rows.tableTakesSpec.pre6 enc Try.prog Try.f8 Rows.tableTakesRow.domain false) (Rows.tableTakesSpec.post enc Try.prog Try.f8 false true false false) := by
  refine lifted_all Try.func8 rfl (by kernel_rfl) (by kernel_rfl) (by kernel_rfl) (fun H ds hl => ?_) ?_ os started H enc (ChangeSpec.witness6 (enc := enc) (C := Try.checked) false ⟨#[], #[.string ⟨#[]⟩], []⟩ 8 (by kernel_rfl) (by kernel_rfl) (by kernel_rfl) (by kernel_rfl))
  · rw [Try.params8] at hl
    match ds, hl with
    | [d], _ => rfl
  · intro H enc W base args ds p hA hval hfz
    rw [Try.params8] at hA hval
    obtain ⟨v0, vs0, d0, ds0, p0, q0, hargs, rfl, rfl, h0, r0⟩ := trodAll_cons hA
    obtain ⟨rfl, rfl, rfl⟩ := trodAll_nil r0
    obtain rfl : args = #[v0] := by cases args; simp_all
    obtain ⟨s, rfl, rfl, rfl, hs⟩ := Go.ChangeMaps.open_string Try.underlying9 (hval 0 9 v0 rfl rfl) h0
    exact takes_walk s W hs

theorem over : Rows.tableTakesRow.holds Try.pinned (OpenSpec.ofChange Rows.tableTakesSpec) :=
  OpenClaim.holds_of_wide 8 Try.f8 rfl rfl rfl rfl rfl rfl rfl ⟨rfl, rfl, rfl, rfl, rfl⟩ rfl rfl rfl rfl rfl (by kernel_rfl) Try.func8 (by kernel_rfl)
    (of_decide_eq_true (by kernel_rfl)) (by unfold Func.isWrapper; first | (rw [if_pos (by decide +kernel)]; kernel_rfl) | (rw [if_neg (by decide +kernel)]; exact ⟨rfl, rfl⟩))
    (fun os started H enc _ => lifted os started H enc)

theorem proved : Rows.TableTakesSaid := over
#print axioms proved
end Go.Proofs.Ytaalpijohdlabaa.tableTakes
