/-
  TableKnown: the law returns true. Proved: 'tableKnown.proved : Rows.TableKnownSaid'.
-/
import Derived.Test.YtaalpijohdlabaaRows
import Derived.WalkKit
import Derived.Test.YtaalpijohdlabaaTkk
namespace Go.Proofs.Ytaalpijohdlabaa.tableKnown
open Go.ChangeShapes Go.WideShapes Go.ChangeAt Go.RowKit
set_option linter.unusedVariables false

set_option maxRecDepth 100000 in
theorem lifted (os : Os) (started : os.Started) (H : Type) (enc : TypeId × Value → H) :
    ReturnsInHanded {} Try.checked os 12 .any (Rows.tableKnownSpec.pre6 enc Try.prog Try.f12 Rows.tableKnownRow.domain false) (Rows.tableKnownSpec.post enc Try.prog Try.f12 false true false false) := by
  refine lifted_all Try.func12 rfl (by kernel_rfl) (by kernel_rfl) (by kernel_rfl) (fun H ds hl => ?_) ?_ os started H enc (ChangeSpec.witness6 (enc := enc) (C := Try.checked) false ⟨#[], #[], []⟩ 8 (by kernel_rfl) (by kernel_rfl) (by kernel_rfl) (by kernel_rfl))
  · rw [Try.params12] at hl
    match ds, hl with
    | [], _ => rfl
  · intro H enc W base args ds p hA hval hfz
    rw [Try.params12] at hA
    obtain ⟨h1, rfl, rfl⟩ := trodAll_nil hA
    obtain rfl : args = #[] := by cases args; simp_all
    exact tknown_walk W

theorem over : Rows.tableKnownRow.holds Try.pinned (OpenSpec.ofChange Rows.tableKnownSpec) :=
  OpenClaim.holds_of_wide 12 Try.f12 rfl rfl rfl rfl rfl rfl rfl ⟨rfl, rfl, rfl, rfl, rfl⟩ rfl rfl rfl rfl rfl (by kernel_rfl) Try.func12 (by kernel_rfl)
    (of_decide_eq_true (by kernel_rfl)) (by unfold Func.isWrapper; first | (rw [if_pos (by decide +kernel)]; kernel_rfl) | (rw [if_neg (by decide +kernel)]; exact ⟨rfl, rfl⟩))
    (fun os started H enc _ => lifted os started H enc)

theorem proved : Rows.TableKnownSaid := over
#print axioms proved
end Go.Proofs.Ytaalpijohdlabaa.tableKnown
