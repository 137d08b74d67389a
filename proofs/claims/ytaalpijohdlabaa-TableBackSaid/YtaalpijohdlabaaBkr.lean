/-
  TableBack, whatever comes in: the law returns true, and what came in reads as it did. Proved: 'tableBack.proved : Rows.TableBackSaid', of every slice of calls that can be read and any bytes.
-/
import Derived.Test.YtaalpijohdlabaaRows
import Derived.WalkKit
import Derived.Test.YtaalpijohdlabaaBak
namespace Go.Proofs.Ytaalpijohdlabaa.tableBack
open Go.ChangeShapes Go.WideShapes Go.ChangeAt Go.RowKit
set_option linter.unusedVariables false

set_option maxRecDepth 100000 in
theorem lifted (os : Os) (started : os.Started) (H : Type) (enc : TypeId × Value → H) :
    ReturnsInHanded {} Try.checked os 9 .any (Rows.tableBackSpec.pre6 enc Try.prog Try.f9 Rows.tableBackRow.domain false) (Rows.tableBackSpec.post enc Try.prog Try.f9 false true false false) := by
  refine lifted_all Try.func9 rfl (by kernel_rfl) (by kernel_rfl) (by kernel_rfl) (fun H ds hl => ?_) ?_ os started H enc (ChangeSpec.witness6 (enc := enc) (C := Try.checked) false ⟨#[], #[.slice none 0 0, .string ⟨#[]⟩], []⟩ 8 (by kernel_rfl) (by kernel_rfl) (by kernel_rfl) (by kernel_rfl))
  · rw [Try.params9] at hl
    match ds, hl with
    | [d, d1], _ => rfl
  · intro H enc W base args ds p hA hval hfz
    rw [Try.params9] at hA hval
    obtain ⟨v0, vs0, d0, ds0, p0, q0, hargs, rfl, rfl, h0, r0⟩ := trodAll_cons hA
    obtain ⟨v1, vs1, d1, ds1, p1, q1, rfl, rfl, rfl, h1, r1⟩ := trodAll_cons r0
    obtain ⟨rfl, rfl, rfl⟩ := trodAll_nil r1
    obtain rfl : args = #[v0, v1] := by cases args; simp_all
    obtain ⟨a, n, cap, rfl⟩ := okWide_slice Try.underlying33 (hval 0 33 v0 rfl rfl)
    obtain ⟨s, rfl, rfl, rfl, hs⟩ := Go.ChangeMaps.open_string Try.underlying9 (hval 1 9 v1 rfl rfl) h1
    obtain ⟨fuel, hf⟩ := h0
    obtain ⟨ops, hops⟩ := open_ops hf
    exact back_walk _ ops s W hops hs

theorem over : Rows.tableBackRow.holds Try.pinned (OpenSpec.ofChange Rows.tableBackSpec) :=
  OpenClaim.holds_of_wide 9 Try.f9 rfl rfl rfl rfl rfl rfl rfl ⟨rfl, rfl, rfl, rfl, rfl⟩ rfl rfl rfl rfl rfl (by kernel_rfl) Try.func9 (by kernel_rfl)
    (of_decide_eq_true (by kernel_rfl)) (by unfold Func.isWrapper; first | (rw [if_pos (by decide +kernel)]; kernel_rfl) | (rw [if_neg (by decide +kernel)]; exact ⟨rfl, rfl⟩))
    (fun os started H enc _ => lifted os started H enc)

theorem proved : Rows.TableBackSaid := over
#print axioms proved
end Go.Proofs.Ytaalpijohdlabaa.tableBack
