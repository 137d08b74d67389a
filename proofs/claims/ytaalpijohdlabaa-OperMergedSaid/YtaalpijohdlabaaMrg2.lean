/-
  OperMerged, whatever the records: the law returns true, and what came in reads as it did. Proved: 'operMerged.proved : Rows.OperMergedSaid', of any two slices of records that can be read.
-/
import Derived.Test.YtaalpijohdlabaaRows
import Derived.WalkKit
import Derived.Test.YtaalpijohdlabaaMrg1
namespace Go.Proofs.Ytaalpijohdlabaa.operMerged
open Go.ChangeShapes Go.WideShapes Go.ChangeAt Go.RowKit
set_option linter.unusedVariables false

set_option maxRecDepth 100000 in
theorem lifted (os : Os) (started : os.Started) (H : Type) (enc : TypeId × Value → H) :
    ReturnsInHanded {} Try.checked os 5 .any (Rows.operMergedSpec.pre6 enc Try.prog Try.f5 Rows.operMergedRow.domain false) (Rows.operMergedSpec.post enc Try.prog Try.f5 false true false false) := by
  refine lifted_sized Try.func5 rfl rfl (by kernel_rfl) (by kernel_rfl) (by kernel_rfl) (fun H ds hl => ?_) ?_ os started H enc (ChangeSpec.witness6 (enc := enc) (C := Try.checked) false ⟨#[], #[.slice none 0 0, .slice none 0 0], []⟩ 8 (by kernel_rfl) (by kernel_rfl) (by kernel_rfl) (by kernel_rfl))
  · rw [Try.params5] at hl
    match ds, hl with
    | [d, d1], _ => rfl
  · intro H enc W base args ds p hA hval hfz hsz
    rw [Try.params5] at hA hval hsz
    obtain ⟨v0, vs0, d0, ds0, p0, q0, hargs, rfl, rfl, h0, r0⟩ := trodAll_cons hA
    obtain ⟨v1, vs1, d1, ds1, p1, q1, rfl, rfl, rfl, h1, r1⟩ := trodAll_cons r0
    obtain ⟨rfl, rfl, rfl⟩ := trodAll_nil r1
    obtain rfl : args = #[v0, v1] := by cases args; simp_all
    obtain ⟨a, n, cap, rfl⟩ := okWide_slice Try.underlying42 (hval 0 42 v0 rfl rfl)
    obtain ⟨a', n', cap', rfl⟩ := okWide_slice Try.underlying42 (hval 1 42 v1 rfl rfl)
    obtain ⟨fuel, hf⟩ := h0
    obtain ⟨fuel', hf'⟩ := h1
    have hb : Try.prog.bytesOf 46 = 24 := by kernel_rfl
    have s0 := slice_sized (j := 0) Try.underlying42 hb hf hsz rfl rfl
    have s1 := slice_sized (j := 1) Try.underlying42 hb hf' hsz rfl rfl
    obtain ⟨A, rfl, ha, _⟩ := open_recs hf
    obtain ⟨B, rfl, hb', _⟩ := open_recs hf'
    exact merged_walk _ _ A B W ha hb' s0 s1

theorem over : Rows.operMergedRow.holds Try.pinned (OpenSpec.ofChange Rows.operMergedSpec) :=
  OpenClaim.holds_of_wide 5 Try.f5 rfl rfl rfl rfl rfl rfl rfl ⟨rfl, rfl, rfl, rfl, rfl⟩ rfl rfl rfl rfl rfl (by kernel_rfl) Try.func5 (by kernel_rfl)
    (of_decide_eq_true (by kernel_rfl)) (by unfold Func.isWrapper; first | (rw [if_pos (by decide +kernel)]; kernel_rfl) | (rw [if_neg (by decide +kernel)]; exact ⟨rfl, rfl⟩))
    (fun os started H enc _ => lifted os started H enc)

theorem proved : Rows.OperMergedSaid := over
#print axioms proved
end Go.Proofs.Ytaalpijohdlabaa.operMerged
