/-
  OperParted, whatever comes in: the law returns true, and what came in reads as it did. Proved: 'operParted.proved : Rows.OperPartedSaid', of any node, any calls, any records and any number of places.
-/
import Derived.Test.YtaalpijohdlabaaRows
import Derived.WalkKit
import Derived.Test.YtaalpijohdlabaaPaw
import Derived.Test.YtaalpijohdlabaaRow3
namespace Go.Proofs.Ytaalpijohdlabaa.operParted
open Go.ChangeShapes Go.WideShapes Go.ChangeAt Go.RowKit
set_option linter.unusedVariables false

set_option maxRecDepth 100000 in
theorem lifted (os : Os) (started : os.Started) (H : Type) (enc : TypeId × Value → H) :
    ReturnsInHanded {} Try.checked os 14 .any (Rows.operPartedSpec.pre6 enc Try.prog Try.f14 Rows.operPartedRow.domain false) (Rows.operPartedSpec.post enc Try.prog Try.f14 false true false false) := by
  refine lifted_sized Try.func14 rfl rfl (by kernel_rfl) (by kernel_rfl) (by kernel_rfl) (fun H ds hl => ?_) ?_ os started H enc (ChangeSpec.witness6 (enc := enc) (C := Try.checked) false ⟨#[], #[.agg #[.string ⟨#[]⟩, .int .u8 0, .slice none 0 0, .int .u8 0, .int .i64 0, .slice none 0 0, .int .i64 0], .slice none 0 0, .slice none 0 0, .int .i64 0], []⟩ 8 (by kernel_rfl) (by kernel_rfl) (by kernel_rfl) (by kernel_rfl))
  · rw [Try.params14] at hl
    match ds, hl with
    | [d, d1, d2, d3], _ => rfl
  · intro H enc W base args ds p hA hval hfz hsz
    rw [Try.params14] at hA hval hsz
    obtain ⟨v0, vs0, d0, ds0, p0, q0, hargs, rfl, rfl, h0, r0⟩ := trodAll_cons hA
    obtain ⟨v1, vs1, d1, ds1, p1, q1, rfl, rfl, rfl, h1, r1⟩ := trodAll_cons r0
    obtain ⟨v2, vs2, d2, ds2, p2, q2, rfl, rfl, rfl, h2, r2⟩ := trodAll_cons r1
    obtain ⟨v3, vs3, d3, ds3, p3, q3, rfl, rfl, rfl, h3, r3⟩ := trodAll_cons r2
    obtain ⟨rfl, rfl, rfl⟩ := trodAll_nil r3
    obtain rfl : args = #[v0, v1, v2, v3] := by cases args; simp_all
    obtain ⟨cs, rfl, _⟩ := okWide_struct Try.underlying54 (hval 0 54 v0 rfl rfl)
    obtain ⟨a, n, cap, rfl⟩ := okWide_slice Try.underlying33 (hval 1 33 v1 rfl rfl)
    obtain ⟨a', n', cap', rfl⟩ := okWide_slice Try.underlying42 (hval 2 42 v2 rfl rfl)
    obtain ⟨m, rfl, rfl, rfl, w3⟩ := open_int Try.underlying3 (hval 3 3 v3 rfl rfl) h3
    obtain ⟨fuel, hf⟩ := h0
    obtain ⟨fuel1, hf1⟩ := h1
    obtain ⟨fuel2, hf2⟩ := h2
    have hb : Try.prog.bytesOf 46 = 24 := by kernel_rfl
    have s2 := slice_sized (j := 2) Try.underlying42 hb hf2 hsz rfl rfl
    obtain ⟨nd, hn⟩ := open_node hf
    obtain ⟨ops, hops⟩ := open_ops hf1
    obtain ⟨L, hLn, hr, hok⟩ := open_recs hf2
    subst hLn
    exact parted_walk cs nd _ _ ops L m W hn hops hr hok (by omega)

theorem over : Rows.operPartedRow.holds Try.pinned (OpenSpec.ofChange Rows.operPartedSpec) :=
  OpenClaim.holds_of_wide 14 Try.f14 rfl rfl rfl rfl rfl rfl rfl ⟨rfl, rfl, rfl, rfl, rfl⟩ rfl rfl rfl rfl rfl (by kernel_rfl) Try.func14 (by kernel_rfl)
    (of_decide_eq_true (by kernel_rfl)) (by unfold Func.isWrapper; first | (rw [if_pos (by decide +kernel)]; kernel_rfl) | (rw [if_neg (by decide +kernel)]; exact ⟨rfl, rfl⟩))
    (fun os started H enc _ => lifted os started H enc)

theorem proved : Rows.OperPartedSaid := over
#print axioms proved
end Go.Proofs.Ytaalpijohdlabaa.operParted
