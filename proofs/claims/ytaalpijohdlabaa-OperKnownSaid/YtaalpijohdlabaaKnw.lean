/-
  OperKnown: its walk, and the row. Proved: 'operKnown.proved : Rows.OperKnownSaid'.
-/
import Derived.Test.YtaalpijohdlabaaRows
import Derived.WalkKit
import Derived.Test.YtaalpijohdlabaaRow3
namespace Go.Proofs.Ytaalpijohdlabaa
open Go Go.RowKit
attribute [local irreducible] wpL
set_option maxRecDepth 100000 in
set_option maxHeartbeats 1000000 in
theorem node_one (kind op n : Int) (w : World) (hk : 0 ≤ kind ∧ kind ≤ 255) (ho : 0 ≤ op ∧ op ≤ 255) (hn : R64 n) :
    Calls Try.prog 28 #[.int .u8 kind, .int .u8 op, .int .u8 0, .int .u8 0, .int .i64 n] w (NodeQ w ⟨kind, .mk op 0 [], n⟩) := by
  obtain ⟨hk0, hk1⟩ := hk
  have HO := Lib.hid ho
  have HN := Lib.hid hn
  clear ho hn
  go_enter Try.func28, Try.ntmps28
  go_wp2_with fail
  refine bodyPost_ret (v := .agg #[.string ⟨#[110]⟩, .int .u8 kind, .slice (some ⟨w.heap.size + 1 + 1, 0, none⟩) 1 1, .int .u8 op, .int .i64 0, .slice none 0 0, .int .i64 n]) (by simp [results, Try.results28, go_sem]) rfl ?_
  exact ⟨_, rfl, ⟨_, _, _, _, rfl, ExAt.leaf _ op HO.out.1 HO.out.2, hk0, hk1, HN.out⟩, ((Kept.refl none' w).alloc _).alloc _ |>.alloc _⟩
theorem flat_known : outP ⟨4, .mk 3 0 [], 0⟩ [⟨1, 5, 2⟩] = [⟨8, 5, 2⟩, ⟨9, 5, 3⟩] := by kernel_rfl
theorem window_known : (doNode ⟨7, .mk 0 0 [], 2⟩ [] [⟨1, 5, 2⟩, ⟨2, 6, 1⟩, ⟨3, 5, 4⟩]).1 = [⟨3, 5, 6⟩] := by kernel_rfl
theorem gets_known : getsL 8 [[⟨2, 0, 1⟩], [⟨1, 0, 2⟩]] = [⟨9, 0, 2⟩, ⟨16, 0, 1⟩] := by
  unfold getsL
  rw [if_pos rfl]
  refine (smerge_unique (L := (wideL 0 [[⟨2, 0, 1⟩], [⟨1, 0, 2⟩]]).flatten) (M := [⟨9, 0, 2⟩, ⟨16, 0, 1⟩]) ?_ ?_).symm
  · unfold Sorted; simp
  · intro p
    rw [show (wideL 0 [[⟨2, 0, 1⟩], [⟨1, 0, 2⟩]]).flatten = ([⟨16, 0, 1⟩, ⟨9, 0, 2⟩] : List Rec) by kernel_rfl]
    by_cases h1 : (16 : Int) = p
    · subst h1; rfl
    · by_cases h2 : (9 : Int) = p
      · subst h2; rfl
      · have e1 : ((16 : Int) == p) = false := by simp [h1]
        have e2 : ((9 : Int) == p) = false := by simp [h2]
        simp [e1, e2]
set_option maxRecDepth 100000 in
set_option maxHeartbeats 4000000 in
theorem known_walk (w : World) : Calls Try.prog 6 #[] w (Gives w (.bool true)) := by
  go_enter Try.func6, Try.ntmps6
  go_wp2_with fail
  have c := node_one 4 3 0 w (by omega) (by omega) zero_r64
  (with_reducible refine c.mono ?_)
  clear c
  rintro e w1 ⟨na, rfl, n1, k1⟩
  go_wp2_with fail
  have ka : Kept none' w1 (w1.alloc (.cells #[.int .i64 1, .int .i64 5, .int .i64 2] 46)) := (Kept.refl _ _).alloc _
  have c := doP_any na ⟨4, .mk 3 0 [], 0⟩ (.pointer none) _ [⟨1, 5, 2⟩] _ (NodAt.pure ka n1) ⟨by simp, by simp⟩ (Reads.lit w1 (recs [⟨1, 5, 2⟩]) 46 3 1 rfl (by unfold maxLen; omega)) (fun r hr => by simp only [List.mem_cons, List.not_mem_nil, or_false] at hr; subst hr; exact recOk_small (by omega) (by omega) (by omega)) (by simp) ⟨_, rfl⟩
  rw [flat_known] at c
  refine c.mono ?_
  clear c
  rintro e w2 ⟨v2, rfl, r2, _, k2⟩
  obtain ⟨a2, c2, rfl, _, _⟩ := r2.len
  have K2 := Lib.hid (And.intro (k1.trans (ka.trans k2)) r2)
  clear k1 ka k2 n1 r2
  go_wp2_with fail
  have c := node_one 7 0 2 w2 (by omega) (by omega) (.small (by omega) (by omega))
  (with_reducible refine c.mono ?_)
  clear c
  rintro e w3 ⟨nb, rfl, n3, k3⟩
  go_wp2_with fail
  (with_reducible refine (new_any w3).mono ?_)
  rintro e w4 ⟨b, m, rfl, t4, k4⟩
  go_wp2_with fail
  have ka : Kept none' w4 (w4.alloc (.cells #[.int .i64 1, .int .i64 5, .int .i64 2, .int .i64 2, .int .i64 6, .int .i64 1, .int .i64 3, .int .i64 5, .int .i64 4] 46)) := (Kept.refl _ _).alloc _
  have hm := t4.hm
  have c := doT_any nb ⟨7, .mk 0 0 [], 2⟩ b m [] _ _ [⟨1, 5, 2⟩, ⟨2, 6, 1⟩, ⟨3, 5, 4⟩] _ (NodAt.pure (k4.trans ka) n3) (Reads.lit w4 (recs [⟨1, 5, 2⟩, ⟨2, 6, 1⟩, ⟨3, 5, 4⟩]) 46 3 3 rfl (by unfold maxLen; omega)) (fun r hr => by
    simp only [List.mem_cons, List.not_mem_nil, or_false] at hr
    rcases hr with rfl | rfl | rfl
    · exact recOk_small (by omega) (by omega) (by omega)
    · exact recOk_small (by omega) (by omega) (by omega)
    · exact recOk_small (by omega) (by omega) (by omega)) (by simp) (t4.pure ka)
  rw [window_known] at c
  refine c.mono ?_
  clear c
  rintro e w5 ⟨v5, rfl, r5, _, _, k5⟩
  have k25 : Kept none' w2 w5 := ((k3.trans k4).trans ka).new k5 (fun i hi e => by unfold one at e; have : up w3.heap.size m := hm; have := k3.size; omega)
  obtain ⟨a5, c5, rfl, _, _⟩ := r5.len
  have K5 := Lib.hid (And.intro (K2.out.1.trans k25) (And.intro (K2.out.2.pure k25) r5))
  clear k3 k4 ka k5 k25 n3 t4 r5 hm
  go_wp2_with fail
  obtain ⟨W6, hW6⟩ : ∃ W6, ((w5.alloc (.cells #[.int .i64 2, .int .i64 0, .int .i64 1] 46)).alloc (.cells #[.int .i64 1, .int .i64 0, .int .i64 2] 46)).alloc (.cells #[.slice (some ⟨w5.heap.size, 0, none⟩) 1 1, .slice (some ⟨w5.heap.size + 1, 0, none⟩) 1 1] 42) = W6 := ⟨_, rfl⟩
  have k6 : Kept none' w5 W6 := by rw [← hW6]; exact (((Kept.refl _ _).alloc _).alloc _).alloc _
  have r6 : Rows2 W6 (.slice (some ⟨w5.heap.size + 1 + 1, 0, none⟩) 2 2) [[⟨2, 0, 1⟩], [⟨1, 0, 2⟩]] := by
    have h1 := (Reads.lit w5 (recs [⟨2, 0, 1⟩]) 46 3 1 rfl (by unfold maxLen; omega)).pure ((Kept.refl none' _).alloc (.cells #[.int .i64 1, .int .i64 0, .int .i64 2] 46))
    have h2 := Reads.lit (w5.alloc (.cells #[.int .i64 2, .int .i64 0, .int .i64 1] 46)) (recs [⟨1, 0, 2⟩]) 46 3 1 rfl (by unfold maxLen; omega)
    rw [World.size_alloc] at h2
    have h3 := Rows2.two h1 h2
    rw [World.size_alloc, World.size_alloc] at h3
    rw [← hW6]; exact h3
  rw [hW6]
  have c := gets_any #[.string ⟨#[]⟩, .int .u8 8, .slice none 0 0, .int .u8 0, .int .i64 0, .slice none 0 0, .int .i64 0] ⟨8, .mk 0 0 [], 0⟩ _ [[⟨2, 0, 1⟩], [⟨1, 0, 2⟩]] W6 ⟨_, _, _, _, rfl, ExAt.leaf _ 0 (by omega) (by omega), by simp, by simp, zero_r64⟩ r6 (by simp) (by simp)
  rw [gets_known] at c
  refine c.mono ?_
  clear c
  rintro e w7 ⟨v7, rfl, r7, _, k7⟩
  obtain ⟨a7, c7, rfl, _, _⟩ := r7.len
  have k57 := k6.trans k7
  have K7 := Lib.hid (And.intro (K5.out.1.trans k57) (And.intro (K5.out.2.1.pure k57) (And.intro (K5.out.2.2.pure k57) r7)))
  clear k6 k7 k57 r6 r7 hW6
  go_wp2_with fail
  (with_reducible refine (works17 w7).mono ?_)
  rintro e w8 ⟨rfl, k8⟩
  have K8 := Lib.hid k8
  clear k8
  go_wp2_with fail
  have c := equalRec _ _ [⟨8, 5, 2⟩, ⟨9, 5, 3⟩] [⟨8, 5, 2⟩, ⟨9, 5, 3⟩] _ ((K7.out.2.1.pure K8.out).pure ((Kept.refl none' _).alloc _)) (Reads.lit w8 (recs [⟨8, 5, 2⟩, ⟨9, 5, 3⟩]) 46 3 2 rfl (by unfold maxLen; omega))
  refine c.mono ?_
  clear c
  rintro e w9 ⟨rfl, k9⟩
  rw [show eqR [⟨8, 5, 2⟩, ⟨9, 5, 3⟩] [⟨8, 5, 2⟩, ⟨9, 5, 3⟩] = true from decide_eq_true rfl]
  have K9 := Lib.hid (K8.out.trans (((Kept.refl none' _).alloc _).trans k9))
  clear k9
  go_wp2_with fail
  have c := equalRec _ _ [⟨3, 5, 6⟩] [⟨3, 5, 6⟩] _ ((K7.out.2.2.1.pure K9.out).pure ((Kept.refl none' _).alloc _)) (Reads.lit w9 (recs [⟨3, 5, 6⟩]) 46 3 1 rfl (by unfold maxLen; omega))
  refine c.mono ?_
  clear c
  rintro e w10 ⟨rfl, k10⟩
  rw [show eqR [⟨3, 5, 6⟩] [⟨3, 5, 6⟩] = true from decide_eq_true rfl]
  have K10 := Lib.hid (K9.out.trans (((Kept.refl none' _).alloc _).trans k10))
  clear k10
  go_wp2_with fail
  have c := equalRec _ _ [⟨9, 0, 2⟩, ⟨16, 0, 1⟩] [⟨9, 0, 2⟩, ⟨16, 0, 1⟩] _ ((K7.out.2.2.2.pure K10.out).pure ((Kept.refl none' _).alloc _)) (Reads.lit w10 (recs [⟨9, 0, 2⟩, ⟨16, 0, 1⟩]) 46 3 2 rfl (by unfold maxLen; omega))
  refine c.mono ?_
  clear c
  rintro e w11 ⟨rfl, k11⟩
  rw [show eqR [⟨9, 0, 2⟩, ⟨16, 0, 1⟩] [⟨9, 0, 2⟩, ⟨16, 0, 1⟩] = true from decide_eq_true rfl]
  have F := Lib.hid (show Gives w (.bool true) (.returned (.bool true)) w11 from ⟨rfl, K7.out.1.trans (K10.out.trans (((Kept.refl none' _).alloc _).trans k11))⟩)
  clear k11
  go_wp2_with fail
  go_ret
  exact F.out
end Go.Proofs.Ytaalpijohdlabaa
namespace Go.Proofs.Ytaalpijohdlabaa.operKnown
open Go.ChangeShapes Go.WideShapes Go.ChangeAt Go.RowKit
set_option linter.unusedVariables false

set_option maxRecDepth 100000 in
theorem lifted (os : Os) (started : os.Started) (H : Type) (enc : TypeId × Value → H) :
    ReturnsInHanded {} Try.checked os 6 .any (Rows.operKnownSpec.pre6 enc Try.prog Try.f6 Rows.operKnownRow.domain false) (Rows.operKnownSpec.post enc Try.prog Try.f6 false true false false) := by
  refine lifted_all Try.func6 rfl (by kernel_rfl) (by kernel_rfl) (by kernel_rfl) (fun H ds hl => ?_) ?_ os started H enc (ChangeSpec.witness6 (enc := enc) (C := Try.checked) false ⟨#[], #[], []⟩ 8 (by kernel_rfl) (by kernel_rfl) (by kernel_rfl) (by kernel_rfl))
  · rw [Try.params6] at hl
    match ds, hl with
    | [], _ => rfl
  · intro H enc W base args ds p hA hval hfz
    rw [Try.params6] at hA
    obtain ⟨h1, rfl, rfl⟩ := trodAll_nil hA
    obtain rfl : args = #[] := by cases args; simp_all
    exact known_walk W

theorem over : Rows.operKnownRow.holds Try.pinned (OpenSpec.ofChange Rows.operKnownSpec) :=
  OpenClaim.holds_of_wide 6 Try.f6 rfl rfl rfl rfl rfl rfl rfl ⟨rfl, rfl, rfl, rfl, rfl⟩ rfl rfl rfl rfl rfl (by kernel_rfl) Try.func6 (by kernel_rfl)
    (of_decide_eq_true (by kernel_rfl)) (by unfold Func.isWrapper; first | (rw [if_pos (by decide +kernel)]; kernel_rfl) | (rw [if_neg (by decide +kernel)]; exact ⟨rfl, rfl⟩))
    (fun os started H enc _ => lifted os started H enc)

theorem proved : Rows.OperKnownSaid := over
#print axioms proved
end Go.Proofs.Ytaalpijohdlabaa.operKnown
