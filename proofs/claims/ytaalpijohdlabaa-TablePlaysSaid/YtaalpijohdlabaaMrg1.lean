/-
  OperMerged: its walk.
-/
import Derived.Test.YtaalpijohdlabaaOpeC
import Derived.Test.YtaalpijohdlabaaRow2
namespace Go.Proofs.Ytaalpijohdlabaa
open Go Go.RowKit
attribute [local irreducible] wpL
theorem Rows2.two {w : World} {va vb : Value} {A B : List Rec} (ha : Reads w 3 va (recs A)) (hb : Reads w 3 vb (recs B)) : Rows2 (w.alloc (.cells #[va, vb] 42)) (.slice (some ⟨w.heap.size, 0, none⟩) 2 2) [A, B] := by
  refine ⟨[va, vb], rfl, Reads.lit w [va, vb] 42 1 2 rfl (by unfold maxLen; omega), fun i u L h1 h2 => ?_⟩
  match i, h1, h2 with
  | 0, h1, h2 => cases h1; cases h2; exact ha.pure ((Kept.refl none' w).alloc _)
  | 1, h1, h2 => cases h1; cases h2; exact hb.pure ((Kept.refl none' w).alloc _)
theorem Rows2.one {w : World} {va : Value} {A : List Rec} (ha : Reads w 3 va (recs A)) : Rows2 (w.alloc (.cells #[va] 42)) (.slice (some ⟨w.heap.size, 0, none⟩) 1 1) [A] := by
  refine ⟨[va], rfl, Reads.lit w [va] 42 1 1 rfl (by unfold maxLen; omega), fun i u L h1 h2 => ?_⟩
  match i, h1, h2 with
  | 0, h1, h2 => cases h1; cases h2; exact ha.pure ((Kept.refl none' w).alloc _)
theorem sorted_at {L : List Rec} (h : Sorted L) {j : Nat} {x y : Rec} (hx : L[j]? = some x) (hy : L[j + 1]? = some y) : x.pos ≤ y.pos := by
  obtain ⟨h1, rfl⟩ := List.getElem?_eq_some_iff.1 hx
  obtain ⟨h2, rfl⟩ := List.getElem?_eq_some_iff.1 hy
  exact List.pairwise_iff_getElem.1 h j (j + 1) h1 h2 (by omega)
set_option maxRecDepth 100000 in
set_option maxHeartbeats 2000000 in
theorem merged_walk (va vb : Value) (A B : List Rec) (w : World) (ha : Reads w 3 va (recs A)) (hb : Reads w 3 vb (recs B)) (hla : A.length * 24 ≤ 140737488351232) (hlb : B.length * 24 ≤ 140737488351232) : Calls Try.prog 5 #[va, vb] w (Gives w (.bool true)) := by
  obtain ⟨pa, ca, rfl, a1, a2⟩ := ha.len
  obtain ⟨pb, cb, rfl, b1, b2⟩ := hb.len
  have HAB := Lib.hid (And.intro ha hb)
  clear ha hb
  unfold maxLen at a2 b2
  by_cases hbig : 500 < A.length + B.length
  · have hbi : (500 : Int) < (A.length : Int) + (B.length : Int) := by omega
    go_enter Try.func5, Try.ntmps5
    go_wp2_with fail
    (with_reducible refine (works17 w).mono ?_)
    rintro e w1 ⟨rfl, k1⟩
    go_wp2_with fail
    go_ret
    exact ⟨rfl, k1⟩
  · have hbi : ¬ (500 : Int) < (A.length : Int) + (B.length : Int) := by omega
    go_enter Try.func5, Try.ntmps5
    go_wp2_with fail
    have c := merge_any _ [A, B] (w.alloc (.cells #[.slice pa A.length ca, .slice pb B.length cb] 42)) (Rows2.two HAB.out.1 HAB.out.2) (by simp; omega)
    (with_reducible refine c.mono ?_)
    clear c
    rintro e w1 ⟨v, rfl, r1, _, k1⟩
    have e1 : [A, B].flatten = A ++ B := by simp
    rw [e1] at r1
    obtain ⟨L, hL⟩ : ∃ L, smerge (A ++ B) = L := ⟨_, rfl⟩
    rw [hL] at r1
    have hlen : L.length = A.length + B.length := by rw [← hL, smerge_length, List.length_append]
    have hsorted : Sorted L := hL ▸ smerge_sorted _
    have hLL : smerge L = L := by rw [← hL]; exact smerge_smerge _
    have hmem : ∀ r ∈ L, r ∈ A ++ B := fun r hr => mem_smerge.1 (hL ▸ hr)
    obtain ⟨pv, cv, rfl, v1, v2, v3⟩ := r1.recAt
    unfold maxLen at v2
    have hneq : (((L.length : Nat) : Int) != ((A.length : Nat) : Int) + ((B.length : Nat) : Int)) = false := by rw [hlen]; simp
    have KW := Lib.hid (((Kept.refl none' w).alloc (.cells #[.slice pa A.length ca, .slice pb B.length cb] 42)).trans k1)
    have HL := Lib.hid (And.intro hlen (And.intro hsorted (And.intro hLL (And.intro hmem (And.intro r1 v3)))))
    clear k1 r1 e1 hL hlen hsorted hLL hmem v3
    go_wp2_with fail
    have c := merge_any _ [L] (w1.alloc (.cells #[.slice pv L.length cv] 42)) (Rows2.one HL.out.2.2.2.2.1) (by have := HL.out.1; simp; omega)
    (with_reducible refine c.mono ?_)
    clear c
    rintro e w2 ⟨u, rfl, r2, _, k2⟩
    have e2 : smerge [L].flatten = L := by rw [show [L].flatten = L by simp]; exact HL.out.2.2.1
    rw [e2] at r2
    have k12 : Kept none' w1 w2 := ((Kept.refl none' w1).alloc _).trans k2
    have R2 := Lib.hid r2
    clear e2 k2 r2
    go_wp2_with fail
    have c := equalRec _ _ L L w2 R2.out (HL.out.2.2.2.2.1.pure k12)
    (with_reducible refine c.mono ?_)
    clear c
    rintro e w3 ⟨rfl, k3⟩
    rw [show eqR L L = true from decide_eq_true rfl]
    have K13 := Lib.hid (k12.trans k3)
    have KW3 := Lib.hid (KW.out.trans (k12.trans k3))
    clear k12 k3
    go_wp2_with fail
    have HLAB := Lib.hid (show (A ++ B).length = A.length + B.length by simp)
    have hL500 : L.length ≤ 500 := by have := HL.out.1; omega
    go_loopg [37] (A ++ B).length (fun g vi wr => ∃ k : Nat, k ≤ L.length ∧ vi = .int .i64 (k : Int) ∧ (A ++ B).length - k ≤ g ∧ Kept none' w3 wr)
    case atStart => exact ⟨0, by omega, rfl, by omega, Kept.refl _ _⟩
    case round =>
      obtain ⟨k, hkl, rfl, hg, hkp⟩ := hrel
      by_cases hlt : k < L.length
      · obtain ⟨r, hr⟩ : ∃ r, L[k]? = some r := ⟨_, List.getElem?_eq_getElem hlt⟩
        obtain ⟨b, off, rfl, hc⟩ := HL.out.2.2.2.2.2.resolve_left (fun h => by rw [h] at hr; cases hr)
        have k1r := K13.out.trans hkp
        obtain ⟨q0, q1, q2⟩ := (hc k r hr).pure k1r
        have HLL := Lib.hid (show L.length = (A ++ B).length by rw [HLAB.out]; exact HL.out.1)
        have HG := Lib.hid hg
        have HMEM := Lib.hid (HL.out.2.2.2.1 r (List.mem_of_getElem? hr))
        have HC := Lib.hid (And.intro hc hr)
        have KR := Lib.hid (And.intro k1r hkp)
        clear hc hr k1r hkp hg
        rcases k with _ | j
        · simp only [Nat.zero_mul, Nat.add_zero] at q0 q1 q2
          have hlt0 : (0 : Int) < (L.length : Int) := by omega
          go_wp2_with fail
          obtain ⟨W1, hW1⟩ : ∃ W1, wr.alloc (.cells #[.int .i64 r.pos, .int .i64 r.key, .int .i64 r.val] 46) = W1 := ⟨_, rfl⟩
          have kx : Kept none' wr W1 := by rw [← hW1]; exact (Kept.refl _ _).alloc _
          have d0 : W1.cell? ⟨wr.heap.size, 0, none⟩ = some (.int .i64 r.pos) := by rw [← hW1]; simp
          have d1 : W1.cell? ⟨wr.heap.size, 1, none⟩ = some (.int .i64 r.key) := by rw [← hW1]; simp
          have d2 : W1.cell? ⟨wr.heap.size, 2, none⟩ = some (.int .i64 r.val) := by rw [← hW1]; simp
          have KWW := Lib.hid (KW3.out.trans (KR.out.2.trans kx))
          have KK := Lib.hid (KR.out.2.trans kx)
          rw [hW1]
          clear hW1 kx q0 q1 q2
          refine wp_region_eager [0, 1, 2, 3, 4, 5, 6, 7, 8, 9, 10, 11, 12, 13, 14, 15, 16, 17, 18, 19, 20, 21, 22, 23, 24] (fun W => Kept none' W1 W) (by kernel_rfl) (by kernel_rfl) rfl (Kept.refl _ _).drew ?_
          simp only [List.map_cons, List.map_nil, List.getElem?_toArray, List.getElem?_cons_zero, List.getElem?_cons_succ, Option.getD_some]
          iterate 16 (first | (apply wpL_skip rfl; go_frame) | (apply wpL_float rfl rfl; (intro W hW; have z0 := hW.cell (fun h => h) d0; have z1 := hW.cell (fun h => h) d1; have z2 := hW.cell (fun h => h) d2; go_simp; rfl); go_frame))
          apply wpL_loud rfl rfl
          intro K hK
          go_wp2_with fail
          have c := contains_any _ A r W1.drew (HAB.out.1.pure (KWW.out.trans (Kept.refl _ _).drew))
          refine c.mono ?_
          clear c
          rintro e w3 ⟨rfl, k3⟩
          have k3' : Kept none' W1 w3 := k3.drew_left
          clear k3
          by_cases hA : r ∈ A
          · rw [show decide (r ∈ A) = true from decide_eq_true hA]
            clear hA
            go_wp2_with fail
            refine hK _ _ (fun _ => k3') ?_
            clear hK
            iterate 8 (first | (apply wpL_skip rfl; go_frame) | (apply wpL_float rfl rfl; (intro W hW; have z0 := hW.cell (fun h => h) d0; have z1 := hW.cell (fun h => h) d1; have z2 := hW.cell (fun h => h) d2; go_simp; rfl); go_frame))
            refine wpL_nil (fun _ => k3') ?_
            go_wp2_with fail
            go_roundg ((A ++ B).length - 1)
            case rel => exact ⟨1, by omega, by go_num, Nat.le_refl _, KK.out.trans k3'⟩
            case measure => have := HG.out; have := HLL.out; omega
          · have hB : r ∈ B := by
              have := HMEM.out
              rcases List.mem_append.1 this with h | h
              · exact absurd h hA
              · exact h
            rw [show decide (r ∈ A) = false from decide_eq_false hA]
            have HBB := Lib.hid hB
            clear hA hB
            go_wp2_with fail
            refine hK _ _ (fun _ => k3') ?_
            clear hK
            iterate 4 (first | (apply wpL_skip rfl; go_frame) | (apply wpL_float rfl rfl; (intro W hW; have z0 := hW.cell (fun h => h) d0; have z1 := hW.cell (fun h => h) d1; have z2 := hW.cell (fun h => h) d2; go_simp; rfl); go_frame))
            apply wpL_loud rfl rfl
            intro K hK
            go_wp2_with fail
            have c := contains_any _ B r w3 (HAB.out.2.pure (KWW.out.trans k3'))
            refine c.mono ?_
            clear c
            rintro e w4 ⟨rfl, k4⟩
            have k4' : Kept none' W1 w4 := k3'.trans k4
            clear k4 k3'
            rw [show decide (r ∈ B) = true from decide_eq_true HBB.out]
            go_wp2_with fail
            refine hK _ _ (fun _ => k4') ?_
            clear hK
            iterate 3 (first | (apply wpL_skip rfl; go_frame) | (apply wpL_float rfl rfl; (intro W hW; have z0 := hW.cell (fun h => h) d0; have z1 := hW.cell (fun h => h) d1; have z2 := hW.cell (fun h => h) d2; go_simp; rfl); go_frame))
            refine wpL_nil (fun _ => k4') ?_
            go_wp2_with fail
            go_roundg ((A ++ B).length - 1)
            case rel => exact ⟨1, by omega, by go_num, Nat.le_refl _, KK.out.trans k4'⟩
            case measure => have := HG.out; have := HLL.out; omega
        · obtain ⟨x, hx⟩ : ∃ x, L[j]? = some x := ⟨_, List.getElem?_eq_getElem (by omega)⟩
          obtain ⟨p0, _, _⟩ := (HC.out.1 j x hx).pure KR.out.1
          have hle := sorted_at HL.out.2.1 hx HC.out.2
          have hjl : j < L.length := by omega
          have hwj : IntKind.i64.wrap ((j : Nat) : Int) = ((j : Nat) : Int) := wrapNat (by omega)
          have hjl2 : ((j : Nat) : Int) < (L.length : Int) := by omega
          clear hx
          go_wp2_with fail
          obtain ⟨W1, hW1⟩ : ∃ W1, wr.alloc (.cells #[.int .i64 r.pos, .int .i64 r.key, .int .i64 r.val] 46) = W1 := ⟨_, rfl⟩
          have kx : Kept none' wr W1 := by rw [← hW1]; exact (Kept.refl _ _).alloc _
          have d0 : W1.cell? ⟨wr.heap.size, 0, none⟩ = some (.int .i64 r.pos) := by rw [← hW1]; simp
          have d1 : W1.cell? ⟨wr.heap.size, 1, none⟩ = some (.int .i64 r.key) := by rw [← hW1]; simp
          have d2 : W1.cell? ⟨wr.heap.size, 2, none⟩ = some (.int .i64 r.val) := by rw [← hW1]; simp
          have d3 := kx.cell (p := ⟨b, off + j * 3, none⟩) (fun h => h) p0
          have hnlt : decide (r.pos < x.pos) = false := decide_eq_false (by omega)
          have KWW := Lib.hid (KW3.out.trans (KR.out.2.trans kx))
          have KK := Lib.hid (KR.out.2.trans kx)
          rw [hW1]
          clear hW1 kx q0 q1 q2 p0
          refine wp_region_eager [0, 1, 2, 3, 4, 5, 6, 7, 8, 9, 10, 11, 12, 13, 14, 15, 16, 17, 18, 19, 20, 21, 22, 23, 24] (fun W => Kept none' W1 W) (by kernel_rfl) (by kernel_rfl) rfl (Kept.refl _ _).drew ?_
          simp only [List.map_cons, List.map_nil, List.getElem?_toArray, List.getElem?_cons_zero, List.getElem?_cons_succ, Option.getD_some]
          iterate 16 (first | (apply wpL_skip rfl; go_frame) | (apply wpL_float rfl rfl; (intro W hW; have z0 := hW.cell (fun h => h) d0; have z1 := hW.cell (fun h => h) d1; have z2 := hW.cell (fun h => h) d2; have z3 := hW.cell (fun h => h) d3; go_simp; rfl); go_frame))
          apply wpL_loud rfl rfl
          intro K hK
          go_wp2_with fail
          have c := contains_any _ A r W1.drew (HAB.out.1.pure (KWW.out.trans (Kept.refl _ _).drew))
          refine c.mono ?_
          clear c
          rintro e w3 ⟨rfl, k3⟩
          have k3' : Kept none' W1 w3 := k3.drew_left
          clear k3
          by_cases hA : r ∈ A
          · rw [show decide (r ∈ A) = true from decide_eq_true hA]
            clear hA
            go_wp2_with fail
            refine hK _ _ (fun _ => k3') ?_
            clear hK
            iterate 8 (first | (apply wpL_skip rfl; go_frame) | (apply wpL_float rfl rfl; (intro W hW; have z0 := hW.cell (fun h => h) d0; have z1 := hW.cell (fun h => h) d1; have z2 := hW.cell (fun h => h) d2; have z3 := hW.cell (fun h => h) d3; go_simp; rfl); go_frame))
            refine wpL_nil (fun _ => k3') ?_
            go_wp2_with fail
            go_roundg ((A ++ B).length - (j + 1 + 1))
            case rel => exact ⟨j + 1 + 1, by omega, by go_num, Nat.le_refl _, KK.out.trans k3'⟩
            case measure => have := HG.out; have := HLL.out; omega
          · have hB : r ∈ B := by
              have := HMEM.out
              rcases List.mem_append.1 this with h | h
              · exact absurd h hA
              · exact h
            rw [show decide (r ∈ A) = false from decide_eq_false hA]
            have HBB := Lib.hid hB
            clear hA hB
            go_wp2_with fail
            refine hK _ _ (fun _ => k3') ?_
            clear hK
            iterate 4 (first | (apply wpL_skip rfl; go_frame) | (apply wpL_float rfl rfl; (intro W hW; have z0 := hW.cell (fun h => h) d0; have z1 := hW.cell (fun h => h) d1; have z2 := hW.cell (fun h => h) d2; have z3 := hW.cell (fun h => h) d3; go_simp; rfl); go_frame))
            apply wpL_loud rfl rfl
            intro K hK
            go_wp2_with fail
            have c := contains_any _ B r w3 (HAB.out.2.pure (KWW.out.trans k3'))
            refine c.mono ?_
            clear c
            rintro e w4 ⟨rfl, k4⟩
            have k4' : Kept none' W1 w4 := k3'.trans k4
            clear k4 k3'
            rw [show decide (r ∈ B) = true from decide_eq_true HBB.out]
            go_wp2_with fail
            refine hK _ _ (fun _ => k4') ?_
            clear hK
            iterate 3 (first | (apply wpL_skip rfl; go_frame) | (apply wpL_float rfl rfl; (intro W hW; have z0 := hW.cell (fun h => h) d0; have z1 := hW.cell (fun h => h) d1; have z2 := hW.cell (fun h => h) d2; have z3 := hW.cell (fun h => h) d3; go_simp; rfl); go_frame))
            refine wpL_nil (fun _ => k4') ?_
            go_wp2_with fail
            go_roundg ((A ++ B).length - (j + 1 + 1))
            case rel => exact ⟨j + 1 + 1, by omega, by go_num, Nat.le_refl _, KK.out.trans k4'⟩
            case measure => have := HG.out; have := HLL.out; omega
      · go_wp2_with fail
        (with_reducible refine (works17 wr).mono ?_)
        rintro e w7 ⟨rfl, k7⟩
        go_wp2_with fail
        go_ret
        exact ⟨rfl, KW3.out.trans (hkp.trans k7)⟩
end Go.Proofs.Ytaalpijohdlabaa
