/-
  OperGets: its walk.
-/
import Derived.Test.YtaalpijohdlabaaGetA
import Derived.Test.YtaalpijohdlabaaHvy
namespace Go.Proofs.Ytaalpijohdlabaa
open Go Go.RowKit
attribute [local irreducible] wpL
theorem OpsAt.nil (w : World) : OpsAt w (.slice none 0 0) [] := ⟨Option.none, 0, rfl, Nat.le_refl _, Nat.zero_le _, by simp, .inl rfl⟩
set_option maxRecDepth 100000 in
set_option maxHeartbeats 2000000 in
theorem gets_walk (na : Array Value) (nd : Nod) (v : Value) (LL : List (List Rec)) (w : World) (hn : NodAt w na nd) (hr : Rows2 w v LL) (hL : ∀ L ∈ LL, L.length ≤ 5864062014805) : Calls Try.prog 7 #[.agg na, v] w (Gives w (.bool true)) := by
  have HN := Lib.hid hn
  have HR := Lib.hid hr
  have HLB := Lib.hid hL
  obtain ⟨uid, inv, p, cap, rfl, hx, hk0, hk1, hn64⟩ := hn
  obtain ⟨vs0, hv0, hrd, hev⟩ := hr
  obtain ⟨pa, n0, pcap, rfl, hc1, hc2, hc3, hcl⟩ := hrd
  have hn0 : n0 = LL.length := by omega
  subst hn0
  clear hx hv0 hc3 hcl hev hL
  go_enter Try.func7, Try.ntmps7
  go_wp2_with fail
  obtain ⟨W0, hW0⟩ : ∃ W0, w.alloc (.cells #[.string uid, .int .u8 nd.kind, inv, .int .u8 nd.x.op, .int .i64 nd.x.n, .slice p nd.x.args.length cap, .int .i64 nd.n] 54) = W0 := ⟨_, rfl⟩
  have q0 : Kept none' w W0 := by rw [← hW0]; exact (Kept.refl _ _).alloc _
  have d0 : W0.cell? ⟨w.heap.size, 0, none⟩ = some (.string uid) := by rw [← hW0]; simp
  have d1 : W0.cell? ⟨w.heap.size, 1, none⟩ = some (.int .u8 nd.kind) := by rw [← hW0]; simp
  have d2 : W0.cell? ⟨w.heap.size, 2, none⟩ = some inv := by rw [← hW0]; simp
  have d3 : W0.cell? ⟨w.heap.size, 3, none⟩ = some (.int .u8 nd.x.op) := by rw [← hW0]; simp
  have d4 : W0.cell? ⟨w.heap.size, 4, none⟩ = some (.int .i64 nd.x.n) := by rw [← hW0]; simp
  have d5 : W0.cell? ⟨w.heap.size, 5, none⟩ = some (.slice p nd.x.args.length cap) := by rw [← hW0]; simp
  have d6 : W0.cell? ⟨w.heap.size, 6, none⟩ = some (.int .i64 nd.n) := by rw [← hW0]; simp
  rw [hW0]
  clear hW0
  have c := hvy_any _ nd (.slice none 0 0) (.slice pa LL.length pcap) [] LL W0 (NodAt.pure q0 HN.out) (OpsAt.nil W0) (HR.out.pure q0) HLB.out
  (with_reducible refine c.mono ?_)
  clear c
  rintro e Wh ⟨b, rfl, hb, kh⟩
  have d0 := kh.cell (p := ⟨w.heap.size, 0, none⟩) (fun h => h) d0
  have d1 := kh.cell (p := ⟨w.heap.size, 1, none⟩) (fun h => h) d1
  have d2 := kh.cell (p := ⟨w.heap.size, 2, none⟩) (fun h => h) d2
  have d3 := kh.cell (p := ⟨w.heap.size, 3, none⟩) (fun h => h) d3
  have d4 := kh.cell (p := ⟨w.heap.size, 4, none⟩) (fun h => h) d4
  have d5 := kh.cell (p := ⟨w.heap.size, 5, none⟩) (fun h => h) d5
  have d6 := kh.cell (p := ⟨w.heap.size, 6, none⟩) (fun h => h) d6
  have kx := q0.trans kh
  obtain ⟨Wz, rfl⟩ : ∃ Wz : World, Wz = W0 := ⟨_, rfl⟩
  obtain ⟨W0, rfl⟩ : ∃ W0 : World, W0 = Wh := ⟨_, rfl⟩
  have K0 := Lib.hid kx
  clear kx q0 kh
  cases b with
  | true =>
    clear hb
    go_wp2_with fail
    (with_reducible refine (works17 W0).mono ?_)
    rintro e W1 ⟨rfl, k1⟩
    go_wp2_with fail
    go_ret
    exact ⟨rfl, K0.out.trans k1⟩
  | false =>
    obtain ⟨hl20, ht, _⟩ := hb rfl
    unfold totL at ht
    have HT := Lib.hid ht
    clear hb
    go_wp2_with fail
    refine wp_region_eager [0, 1, 3, 4, 2, 5, 6, 7, 8, 10, 9, 11, 12, 13, 14, 15, 16, 17, 18] (fun W => Kept none' W0 W) (by kernel_rfl) (by kernel_rfl) rfl (Kept.refl _ _).drew ?_
    simp only [List.map_cons, List.map_nil, List.getElem?_toArray, List.getElem?_cons_zero, List.getElem?_cons_succ, Option.getD_some]
    obtain ⟨FL, hFL⟩ : ∃ FL, LL.flatten = FL := ⟨_, rfl⟩
    have HFL := Lib.hid hFL
    clear hFL
    have KD := Lib.hid (show Kept none' W0 W0.drew from (Kept.refl _ _).drew)
    iterate 4 (apply wpL_float rfl rfl; (intro W hW; have z0 := hW.cell (fun h => h) d0; have z1 := hW.cell (fun h => h) d1; have z2 := hW.cell (fun h => h) d2; have z3 := hW.cell (fun h => h) d3; have z4 := hW.cell (fun h => h) d4; have z5 := hW.cell (fun h => h) d5; have z6 := hW.cell (fun h => h) d6; go_simp; rfl); go_frame)
    apply wpL_loud rfl rfl
    intro K hK
    go_wp2_with fail
    have c := gets_any _ nd (.slice pa LL.length pcap) LL W0.drew (NodAt.pure (K0.out.trans KD.out) HN.out) (HR.out.pure (K0.out.trans KD.out)) (by omega) (by omega)
    (with_reducible refine c.mono ?_)
    clear c
    rintro e W1 ⟨u1, rfl, r1, _, j1⟩
    have k1 : Kept none' W0 W1 := KD.out.trans j1
    obtain ⟨g1, h1, rfl, _, _⟩ := r1.len
    have R1 := Lib.hid r1
    clear r1 j1
    go_wp2_with fail
    refine hK _ _ (fun _ => k1) ?_
    clear hK
    apply wpL_loud rfl rfl
    intro K hK
    go_wp2_with fail
    have c := rgets_any _ nd (.slice pa LL.length pcap) LL W1 (NodAt.pure (K0.out.trans k1) HN.out) (HR.out.pure (K0.out.trans k1)) (by omega) (by omega)
    (with_reducible refine c.mono ?_)
    clear c
    rintro e W2 ⟨u2, rfl, r2, _, j2⟩
    have k2 : Kept none' W0 W2 := k1.trans j2
    obtain ⟨g2, h2, rfl, _, _⟩ := r2.len
    have R2 := Lib.hid (And.intro (R1.out.pure j2) r2)
    clear r2 j2 R1
    go_wp2_with fail
    refine hK _ _ (fun _ => k2) ?_
    clear hK
    apply wpL_loud rfl rfl
    intro K hK
    go_wp2_with fail
    have c := equalRec _ _ _ _ W2 R2.out.1 R2.out.2
    (with_reducible refine c.mono ?_)
    clear c
    rintro e W3 ⟨rfl, j3⟩
    have k3 : Kept none' W0 W3 := k2.trans j3
    rw [show eqR (getsL nd.kind LL) (getsL nd.kind LL) = true from decide_eq_true rfl]
    clear j3 R2
    go_wp2_with fail
    refine hK _ _ (fun _ => k3) ?_
    clear hK
    iterate 3 (apply wpL_float rfl rfl; (intro W hW; go_simp; rfl); go_frame)
    apply wpL_loud rfl rfl
    intro K hK
    go_wp2_with fail
    have c := merge_any (.slice pa LL.length pcap) LL W3 (HR.out.pure (K0.out.trans k3)) (by omega)
    (with_reducible refine c.mono ?_)
    clear c
    rintro e W4 ⟨u4, rfl, r4, _, j4⟩
    have k4 : Kept none' W0 W4 := k3.trans j4
    rw [HFL.out] at r4
    obtain ⟨g4, h4, rfl, _, _⟩ := r4.len
    have R4 := Lib.hid r4
    clear r4 j4
    go_wp2_with fail
    refine hK _ _ (fun _ => k4) ?_
    clear hK
    apply wpL_loud rfl rfl
    intro K hK
    go_wp2_with fail
    have c := concat_any (.slice pa LL.length pcap) LL W4 (HR.out.pure (K0.out.trans k4)) (by omega)
    (with_reducible refine c.mono ?_)
    clear c
    rintro e W5 ⟨u5, rfl, r5, j5⟩
    have k5 : Kept none' W0 W5 := k4.trans j5
    rw [HFL.out] at r5
    have R5 := Lib.hid (And.intro (R4.out.pure j5) (Reads.of_owns r5))
    obtain ⟨g5, h5, rfl⟩ := owns_slice r5
    clear r5 j5 R4
    go_wp2_with fail
    refine hK _ _ (fun _ => k5) ?_
    clear hK
    apply wpL_loud rfl rfl
    intro K hK
    go_wp2_with fail
    have c := rmerge_any _ FL W5 R5.out.2 (by have := HT.out; rw [HFL.out] at this; omega)
    (with_reducible refine c.mono ?_)
    clear c
    rintro e W6 ⟨u6, rfl, r6, _, j6⟩
    have k6 : Kept none' W0 W6 := k5.trans j6
    obtain ⟨g6, h6, rfl, _, _⟩ := r6.len
    have R6 := Lib.hid (And.intro (R5.out.1.pure j6) r6)
    clear r6 j6 R5
    go_wp2_with fail
    refine hK _ _ (fun _ => k6) ?_
    clear hK
    apply wpL_loud rfl rfl
    intro K hK
    go_wp2_with fail
    have c := equalRec _ _ _ _ W6 R6.out.1 R6.out.2
    (with_reducible refine c.mono ?_)
    clear c
    rintro e W7 ⟨rfl, j7⟩
    have k7 : Kept none' W0 W7 := k6.trans j7
    rw [show eqR (smerge FL) (smerge FL) = true from decide_eq_true rfl]
    clear j7 R6
    go_wp2_with fail
    refine hK _ _ (fun _ => k7) ?_
    clear hK
    iterate 2 (apply wpL_float rfl rfl; (intro W hW; go_simp; rfl); go_frame)
    apply wpL_loud rfl rfl
    intro K hK
    go_wp2_with fail
    have c := works17 W7
    (with_reducible refine c.mono ?_)
    clear c
    rintro e W8 ⟨rfl, j8⟩
    have k8 : Kept none' W0 W8 := k7.trans j8
    go_wp2_with fail
    refine hK _ _ (fun _ => k8) ?_
    clear hK
    iterate 2 (apply wpL_float rfl rfl; (intro W hW; go_simp; rfl); go_frame)
    refine wpL_nil (fun _ => k8) ?_
    have F := Lib.hid (show Gives w (.bool true) (.returned (.bool true)) W8 from ⟨rfl, K0.out.trans k8⟩)
    go_wp2_with fail
    go_ret
    exact F.out
end Go.Proofs.Ytaalpijohdlabaa
