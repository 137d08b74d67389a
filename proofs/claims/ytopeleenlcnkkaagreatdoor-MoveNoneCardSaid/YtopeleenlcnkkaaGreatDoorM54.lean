/-
  The law MoveNone.
-/
import Derived.Test.YtopeleenlcnkkaaGreatDoorM51
set_option linter.unusedVariables false
set_option linter.unusedSimpArgs false
namespace Go.Proofs.YtopeleenlcnkkaaGreatDoor
open Go Go.RowKit
attribute [local irreducible] wpL wpTr H2.wpH
set_option maxRecDepth 100000 in
set_option maxHeartbeats 4000000 in
theorem none_walk (a b : Jb) (va vb : Value) (w : World) (mx : Int) (hm : w.cell? ⟨0, 0, none⟩ = some (.int .i64 mx)) (ha : JbAt w #[.int .i64 a.par, va] a) (hb : JbAt w #[.int .i64 b.par, vb] b) :
    Calls Tryz.prog 4 #[.agg #[.int .i64 a.par, va], .agg #[.int .i64 b.par, vb]] w (Gives w (.bool true)) := by
  obtain ⟨va1, va2, hva, -⟩ := ha.nds.at
  obtain ⟨vb1, vb2, hvb, -⟩ := hb.nds.at
  subst hva hvb
  have kA : Kept none' w ((w.alloc (.cells #[.int .i64 a.par, .slice va1 a.nodes.length va2] 24)).alloc (.cells #[.int .i64 b.par, .slice vb1 b.nodes.length vb2] 24)) := ((Kept.refl _ _).alloc _).alloc _
  have t0 : ((w.alloc (.cells #[.int .i64 a.par, .slice va1 a.nodes.length va2] 24)).alloc (.cells #[.int .i64 b.par, .slice vb1 b.nodes.length vb2] 24)).heap[w.heap.size]? = some (.cells #[.int .i64 a.par, .slice va1 a.nodes.length va2] 24 (0, 0)) := ((Kept.refl none' _).alloc _).heap (heap_alloc_new w _) (fun h => h)
  have t1 : ((w.alloc (.cells #[.int .i64 a.par, .slice va1 a.nodes.length va2] 24)).alloc (.cells #[.int .i64 b.par, .slice vb1 b.nodes.length vb2] 24)).heap[w.heap.size + 1]? = some (.cells #[.int .i64 b.par, .slice vb1 b.nodes.length vb2] 24 (0, 0)) := by
    have := heap_alloc_new (w.alloc (.cells #[.int .i64 a.par, .slice va1 a.nodes.length va2] 24)) (.cells #[.int .i64 b.par, .slice vb1 b.nodes.length vb2] 24)
    rwa [World.size_alloc] at this
  obtain ⟨W1, hW1⟩ : ∃ W1, ((w.alloc (.cells #[.int .i64 a.par, .slice va1 a.nodes.length va2] 24)).alloc (.cells #[.int .i64 b.par, .slice vb1 b.nodes.length vb2] 24)) = W1 := ⟨_, rfl⟩
  rw [hW1] at kA t0 t1
  have p0 := cells_at t0 (j := 0) (v := .int .i64 a.par) rfl
  have p1 := cells_at t0 (j := 1) (v := .slice va1 a.nodes.length va2) rfl
  have ch := heavy_any a _ (.slice none 0 0) [] (.slice none 0 0) [] W1 (ha.pure kA) (Reads.nil _ 2) (fun s hs => by cases hs) (Reads.nil _ 3)
  have H := Lib.hid (And.intro hm (And.intro ha (And.intro hb (And.intro kA (And.intro t0 t1)))))
  clear hm ha hb kA t0 t1
  have HW := Lib.hid hW1
  clear hW1
  go_enter Tryz.func4, Tryz.ntmps4
  go_wp2_with fail
  rw [HW.out]
  clear HW
  (with_reducible refine ch.mono ?_)
  clear ch p0 p1
  rintro e w1 ⟨b1, rfl, k1⟩
  have t0 := k1.heap H.out.2.2.2.2.1 (fun h => h)
  have t1 := k1.heap H.out.2.2.2.2.2 (fun h => h)
  have p0 := cells_at t0 (j := 0) (v := .int .i64 a.par) rfl
  have p1 := cells_at t0 (j := 1) (v := .slice va1 a.nodes.length va2) rfl
  have r0 := cells_at t1 (j := 0) (v := .int .i64 b.par) rfl
  have r1 := cells_at t1 (j := 1) (v := .slice vb1 b.nodes.length vb2) rfl
  have hsz : w.heap.size + 1 < w1.heap.size := (Array.getElem?_eq_some_iff.1 t1).1
  have hszA : w.heap.size < w1.heap.size := by omega
  clear t0 t1
  cases b1 with
  | true =>
    have cw := works24_any w1 mx ((H.out.2.2.2.1.trans k1).cell (p := ⟨0, 0, none⟩) (fun h => h) H.out.1)
    have KW7 := Lib.hid (H.out.2.2.2.1.trans k1)
    clear k1 p0 p1 r0 r1
    go_wp2_with fail
    (with_reducible refine cw.mono ?_)
    clear cw
    rintro e wz7 ⟨rfl, kz7⟩
    have F7 := Lib.hid (KW7.out.trans kz7)
    clear kz7
    go_wp2_with fail
    go_ret
    exact ⟨rfl, F7.out⟩
  | false =>
    have ch := heavy_any b _ (.slice none 0 0) [] (.slice none 0 0) [] w1 (H.out.2.2.1.pure (H.out.2.2.2.1.trans k1)) (Reads.nil _ 2) (fun s hs => by cases hs) (Reads.nil _ 3)
    have K1 := Lib.hid k1
    clear k1
    go_wp2_with fail
    (with_reducible refine ch.mono ?_)
    clear ch p0 p1 r0 r1
    rintro e w2 ⟨b2, rfl, k2⟩
    cases b2 with
    | true =>
      have cw := works24_any w2 mx ((H.out.2.2.2.1.trans (K1.out.trans k2)).cell (p := ⟨0, 0, none⟩) (fun h => h) H.out.1)
      have KW8 := Lib.hid (H.out.2.2.2.1.trans (K1.out.trans k2))
      clear k2
      go_wp2_with fail
      (with_reducible refine cw.mono ?_)
      clear cw
      rintro e wz8 ⟨rfl, kz8⟩
      have F8 := Lib.hid (KW8.out.trans kz8)
      clear kz8
      go_wp2_with fail
      go_ret
      exact ⟨rfl, F8.out⟩
    | false =>
      have kx := K1.out.trans k2
      have t0 := kx.heap H.out.2.2.2.2.1 (fun h => h)
      have t1 := kx.heap H.out.2.2.2.2.2 (fun h => h)
      have p0 := cells_at t0 (j := 0) (v := .int .i64 a.par) rfl
      have p1 := cells_at t0 (j := 1) (v := .slice va1 a.nodes.length va2) rfl
      have r0 := cells_at t1 (j := 0) (v := .int .i64 b.par) rfl
      have r1 := cells_at t1 (j := 1) (v := .slice vb1 b.nodes.length vb2) rfl
      have hsz : w.heap.size + 1 < w2.heap.size := (Array.getElem?_eq_some_iff.1 t1).1
      have hszA : w.heap.size < w2.heap.size := by omega
      clear t0 t1
      have cn := newI_any a _ w2 (H.out.2.1.pure (H.out.2.2.2.1.trans kx))
      have K2 := Lib.hid kx
      clear k2 kx
      go_wp2_with fail
      (with_reducible refine cn.mono ?_)
      clear cn p0 p1 r0 r1
      intro e w3 hq
      obtain ⟨q3, er3, rfl⟩ := hq.tuple
      have k3 := hq.keptN
      have kx := K2.out.trans k3
      have t0 := kx.heap H.out.2.2.2.2.1 (fun h => h)
      have t1 := kx.heap H.out.2.2.2.2.2 (fun h => h)
      have p0 := cells_at t0 (j := 0) (v := .int .i64 a.par) rfl
      have p1 := cells_at t0 (j := 1) (v := .slice va1 a.nodes.length va2) rfl
      have r0 := cells_at t1 (j := 0) (v := .int .i64 b.par) rfl
      have r1 := cells_at t1 (j := 1) (v := .slice vb1 b.nodes.length vb2) rfl
      have hsz : w.heap.size + 1 < w3.heap.size := (Array.getElem?_eq_some_iff.1 t1).1
      have hszA : w.heap.size < w3.heap.size := by omega
      clear t0 t1
      have cn := newI_any b _ w3 (H.out.2.2.1.pure (H.out.2.2.2.1.trans kx))
      have K3 := Lib.hid (And.intro hq kx)
      clear hq k3 kx
      go_wp2_with fail
      (with_reducible refine cn.mono ?_)
      clear cn p0 p1 r0 r1
      intro e w4 hq
      obtain ⟨q4, er4, rfl⟩ := hq.tuple
      have k4 := hq.keptN
      have K4 := Lib.hid (And.intro hq (K3.out.2.trans k4))
      clear hq k4
      by_cases hz3 : er3 = 0
      · by_cases hz4 : er4 = 0
        · subst hz3 hz4
          have hq := K3.out.1
          have hq4 := K4.out.1
          unfold LoadQ at hq hq4
          cases hl : loadP a [] with
          | error er => rw [hl] at hq; obtain ⟨hq1, hq2, _⟩ := hq; injection hq1 with hq1; injection hq1 with hq1; injection hq1 with hq1; injection hq1 with _ hq1; injection hq1 with hq1; injection hq1 with _ hq1; exact absurd hq1.symm hq2
          | ok Ts =>
          cases hl4 : loadP b [] with
          | error er => rw [hl4] at hq4; obtain ⟨hq1, hq2, _⟩ := hq4; injection hq1 with hq1; injection hq1 with hq1; injection hq1 with hq1; injection hq1 with _ hq1; injection hq1 with hq1; injection hq1 with _ hq1; exact absurd hq1.symm hq2
          | ok Us =>
          rw [hl] at hq
          rw [hl4] at hq4
          obtain ⟨b3, m3, pm3, e3, hi3, -, -, -⟩ := hq
          obtain ⟨b4, m4, pm4, e4, hi4, -, -, k4⟩ := hq4
          injection e3 with e3; injection e3 with e3; injection e3 with e3; injection e3 with e3 _; injection e3 with e3; subst e3
          injection e4 with e4; injection e4 with e4; injection e4 with e4; injection e4 with e4 _; injection e4 with e4; subst e4
          obtain ⟨ok3, hT3⟩ := load_ok hl
          obtain ⟨ok4, hT4⟩ := load_ok hl4
          obtain ⟨cn1, cn2⟩ := carry_none hl hl4
          have hs3 := jobOk_small ok3
          have hs4 := jobOk_small ok4
          have HI := Lib.hid (And.intro (hi3.pure k4) (And.intro hi4 (And.intro hT3 (And.intro hT4 (And.intro cn1 (And.intro cn2 (And.intro hs3 hs4)))))))
          clear hi3 hi4 k4 hl hl4 ok3 ok4 hT3 hT4 cn1 cn2 hs3 hs4
          have t0 := K4.out.2.heap H.out.2.2.2.2.1 (fun h => h)
          have t1 := K4.out.2.heap H.out.2.2.2.2.2 (fun h => h)
          have p0 := cells_at t0 (j := 0) (v := .int .i64 a.par) rfl
          have p1 := cells_at t0 (j := 1) (v := .slice va1 a.nodes.length va2) rfl
          have r0 := cells_at t1 (j := 0) (v := .int .i64 b.par) rfl
          have r1 := cells_at t1 (j := 1) (v := .slice vb1 b.nodes.length vb2) rfl
          have hsz : w.heap.size + 1 < w4.heap.size := (Array.getElem?_eq_some_iff.1 t1).1
          have hszA : w.heap.size < w4.heap.size := by omega
          clear t0 t1
          go_wp2_with fail
          refine wp_region_eager [0, 1, 2, 3, 4, 5, 6, 7, 8, 9] (fun W => Kept none' w4 W) (by kernel_rfl) (by kernel_rfl) rfl (Kept.refl _ _).drew ?_
          simp only [List.map_cons, List.map_nil, List.getElem?_toArray, List.getElem?_cons_zero, List.getElem?_cons_succ, Option.getD_some]
          iterate 3 (apply wpL_float rfl rfl; (intro W hW; have a0 := hW.cell (p := ⟨w.heap.size, 0, none⟩) (fun h => h) p0; have a1 := hW.cell (p := ⟨w.heap.size, 1, none⟩) (fun h => h) p1; have b0 := hW.cell (p := ⟨w.heap.size + 1, 0, none⟩) (fun h => h) r0; have b1 := hW.cell (p := ⟨w.heap.size + 1, 1, none⟩) (fun h => h) r1; go_simp; rfl); go_frame)
          clear p0 p1 r0 r1
          apply wpL_loud rfl rfl
          intro K hK
          go_wp2_with fail
          have kd : Kept none' w4 w4.drew := (Kept.refl none' w4).drew
          (with_reducible refine (states_any a b3 m3 Ts pm3 w4.drew (HI.out.1.pure ((Kept.refl none' w4).trans kd)) HI.out.2.2.1.len (by have := HI.out.2.2.2.2.2.2.1; omega)).mono ?_)
          rintro e w5 ⟨v5, rfl, hv5, -, k5⟩
          have k5' : Kept none' w4 w5 := kd.trans k5
          have hv := hv5
          obtain ⟨xa, xc, hve, x1, x2, -⟩ := hv.stAt
          subst hve
          unfold maxLen at x2
          go_wp2_with fail
          refine hK _ _ (fun _ => k5') ?_
          clear hK
          have kc := H.out.2.2.2.1.trans (K4.out.2.trans ((Kept.refl none' w4).trans k5'))
          have cc := check_any a b _ _ _ (statesP a.nodes Ts) w5 (H.out.2.1.pure kc) (H.out.2.2.1.pure kc) hv (states_size HI.out.2.2.1 H.out.2.1.nds.uids)
          clear kc hv5 hv k5 kd
          apply wpL_loud rfl rfl
          intro K hK
          go_wp2_with fail
          (with_reducible refine cc.mono ?_)
          clear cc
          rintro e w6 ⟨rfl, k6⟩
          rw [HI.out.2.2.2.2.1]
          unfold emptyS
          have k6' := k5'.trans k6
          go_wp2_with fail
          refine hK _ _ (fun _ => k6') ?_
          clear hK k6 k5'
          iterate 5 (apply wpL_float rfl rfl; (intro W hW; go_simp; rfl); go_frame)
          refine wpL_nil (fun _ => k6') ?_
          have K6 := Lib.hid k6'
          have kx := K4.out.2.trans k6'
          clear k6' x1 x2
          have t0 := kx.heap H.out.2.2.2.2.1 (fun h => h)
          have t1 := kx.heap H.out.2.2.2.2.2 (fun h => h)
          have p0 := cells_at t0 (j := 0) (v := .int .i64 a.par) rfl
          have p1 := cells_at t0 (j := 1) (v := .slice va1 a.nodes.length va2) rfl
          have r0 := cells_at t1 (j := 0) (v := .int .i64 b.par) rfl
          have r1 := cells_at t1 (j := 1) (v := .slice vb1 b.nodes.length vb2) rfl
          have hsz : w.heap.size + 1 < w6.heap.size := (Array.getElem?_eq_some_iff.1 t1).1
          have hszA : w.heap.size < w6.heap.size := by omega
          clear t0 t1
          clear kx
          go_wp2_with fail
          refine wp_region_eager [0, 1, 2, 3, 4, 5, 6, 7, 8, 9] (fun W => Kept none' w6 W) (by kernel_rfl) (by kernel_rfl) rfl (Kept.refl _ _).drew ?_
          simp only [List.map_cons, List.map_nil, List.getElem?_toArray, List.getElem?_cons_zero, List.getElem?_cons_succ, Option.getD_some]
          iterate 3 (apply wpL_float rfl rfl; (intro W hW; have a0 := hW.cell (p := ⟨w.heap.size, 0, none⟩) (fun h => h) p0; have a1 := hW.cell (p := ⟨w.heap.size, 1, none⟩) (fun h => h) p1; have b0 := hW.cell (p := ⟨w.heap.size + 1, 0, none⟩) (fun h => h) r0; have b1 := hW.cell (p := ⟨w.heap.size + 1, 1, none⟩) (fun h => h) r1; go_simp; rfl); go_frame)
          clear p0 p1 r0 r1
          apply wpL_loud rfl rfl
          intro K hK
          go_wp2_with fail
          have kd : Kept none' w6 w6.drew := (Kept.refl none' w6).drew
          (with_reducible refine (states_any a b3 m3 Ts pm3 w6.drew (HI.out.1.pure (K6.out.trans kd)) HI.out.2.2.1.len (by have := HI.out.2.2.2.2.2.2.1; omega)).mono ?_)
          rintro e w7 ⟨v7, rfl, hv7, -, k7⟩
          have k7' : Kept none' w6 w7 := kd.trans k7
          have hv := hv7
          obtain ⟨xa, xc, hve, x1, x2, -⟩ := hv.stAt
          subst hve
          unfold maxLen at x2
          go_wp2_with fail
          refine hK _ _ (fun _ => k7') ?_
          clear hK
          have kc := H.out.2.2.2.1.trans (K4.out.2.trans (K6.out.trans k7'))
          have cc := carry_any a b _ _ _ (statesP a.nodes Ts) w7 (H.out.2.1.pure kc) (H.out.2.2.1.pure kc) hv (states_size HI.out.2.2.1 H.out.2.1.nds.uids) (by have := states_le a.nodes Ts; have := HI.out.2.2.2.2.2.2.1; omega)
          clear kc hv7 hv k7 kd
          apply wpL_loud rfl rfl
          intro K hK
          go_wp2_with fail
          (with_reducible refine cc.mono ?_)
          clear cc
          intro e w8 hq
          rw [HI.out.2.2.2.2.2.1] at hq
          unfold CarryQ at hq
          obtain ⟨v8, rfl, hv8, k8⟩ := hq
          have k8' := k7'.trans k8
          have hv8k := hv8
          obtain ⟨ya, yc, hye, -⟩ := hv8.stAt
          subst hye
          go_wp2_with fail
          refine hK _ _ (fun _ => k8') ?_
          clear hK k8 k7' hv8
          iterate 5 (apply wpL_float rfl rfl; (intro W hW; go_simp; rfl); go_frame)
          refine wpL_nil (fun _ => k8') ?_
          have K8 := Lib.hid (And.intro hv8k (K6.out.trans k8'))
          have cs := states_any b b4 m4 Us pm4 w8 (HI.out.2.1.pure K8.out.2) HI.out.2.2.2.1.len (by have := HI.out.2.2.2.2.2.2.2; omega)
          clear k8' hv8k x1 x2
          go_wp2_with fail
          (with_reducible refine cs.mono ?_)
          clear cs
          rintro e w9 ⟨v9, rfl, hv9, -, k9⟩
          have ce := equalSt _ _ _ _ w9 (K8.out.1.pure k9) hv9
          rw [eqSt_self] at ce
          obtain ⟨za, zc, hze, -⟩ := hv9.stAt
          subst hze
          have K9 := Lib.hid (H.out.2.2.2.1.trans (K4.out.2.trans (K8.out.2.trans k9)))
          clear hv9 k9
          go_wp2_with fail
          (with_reducible refine ce.mono ?_)
          clear ce
          rintro e w10 ⟨rfl, k10⟩
          have cw := works24_any w10 mx ((K9.out.trans k10).cell (p := ⟨0, 0, none⟩) (fun h => h) H.out.1)
          have KW11 := Lib.hid (K9.out.trans k10)
          clear k10
          go_wp2_with fail
          (with_reducible refine cw.mono ?_)
          clear cw
          rintro e wz11 ⟨rfl, kz11⟩
          have F11 := Lib.hid (KW11.out.trans kz11)
          clear kz11
          go_wp2_with fail
          go_ret
          exact ⟨rfl, F11.out⟩
        · subst hz3
          have cw := works24_any w4 mx ((H.out.2.2.2.1.trans K4.out.2).cell (p := ⟨0, 0, none⟩) (fun h => h) H.out.1)
          have KW9 := Lib.hid (H.out.2.2.2.1.trans K4.out.2)
          go_wp2_with fail
          (with_reducible refine cw.mono ?_)
          clear cw
          rintro e wz9 ⟨rfl, kz9⟩
          have F9 := Lib.hid (KW9.out.trans kz9)
          clear kz9
          go_wp2_with fail
          go_ret
          exact ⟨rfl, F9.out⟩
      · have cw := works24_any w4 mx ((H.out.2.2.2.1.trans K4.out.2).cell (p := ⟨0, 0, none⟩) (fun h => h) H.out.1)
        have KW10 := Lib.hid (H.out.2.2.2.1.trans K4.out.2)
        go_wp2_with fail
        (with_reducible refine cw.mono ?_)
        clear cw
        rintro e wz10 ⟨rfl, kz10⟩
        have F10 := Lib.hid (KW10.out.trans kz10)
        clear kz10
        go_wp2_with fail
        go_ret
        exact ⟨rfl, F10.out⟩
end Go.Proofs.YtopeleenlcnkkaaGreatDoor
