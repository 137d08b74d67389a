/-
  The law ShadowFirst.
-/
import Derived.Test.YtopeleenlcnkkaaGreatDoorK51
set_option linter.unusedVariables false
set_option linter.unusedSimpArgs false
namespace Go.Proofs.YtopeleenlcnkkaaGreatDoor
open Go Go.RowKit
attribute [local irreducible] wpL wpTr H2.wpH
theorem sl_take49 {w : World} {a : Option Addr} {n cap k : Nat} (hn : n ≤ cap) (hk : k ≤ n) :
  (Instr.slice 49 (.slice a n cap) none (some (.int .i64 (k : Int))) none).run Tryz.prog w = .ok (.slice a k cap) w := by
 have hb : (Instr.sliceBounds true n cap none (some (.int .i64 (k : Int))) none).run Tryz.prog w = .ok (0, k, cap) w := by
  simp [Instr.sliceBounds, Instr.sliceBound, asIntOf]
  intro h; omega
 have hs : ∀ w : World, (sizeOf 86).run Tryz.prog w = .ok 3 w := fun w => by kernel_rfl
 simp only [Instr.slice, Sem.run_bind, run_underlying Tryz.underlying49, Result.andThen_ok, hb, hs, Sem.run_pure]
 cases a with
 | none => simp
 | some a => simp [Addr.add]
theorem take_recs {w : World} {a : Option Addr} {n cap k : Nat} {L : List Rec} (h : Reads w 3 (.slice a n cap) (recs L)) (hk : k ≤ n) : Reads w 3 (.slice a k cap) (recs (L.take k)) := (sl_take h hk).2
set_option maxRecDepth 100000 in
set_option maxHeartbeats 4000000 in
theorem first_walk (sa sb : Side) (va ua vb ub lv : Value) (L : List Rec) (par : Int) (w : World) (mx : Int) (hm : w.cell? ⟨0, 0, none⟩ = some (.int .i64 mx)) (ha : SideAt w va ua sa) (hb : SideAt w vb ub sb) (hl : Reads w 3 lv (recs L)) (hL : ∀ r ∈ L, RecOk r) (hpr : R64 par) :
  Calls Tryz.prog 7 #[.agg #[.int .i64 sa.1.par, va, ua], .agg #[.int .i64 sb.1.par, vb, ub], lv, .int .i64 par] w (Gives w (.bool true)) := by
 obtain ⟨⟨va1, va2, hva⟩, ⟨ua1, ua2, hua⟩⟩ := ha.slices
 obtain ⟨⟨vb1, vb2, hvb⟩, ⟨ub1, ub2, hub⟩⟩ := hb.slices
 subst hva hua hvb hub
 obtain ⟨la, lcap, hlv, l1, l2, -⟩ := hl.recAt
 subst hlv
 unfold maxLen at l2
 have kA : Kept none' w ((w.alloc (.cells #[.int .i64 sa.1.par, (.slice va1 sa.1.nodes.length va2), (.slice ua1 sa.2.length ua2)] 48)).alloc (.cells #[.int .i64 sb.1.par, (.slice vb1 sb.1.nodes.length vb2), (.slice ub1 sb.2.length ub2)] 48)) := ((Kept.refl _ _).alloc _).alloc _
 have t0 : ((w.alloc (.cells #[.int .i64 sa.1.par, (.slice va1 sa.1.nodes.length va2), (.slice ua1 sa.2.length ua2)] 48)).alloc (.cells #[.int .i64 sb.1.par, (.slice vb1 sb.1.nodes.length vb2), (.slice ub1 sb.2.length ub2)] 48)).heap[w.heap.size]? = some (.cells #[.int .i64 sa.1.par, (.slice va1 sa.1.nodes.length va2), (.slice ua1 sa.2.length ua2)] 48 (0, 0)) := ((Kept.refl none' _).alloc _).heap (heap_alloc_new w _) (fun h => h)
 have t1 : ((w.alloc (.cells #[.int .i64 sa.1.par, (.slice va1 sa.1.nodes.length va2), (.slice ua1 sa.2.length ua2)] 48)).alloc (.cells #[.int .i64 sb.1.par, (.slice vb1 sb.1.nodes.length vb2), (.slice ub1 sb.2.length ub2)] 48)).heap[w.heap.size + 1]? = some (.cells #[.int .i64 sb.1.par, (.slice vb1 sb.1.nodes.length vb2), (.slice ub1 sb.2.length ub2)] 48 (0, 0)) := by
  have := heap_alloc_new (w.alloc (.cells #[.int .i64 sa.1.par, (.slice va1 sa.1.nodes.length va2), (.slice ua1 sa.2.length ua2)] 48)) (.cells #[.int .i64 sb.1.par, (.slice vb1 sb.1.nodes.length vb2), (.slice ub1 sb.2.length ub2)] 48)
  rwa [World.size_alloc] at this
 obtain ⟨W1, hW1⟩ : ∃ W1, ((w.alloc (.cells #[.int .i64 sa.1.par, (.slice va1 sa.1.nodes.length va2), (.slice ua1 sa.2.length ua2)] 48)).alloc (.cells #[.int .i64 sb.1.par, (.slice vb1 sb.1.nodes.length vb2), (.slice ub1 sb.2.length ub2)] 48)) = W1 := ⟨_, rfl⟩
 rw [hW1] at kA t0 t1
 have ch := heavy25_any sa sb _ _ _ _ _ L W1 (ha.pure kA) (hb.pure kA) (hl.pure kA)
 have H := Lib.hid (And.intro hm (And.intro ha (And.intro hb (And.intro hl (And.intro hL (And.intro hpr (And.intro kA (And.intro t0 t1))))))))
 have HW := Lib.hid hW1
 clear hm ha hb hl hL hpr kA t0 t1 hW1
 go_enter Tryz.func7, Tryz.ntmps7
 go_wp2_with fail
 rw [HW.out]
 clear HW
 (with_reducible refine ch.mono ?_)
 clear ch
 rintro e w1 ⟨b, rfl, k1, h60⟩
 cases b with
 | true =>
  have cw := works25_any w1 mx ((H.out.2.2.2.2.2.2.1.trans k1).cell (p := ⟨0, 0, none⟩) (fun h => h) H.out.1)
  have KW8 := Lib.hid (H.out.2.2.2.2.2.2.1.trans k1)
  clear k1 h60
  go_wp2_with fail
  (with_reducible refine cw.mono ?_)
  clear cw
  rintro e wz8 ⟨rfl, kz8⟩
  have F8 := Lib.hid (KW8.out.trans kz8)
  clear kz8
  go_wp2_with fail
  go_ret
  exact ⟨rfl, F8.out⟩
 | false =>
  have hlen := h60 rfl
  by_cases hp1 : par < 0
  ·have cw := works25_any w1 mx ((H.out.2.2.2.2.2.2.1.trans k1).cell (p := ⟨0, 0, none⟩) (fun h => h) H.out.1)
   have KW9 := Lib.hid (H.out.2.2.2.2.2.2.1.trans k1)
   clear k1 h60
   go_wp2_with fail
   (with_reducible refine cw.mono ?_)
   clear cw
   rintro e wz9 ⟨rfl, kz9⟩
   have F9 := Lib.hid (KW9.out.trans kz9)
   clear kz9
   go_wp2_with fail
   go_ret
   exact ⟨rfl, F9.out⟩
  by_cases hp2 : (L.length : Int) < par
  ·have cw := works25_any w1 mx ((H.out.2.2.2.2.2.2.1.trans k1).cell (p := ⟨0, 0, none⟩) (fun h => h) H.out.1)
   have KW10 := Lib.hid (H.out.2.2.2.2.2.2.1.trans k1)
   clear k1 h60
   go_wp2_with fail
   (with_reducible refine cw.mono ?_)
   clear cw
   rintro e wz10 ⟨rfl, kz10⟩
   have F10 := Lib.hid (KW10.out.trans kz10)
   clear kz10
   go_wp2_with fail
   go_ret
   exact ⟨rfl, F10.out⟩
  obtain ⟨k, rfl⟩ := Int.eq_ofNat_of_zero_le (show 0 ≤ par by omega)
  have hkL : k ≤ L.length := by omega
  have t0 := k1.heap H.out.2.2.2.2.2.2.2.1 (fun h => h)
  have t1 := k1.heap H.out.2.2.2.2.2.2.2.2 (fun h => h)
  have p0 := cells_at t0 (j := 0) (v := .int .i64 sa.1.par) rfl
  have p1 := cells_at t0 (j := 1) (v := .slice va1 sa.1.nodes.length va2) rfl
  have p2 := cells_at t0 (j := 2) (v := .slice ua1 sa.2.length ua2) rfl
  have r0 := cells_at t1 (j := 0) (v := .int .i64 sb.1.par) rfl
  have r1 := cells_at t1 (j := 1) (v := .slice vb1 sb.1.nodes.length vb2) rfl
  have r2 := cells_at t1 (j := 2) (v := .slice ub1 sb.2.length ub2) rfl
  have hsz : w.heap.size + 1 < w1.heap.size := (Array.getElem?_eq_some_iff.1 t1).1
  have hszA : w.heap.size < w1.heap.size := by omega
  have kw := H.out.2.2.2.2.2.2.1.trans k1
  have c1 := ideals_any sa sb _ _ _ _ _ L w1 (H.out.2.1.pure kw) (H.out.2.2.1.pure kw) (H.out.2.2.2.1.pure kw) H.out.2.2.2.2.1 hlen
  obtain ⟨V1, hV1⟩ : ∃ V1, idealsP sa sb (L.map pairR) = V1 := ⟨_, rfl⟩
  obtain ⟨⟨b1, n1, m1⟩, e1⟩ := V1
  rw [hV1] at c1
  have K1 := Lib.hid k1
  have HV1 := Lib.hid hV1
  clear kw k1 hV1 h60 t0 t1
  go_wp2_with fail
  (with_reducible refine c1.mono ?_)
  clear c1 p0 p1 p2 r0 r1 r2
  rintro e w2 ⟨rfl, k2⟩
  unfold verdC
  have kx := K1.out.trans k2
  have t0 := kx.heap H.out.2.2.2.2.2.2.2.1 (fun h => h)
  have t1 := kx.heap H.out.2.2.2.2.2.2.2.2 (fun h => h)
  have p0 := cells_at t0 (j := 0) (v := .int .i64 sa.1.par) rfl
  have p1 := cells_at t0 (j := 1) (v := .slice va1 sa.1.nodes.length va2) rfl
  have p2 := cells_at t0 (j := 2) (v := .slice ua1 sa.2.length ua2) rfl
  have r0 := cells_at t1 (j := 0) (v := .int .i64 sb.1.par) rfl
  have r1 := cells_at t1 (j := 1) (v := .slice vb1 sb.1.nodes.length vb2) rfl
  have r2 := cells_at t1 (j := 2) (v := .slice ub1 sb.2.length ub2) rfl
  have hsz : w.heap.size + 1 < w2.heap.size := (Array.getElem?_eq_some_iff.1 t1).1
  have hszA : w.heap.size < w2.heap.size := by omega
  have v0 := heap_alloc_new w2 (.cells #[.bool b1, .int .i64 n1, .int .i64 m1] 52)
  have kB : Kept none' w2 (w2.alloc (.cells #[.bool b1, .int .i64 n1, .int .i64 m1] 52)) := (Kept.refl _ _).alloc _
  obtain ⟨V2, hV2⟩ : ∃ V2, idealsP sa sb ((L.take k).map pairR) = V2 := ⟨_, rfl⟩
  obtain ⟨⟨b2, n2, m2⟩, e2⟩ := V2
  have herr := ideals_err (a := sa) (b := sb) (l := L.map pairR) (m := (L.take k).map pairR)
  rw [HV1.out, hV2] at herr
  dsimp only at herr
  subst herr
  have HV2 := Lib.hid hV2
  have hsl := fun W => sl_take49 (w := W) (a := la) (n := L.length) (cap := lcap) (k := k) l1 hkL
  have K2 := Lib.hid (And.intro (kx.trans kB) v0)
  clear k2 kx kB v0 hV2 t0 t1
  go_wp2_with fail
  obtain ⟨WB, hWB⟩ : ∃ WB, (w2.alloc (.cells #[.bool b1, .int .i64 n1, .int .i64 m1] 52)) = WB := ⟨_, rfl⟩
  rw [hWB] at K2
  try rw [hWB]
  have hsB : WB.heap.size = w2.heap.size + 1 := by rw [← hWB]; simp
  clear hWB p0 p1 p2 r0 r1 r2
  have t0 := K2.out.1.heap H.out.2.2.2.2.2.2.2.1 (fun h => h)
  have t1 := K2.out.1.heap H.out.2.2.2.2.2.2.2.2 (fun h => h)
  have p0 := cells_at t0 (j := 0) (v := .int .i64 sa.1.par) rfl
  have p1 := cells_at t0 (j := 1) (v := .slice va1 sa.1.nodes.length va2) rfl
  have p2 := cells_at t0 (j := 2) (v := .slice ua1 sa.2.length ua2) rfl
  have r0 := cells_at t1 (j := 0) (v := .int .i64 sb.1.par) rfl
  have r1 := cells_at t1 (j := 1) (v := .slice vb1 sb.1.nodes.length vb2) rfl
  have r2 := cells_at t1 (j := 2) (v := .slice ub1 sb.2.length ub2) rfl
  have hsz : w.heap.size + 1 < WB.heap.size := (Array.getElem?_eq_some_iff.1 t1).1
  have hszA : w.heap.size < WB.heap.size := by omega
  have y0 := cells_at K2.out.2 (j := 0) (v := .bool b1) rfl
  clear t0 t1
  refine wp_region_tree (fun W => Kept none' WB W) (by kernel_rfl) (by kernel_rfl) (Kept.drew (Kept.refl none' WB)) ?_
  refine wpTr_float (k := 0) (by kernel_rfl) rfl rfl (fun W hW => by have a0 := hW.cell (p := ⟨w.heap.size, 0, none⟩) (fun h => h) p0; have a1 := hW.cell (p := ⟨w.heap.size, 1, none⟩) (fun h => h) p1; have a2 := hW.cell (p := ⟨w.heap.size, 2, none⟩) (fun h => h) p2; go_simp; rfl) ?_
  go_frame
  refine wpTr_float (k := 1) (by kernel_rfl) rfl rfl (fun W hW => by have a0 := hW.cell (p := ⟨w.heap.size + 1, 0, none⟩) (fun h => h) r0; have a1 := hW.cell (p := ⟨w.heap.size + 1, 1, none⟩) (fun h => h) r1; have a2 := hW.cell (p := ⟨w.heap.size + 1, 2, none⟩) (fun h => h) r2; go_simp; rfl) ?_
  go_frame
  refine wpTr_float (k := 2) (by kernel_rfl) rfl rfl (fun W hW => by go_simp; rfl) ?_
  go_frame
  refine wpTr_float (k := 3) (by kernel_rfl) rfl rfl (fun W hW => by go_simp; rfl) ?_
  go_frame
  refine wpTr_float (k := 4) (by kernel_rfl) rfl rfl (fun W hW => by go_simp; rfl) ?_
  go_frame
  clear p0 p1 p2 r0 r1 r2 y0 hsl
  refine wpTr_two (i := 5) (k := 9) (by kernel_rfl) (by kernel_rfl) rfl rfl rfl rfl ?brA ?brB
  case' brA =>
   intro K hK
   go_wp2_with fail
   have kc := H.out.2.2.2.2.2.2.1.trans (K2.out.1.trans (Kept.drew (Kept.refl none' WB)))
   have cI := ideals_any sa sb _ _ _ _ (.slice la k lcap) (L.take k) WB.drew (H.out.2.1.pure kc) (H.out.2.2.1.pure kc) (take_recs (H.out.2.2.2.1.pure kc) hkL) (fun r hr => H.out.2.2.2.2.1 r (List.mem_of_mem_take hr)) (by rw [List.length_take]; omega)
   rw [HV2.out] at cI
   clear kc
   (with_reducible refine cI.mono ?_)
   clear cI
   rintro e w3 ⟨rfl, k3⟩
   unfold verdC
   go_wp2_with fail
   have k3' : Kept none' WB w3 := (Kept.drew (Kept.refl none' WB)).trans k3
   refine hK _ _ k3' ?_
   clear hK k3
   refine wpTr_float (k := 6) (by kernel_rfl) rfl rfl (fun W hW => by go_simp; rfl) ?_
   go_frame
   refine wpTr_float (k := 7) (by kernel_rfl) rfl rfl (fun W hW => by go_simp; rfl) ?_
   go_frame
   refine wpTr_float (k := 8) (by kernel_rfl) rfl rfl (fun W hW => by go_simp; rfl) ?_
   go_frame
   refine wpTr_loud (k := 9) (by kernel_rfl) (by kernel_rfl) rfl rfl ?_
   intro K hK
   go_wp2_with fail
   refine hK _ _ (k3'.alloc _) ?_
   clear hK
   refine wpTr_loud (k := 10) (by kernel_rfl) (by kernel_rfl) rfl rfl ?_
   intro K hK
   go_wp2_with fail
   refine hK _ _ (k3'.alloc _) ?_
   clear hK
   refine wpTr_float (k := 11) (by kernel_rfl) rfl rfl (fun W hW => by go_simp; rfl) ?_
   go_frame
   refine wpTr_nil (by kernel_rfl) (k3'.alloc _) ?_
   have k5 : Kept none' WB (w3.alloc (.cells #[.bool b2, .int .i64 n2, .int .i64 m2] 52)) := k3'.alloc _
   have u0 := heap_alloc_new w3 (.cells #[.bool b2, .int .i64 n2, .int .i64 m2] 52)
   have hWs : w2.heap.size < w3.heap.size := by have := k3'.size; omega
   obtain ⟨W5, hW5⟩ : ∃ W5, (w3.alloc (.cells #[.bool b2, .int .i64 n2, .int .i64 m2] 52)) = W5 := ⟨_, rfl⟩
   rw [hW5] at k5 u0
   rw [hW5]
   clear hW5 k3'
   have K5 := Lib.hid (K2.out.1.trans k5)
   have x0 := k5.heap K2.out.2 (fun h => h)
   have y0 := cells_at x0 (j := 0) (v := .bool b1) rfl
   have q0 := cells_at u0 (j := 0) (v := .bool b2) rfl
   have q1 := cells_at u0 (j := 1) (v := .int .i64 n2) rfl
   have q2 := cells_at u0 (j := 2) (v := .int .i64 m2) rfl
   have t0 := K5.out.heap H.out.2.2.2.2.2.2.2.1 (fun h => h)
   have t1 := K5.out.heap H.out.2.2.2.2.2.2.2.2 (fun h => h)
   have p0 := cells_at t0 (j := 0) (v := .int .i64 sa.1.par) rfl
   have p1 := cells_at t0 (j := 1) (v := .slice va1 sa.1.nodes.length va2) rfl
   have p2 := cells_at t0 (j := 2) (v := .slice ua1 sa.2.length ua2) rfl
   have r0 := cells_at t1 (j := 0) (v := .int .i64 sb.1.par) rfl
   have r1 := cells_at t1 (j := 1) (v := .slice vb1 sb.1.nodes.length vb2) rfl
   have r2 := cells_at t1 (j := 2) (v := .slice ub1 sb.2.length ub2) rfl
   have hsz : w.heap.size + 1 < W5.heap.size := (Array.getElem?_eq_some_iff.1 t1).1
   have hszA : w.heap.size < W5.heap.size := by omega
   have hs5 : w2.heap.size < W5.heap.size := (Array.getElem?_eq_some_iff.1 x0).1
   clear x0 u0 t0 t1 k5
   by_cases hz : e1 = 0
   ·subst hz
    have h2 := HV2.out
    obtain ⟨cx, cy, hcm⟩ := ideals_ok (a := sa) (b := sb) (l := (L.take k).map pairR) (by rw [h2])
    rw [h2] at hcm
    dsimp only at hcm
    have hmay := compareV_may cx cy
    rw [← hcm] at hmay
    dsimp only at hmay
    have HMY := Lib.hid hmay
    clear h2 hcm hmay
    cases b1 with
    | true =>
     have hsym := ideals_symm (a := sa) (b := sb) (l := L.map pairR) (by rw [HV1.out])
     rw [HV1.out] at hsym
     have kc := H.out.2.2.2.2.2.2.1.trans K5.out
     have cI := ideals_any sb sa _ _ _ _ _ L W5 (H.out.2.2.1.pure kc) (H.out.2.1.pure kc) (H.out.2.2.2.1.pure kc) H.out.2.2.2.2.1 hlen
     rw [← hsym] at cI
     clear kc hsym
     go_wp2_with fail
     (with_reducible refine cI.mono ?_)
     clear cI p0 p1 p2 r0 r1 r2 y0 q0 q1 q2
     rintro e w6 ⟨rfl, k6⟩
     unfold verdC
     have kC : Kept none' w6 (w6.alloc (.cells #[.bool true, .int .i64 n1, .int .i64 m1] 52)) := (Kept.refl _ _).alloc _
     have cw := works25_any (w6.alloc (.cells #[.bool true, .int .i64 n1, .int .i64 m1] 52)) mx ((H.out.2.2.2.2.2.2.1.trans (K5.out.trans (k6.trans kC))).cell (p := ⟨0, 0, none⟩) (fun h => h) H.out.1)
     have KW11 := Lib.hid (H.out.2.2.2.2.2.2.1.trans (K5.out.trans (k6.trans kC)))
     clear k6 kC
     go_wp2_with fail
     (with_reducible refine cw.mono ?_)
     clear cw
     rintro e wz11 ⟨rfl, kz11⟩
     have F11 := Lib.hid (KW11.out.trans kz11)
     clear kz11
     go_wp2_with fail
     go_ret
     exact ⟨rfl, F11.out⟩
    | false =>
     cases b2 with
     | true =>
      have cw := works25_any W5 mx ((H.out.2.2.2.2.2.2.1.trans K5.out).cell (p := ⟨0, 0, none⟩) (fun h => h) H.out.1)
      have KW12 := Lib.hid (H.out.2.2.2.2.2.2.1.trans K5.out)
      go_wp2_with fail
      (with_reducible refine cw.mono ?_)
      clear cw
      rintro e wz12 ⟨rfl, kz12⟩
      have F12 := Lib.hid (KW12.out.trans kz12)
      clear kz12
      go_wp2_with fail
      go_ret
      exact ⟨rfl, F12.out⟩
     | false =>
      obtain ⟨g1, g2, g3⟩ := HMY.out.resolve_left (by simp)
      have cw := works25_any W5 mx ((H.out.2.2.2.2.2.2.1.trans K5.out).cell (p := ⟨0, 0, none⟩) (fun h => h) H.out.1)
      have KW13 := Lib.hid (H.out.2.2.2.2.2.2.1.trans K5.out)
      go_wp2_with fail
      (with_reducible refine cw.mono ?_)
      clear cw
      rintro e wz13 ⟨rfl, kz13⟩
      have F13 := Lib.hid (KW13.out.trans kz13)
      clear kz13
      go_wp2_with fail
      go_ret
      exact ⟨rfl, F13.out⟩
   ·have cw := works25_any W5 mx ((H.out.2.2.2.2.2.2.1.trans K5.out).cell (p := ⟨0, 0, none⟩) (fun h => h) H.out.1)
    have KW14 := Lib.hid (H.out.2.2.2.2.2.2.1.trans K5.out)
    go_wp2_with fail
    (with_reducible refine cw.mono ?_)
    clear cw
    rintro e wz14 ⟨rfl, kz14⟩
    have F14 := Lib.hid (KW14.out.trans kz14)
    clear kz14
    go_wp2_with fail
    go_ret
    exact ⟨rfl, F14.out⟩
  case' brB =>
   intro K hK
   go_wp2_with fail
   refine hK _ _ ((Kept.drew (Kept.refl none' WB)).alloc _) ?_
   clear hK
   refine wpTr_loud (k := 5) (by kernel_rfl) (by kernel_rfl) rfl rfl ?_
   intro K hK
   go_wp2_with fail
   have kc := H.out.2.2.2.2.2.2.1.trans (K2.out.1.trans ((Kept.refl none' WB).alloc (.cells #[.bool false, .int .i64 0, .int .i64 0] 52)).drew)
   have cI := ideals_any sa sb _ _ _ _ (.slice la k lcap) (L.take k) (WB.alloc (.cells #[.bool false, .int .i64 0, .int .i64 0] 52)).drew (H.out.2.1.pure kc) (H.out.2.2.1.pure kc) (take_recs (H.out.2.2.2.1.pure kc) hkL) (fun r hr => H.out.2.2.2.2.1 r (List.mem_of_mem_take hr)) (by rw [List.length_take]; omega)
   rw [HV2.out] at cI
   clear kc
   (with_reducible refine cI.mono ?_)
   clear cI
   rintro e w3 ⟨rfl, k3⟩
   unfold verdC
   go_wp2_with fail
   have k3' : Kept none' WB w3 := (((Kept.refl none' WB).alloc (.cells #[.bool false, .int .i64 0, .int .i64 0] 52)).drew).trans k3
   have u3 := k3.heap (show (WB.alloc (.cells #[.bool false, .int .i64 0, .int .i64 0] 52)).drew.heap[WB.heap.size]? = some (.cells #[.bool false, .int .i64 0, .int .i64 0] 52 (0, 0)) from heap_alloc_new WB (.cells #[.bool false, .int .i64 0, .int .i64 0] 52)) (fun h => h)
   rw [hsB] at u3
   have hu3 : w2.heap.size + 1 < w3.heap.size := (Array.getElem?_eq_some_iff.1 u3).1
   refine hK _ _ k3' ?_
   clear hK k3
   refine wpTr_float (k := 6) (by kernel_rfl) rfl rfl (fun W hW => by go_simp; rfl) ?_
   go_frame
   refine wpTr_float (k := 7) (by kernel_rfl) rfl rfl (fun W hW => by go_simp; rfl) ?_
   go_frame
   refine wpTr_float (k := 8) (by kernel_rfl) rfl rfl (fun W hW => by go_simp; rfl) ?_
   go_frame
   have k5 : Kept none' WB (((w3.setCell ⟨w2.heap.size + 1, 0, none⟩ (.bool b2)).setCell ⟨w2.heap.size + 1, 1, none⟩ (.int .i64 n2)).setCell ⟨w2.heap.size + 1, 2, none⟩ (.int .i64 m2)) := ((k3'.setCell (p := ⟨w2.heap.size + 1, 0, none⟩) (.inr (show WB.heap.size ≤ w2.heap.size + 1 by omega)) _).setCell (p := ⟨w2.heap.size + 1, 1, none⟩) (.inr (show WB.heap.size ≤ w2.heap.size + 1 by omega)) _).setCell (p := ⟨w2.heap.size + 1, 2, none⟩) (.inr (show WB.heap.size ≤ w2.heap.size + 1 by omega)) _
   have u0 := set_at (set_at (set_at u3 0 (.bool b2)) 1 (.int .i64 n2)) 2 (.int .i64 m2)
   have g0 := free_at u3 0
   have g1 := free_at u3 1
   have g2 := free_at u3 2
   have f0 := cells_at u3 (j := 0) (v := .bool false) rfl
   have f1 := cells_at u3 (j := 1) (v := .int .i64 0) rfl
   have f2 := cells_at u3 (j := 2) (v := .int .i64 0) rfl
   refine wpTr_loud (k := 10) (by kernel_rfl) (by kernel_rfl) rfl rfl ?_
   intro K hK
   go_wp2_with fail
   refine hK _ _ (k5) ?_
   clear hK
   refine wpTr_float (k := 11) (by kernel_rfl) rfl rfl (fun W hW => by go_simp; rfl) ?_
   go_frame
   refine wpTr_nil (by kernel_rfl) (k5) ?_
   clear g0 g1 g2 f0 f1 f2 u3
   obtain ⟨W5, hW5⟩ : ∃ W5, (((w3.setCell ⟨w2.heap.size + 1, 0, none⟩ (.bool b2)).setCell ⟨w2.heap.size + 1, 1, none⟩ (.int .i64 n2)).setCell ⟨w2.heap.size + 1, 2, none⟩ (.int .i64 m2)) = W5 := ⟨_, rfl⟩
   rw [hW5] at k5 u0
   rw [hW5]
   have hu5 : w2.heap.size + 1 < W5.heap.size := (Array.getElem?_eq_some_iff.1 u0).1
   clear hW5 k3'
   have K5 := Lib.hid (K2.out.1.trans k5)
   have x0 := k5.heap K2.out.2 (fun h => h)
   have y0 := cells_at x0 (j := 0) (v := .bool b1) rfl
   have q0 := cells_at u0 (j := 0) (v := .bool b2) rfl
   have q1 := cells_at u0 (j := 1) (v := .int .i64 n2) rfl
   have q2 := cells_at u0 (j := 2) (v := .int .i64 m2) rfl
   have t0 := K5.out.heap H.out.2.2.2.2.2.2.2.1 (fun h => h)
   have t1 := K5.out.heap H.out.2.2.2.2.2.2.2.2 (fun h => h)
   have p0 := cells_at t0 (j := 0) (v := .int .i64 sa.1.par) rfl
   have p1 := cells_at t0 (j := 1) (v := .slice va1 sa.1.nodes.length va2) rfl
   have p2 := cells_at t0 (j := 2) (v := .slice ua1 sa.2.length ua2) rfl
   have r0 := cells_at t1 (j := 0) (v := .int .i64 sb.1.par) rfl
   have r1 := cells_at t1 (j := 1) (v := .slice vb1 sb.1.nodes.length vb2) rfl
   have r2 := cells_at t1 (j := 2) (v := .slice ub1 sb.2.length ub2) rfl
   have hsz : w.heap.size + 1 < W5.heap.size := (Array.getElem?_eq_some_iff.1 t1).1
   have hszA : w.heap.size < W5.heap.size := by omega
   have hs5 : w2.heap.size < W5.heap.size := (Array.getElem?_eq_some_iff.1 x0).1
   clear x0 u0 t0 t1 k5
   by_cases hz : e1 = 0
   ·subst hz
    have h2 := HV2.out
    obtain ⟨cx, cy, hcm⟩ := ideals_ok (a := sa) (b := sb) (l := (L.take k).map pairR) (by rw [h2])
    rw [h2] at hcm
    dsimp only at hcm
    have hmay := compareV_may cx cy
    rw [← hcm] at hmay
    dsimp only at hmay
    have HMY := Lib.hid hmay
    clear h2 hcm hmay
    cases b1 with
    | true =>
     have hsym := ideals_symm (a := sa) (b := sb) (l := L.map pairR) (by rw [HV1.out])
     rw [HV1.out] at hsym
     have kc := H.out.2.2.2.2.2.2.1.trans K5.out
     have cI := ideals_any sb sa _ _ _ _ _ L W5 (H.out.2.2.1.pure kc) (H.out.2.1.pure kc) (H.out.2.2.2.1.pure kc) H.out.2.2.2.2.1 hlen
     rw [← hsym] at cI
     clear kc hsym
     go_wp2_with fail
     (with_reducible refine cI.mono ?_)
     clear cI p0 p1 p2 r0 r1 r2 y0 q0 q1 q2
     rintro e w6 ⟨rfl, k6⟩
     unfold verdC
     have kC : Kept none' w6 (w6.alloc (.cells #[.bool true, .int .i64 n1, .int .i64 m1] 52)) := (Kept.refl _ _).alloc _
     have cw := works25_any (w6.alloc (.cells #[.bool true, .int .i64 n1, .int .i64 m1] 52)) mx ((H.out.2.2.2.2.2.2.1.trans (K5.out.trans (k6.trans kC))).cell (p := ⟨0, 0, none⟩) (fun h => h) H.out.1)
     have KW15 := Lib.hid (H.out.2.2.2.2.2.2.1.trans (K5.out.trans (k6.trans kC)))
     clear k6 kC
     go_wp2_with fail
     (with_reducible refine cw.mono ?_)
     clear cw
     rintro e wz15 ⟨rfl, kz15⟩
     have F15 := Lib.hid (KW15.out.trans kz15)
     clear kz15
     go_wp2_with fail
     go_ret
     exact ⟨rfl, F15.out⟩
    | false =>
     cases b2 with
     | true =>
      have cw := works25_any W5 mx ((H.out.2.2.2.2.2.2.1.trans K5.out).cell (p := ⟨0, 0, none⟩) (fun h => h) H.out.1)
      have KW16 := Lib.hid (H.out.2.2.2.2.2.2.1.trans K5.out)
      go_wp2_with fail
      (with_reducible refine cw.mono ?_)
      clear cw
      rintro e wz16 ⟨rfl, kz16⟩
      have F16 := Lib.hid (KW16.out.trans kz16)
      clear kz16
      go_wp2_with fail
      go_ret
      exact ⟨rfl, F16.out⟩
     | false =>
      obtain ⟨g1, g2, g3⟩ := HMY.out.resolve_left (by simp)
      have cw := works25_any W5 mx ((H.out.2.2.2.2.2.2.1.trans K5.out).cell (p := ⟨0, 0, none⟩) (fun h => h) H.out.1)
      have KW17 := Lib.hid (H.out.2.2.2.2.2.2.1.trans K5.out)
      go_wp2_with fail
      (with_reducible refine cw.mono ?_)
      clear cw
      rintro e wz17 ⟨rfl, kz17⟩
      have F17 := Lib.hid (KW17.out.trans kz17)
      clear kz17
      go_wp2_with fail
      go_ret
      exact ⟨rfl, F17.out⟩
   ·have cw := works25_any W5 mx ((H.out.2.2.2.2.2.2.1.trans K5.out).cell (p := ⟨0, 0, none⟩) (fun h => h) H.out.1)
    have KW18 := Lib.hid (H.out.2.2.2.2.2.2.1.trans K5.out)
    go_wp2_with fail
    (with_reducible refine cw.mono ?_)
    clear cw
    rintro e wz18 ⟨rfl, kz18⟩
    have F18 := Lib.hid (KW18.out.trans kz18)
    clear kz18
    go_wp2_with fail
    go_ret
    exact ⟨rfl, F18.out⟩
end Go.Proofs.YtopeleenlcnkkaaGreatDoor
