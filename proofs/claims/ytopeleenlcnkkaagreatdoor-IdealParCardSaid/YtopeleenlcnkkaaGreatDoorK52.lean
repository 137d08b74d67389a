/-
  The law IdealPar: what comes out hangs not on Par.
-/
import Derived.Test.YtopeleenlcnkkaaGreatDoorK51
set_option linter.unusedVariables false
set_option linter.unusedSimpArgs false
namespace Go.Proofs.YtopeleenlcnkkaaGreatDoor
open Go Go.RowKit
attribute [local irreducible] wpL wpTr H2.wpH
set_option maxRecDepth 100000 in
set_option maxHeartbeats 4000000 in
theorem par_walk (j : Jb) (a : Array Value) (rv : Value) (R : List Rec) (par : Int) (w : World) (mx : Int) (hm : w.cell? ⟨0, 0, none⟩ = some (.int .i64 mx)) (h : JbAt w a j) (hr : Reads w 3 rv (recs R)) (hR : ∀ r ∈ R, RecOk r) (hpr : R64 par) :
    Calls Tryz.prog 8 #[.agg a, rv, .int .i64 par] w (Gives w (.bool true)) := by
  have hJ := h
  obtain ⟨v, rfl, hn, hp⟩ := h
  obtain ⟨na, cap, rfl, h1, h2, h3⟩ := hn.at
  have hjr := hn.jr
  have kA : Kept none' w (w.alloc (.cells #[.int .i64 j.par, .slice na j.nodes.length cap] 24)) := (Kept.refl _ _).alloc _
  have tA : (w.alloc (.cells #[.int .i64 j.par, .slice na j.nodes.length cap] 24)).heap[w.heap.size]? = some (.cells #[.int .i64 j.par, .slice na j.nodes.length cap] 24 (0, 0)) := heap_alloc_new _ _
  obtain ⟨W0, hW0⟩ : ∃ W0, w.alloc (.cells #[.int .i64 j.par, .slice na j.nodes.length cap] 24) = W0 := ⟨_, rfl⟩
  have ch := heavy_any j _ (.slice none 0 0) [] rv R W0 (by rw [← hW0]; exact hJ.pure kA) (Reads.nil _ 2) (fun s hs => by cases hs) (by rw [← hW0]; exact hr.kept kA (fun _ _ h => h))
  have x0 : (w.alloc (.cells #[.int .i64 j.par, .slice na j.nodes.length cap] 24)).cell? ⟨w.heap.size, 0, none⟩ = some (.int .i64 j.par) := cells_at tA (j := 0) rfl
  have x1 : (w.alloc (.cells #[.int .i64 j.par, .slice na j.nodes.length cap] 24)).cell? ⟨w.heap.size, 1, none⟩ = some (.slice na j.nodes.length cap) := cells_at tA (j := 1) rfl
  rw [hW0] at kA tA x0 x1
  obtain ⟨ra, rcap, rfl, r1, r2, r3⟩ := hr.recAt
  unfold maxLen at r2
  have H := Lib.hid (And.intro hJ (And.intro hr (And.intro r3 (And.intro hm (And.intro hjr (And.intro hR (And.intro kA (And.intro tA hpr))))))))
  clear hJ hr r3 hm hjr hR kA tA h3 hn hp hpr
  go_enter Tryz.func8, Tryz.ntmps8
  go_wp2_with fail
  clear hW0
  (with_reducible refine ch.mono ?_)
  clear ch
  rintro e w1 ⟨b, rfl, k1⟩
  cases b with
  | true =>
    have cw := works_any w1 mx ((H.out.2.2.2.2.2.2.1.trans k1).cell (p := ⟨0, 0, none⟩) (fun h => h) H.out.2.2.2.1)
    have KW1 := Lib.hid (H.out.2.2.2.2.2.2.1.trans k1)
    clear k1 x0 x1
    go_wp2_with fail
    (with_reducible refine cw.mono ?_)
    clear cw
    rintro e wz1 ⟨rfl, kz1⟩
    have F1 := Lib.hid (KW1.out.trans kz1)
    clear kz1
    go_wp2_with fail
    go_ret
    exact ⟨rfl, F1.out⟩
  | false =>
    by_cases hp1 : par < 1
    · have cw := works_any w1 mx ((H.out.2.2.2.2.2.2.1.trans k1).cell (p := ⟨0, 0, none⟩) (fun h => h) H.out.2.2.2.1)
      have KW2 := Lib.hid (H.out.2.2.2.2.2.2.1.trans k1)
      clear k1 x0 x1
      go_wp2_with fail
      (with_reducible refine cw.mono ?_)
      clear cw
      rintro e wz2 ⟨rfl, kz2⟩
      have F2 := Lib.hid (KW2.out.trans kz2)
      clear kz2
      go_wp2_with fail
      go_ret
      exact ⟨rfl, F2.out⟩
    by_cases hp2 : 4 < par
    · have cw := works_any w1 mx ((H.out.2.2.2.2.2.2.1.trans k1).cell (p := ⟨0, 0, none⟩) (fun h => h) H.out.2.2.2.1)
      have KW3 := Lib.hid (H.out.2.2.2.2.2.2.1.trans k1)
      clear k1 x0 x1
      go_wp2_with fail
      (with_reducible refine cw.mono ?_)
      clear cw
      rintro e wz3 ⟨rfl, kz3⟩
      have F3 := Lib.hid (KW3.out.trans kz3)
      clear kz3
      go_wp2_with fail
      go_ret
      exact ⟨rfl, F3.out⟩
    have kw := H.out.2.2.2.2.2.2.1.trans k1
    have x0 := k1.cell (p := ⟨w.heap.size, 0, none⟩) (fun h => h) x0
    have x1 := k1.cell (p := ⟨w.heap.size, 1, none⟩) (fun h => h) x1
    have hB : w.heap.size < w1.heap.size := by have := block_lt_of_cell x0; simpa using this
    have cn := newI_any j _ w1 (H.out.1.pure kw)
    have K1 := Lib.hid (And.intro kw k1)
    clear kw k1
    go_wp2_with fail
    (with_reducible refine cn.mono ?_)
    clear cn
    intro e w2 hq
    obtain ⟨q2, er2, rfl⟩ := hq.tuple
    have k2 := hq.keptN
    have x0 := k2.cell (p := ⟨w.heap.size, 0, none⟩) (fun h => h) x0
    have x1 := k2.cell (p := ⟨w.heap.size, 1, none⟩) (fun h => h) x1
    have hB2 : w.heap.size < w2.heap.size := by have := block_lt_of_cell x0; simpa using this
    have k24 : Kept none' w2 (w2.alloc (.cells #[.int .i64 par, .slice na j.nodes.length cap] 24)) := (Kept.refl none' w2).alloc _
    have cn := newI_any { j with par := par } _ _ ((H.out.1.pure (K1.out.1.trans (k2.trans k24))).withPar H.out.2.2.2.2.2.2.2.2)
    have K2 := Lib.hid (And.intro hq (And.intro k2 k24))
    clear hq k2 k24
    go_wp2_with fail
    obtain ⟨W4, hW4⟩ : ∃ W4, (w2.alloc (.cells #[.int .i64 par, .slice na j.nodes.length cap] 24)) = W4 := ⟨_, rfl⟩
    rw [hW4] at cn K2 ⊢
    clear hW4
    (with_reducible refine cn.mono ?_)
    clear cn x0 x1
    intro e w5 hq
    obtain ⟨q5, er5, rfl⟩ := hq.tuple
    have k5 := hq.keptN
    have K5 := Lib.hid (And.intro hq (K1.out.1.trans (K2.out.2.1.trans (K2.out.2.2.trans k5))))
    clear hq k5
    by_cases hz2 : er2 = 0
    · by_cases hz5 : er5 = 0
      · subst hz2 hz5
        go_wp2_with fail
        have hq := K2.out.1
        have hq5 := K5.out.1
        unfold LoadQ at hq hq5
        cases hl : loadP j [] with
        | error er => rw [hl] at hq; obtain ⟨hq1, hq2, _⟩ := hq; injection hq1 with hq1; injection hq1 with hq1; injection hq1 with hq1; injection hq1 with _ hq1; injection hq1 with hq1; injection hq1 with _ hq1; exact absurd hq1.symm hq2
        | ok Ts0 =>
        cases hl5 : loadP { j with par := par } [] with
        | error er => rw [hl5] at hq5; obtain ⟨hq1, hq2, _⟩ := hq5; injection hq1 with hq1; injection hq1 with hq1; injection hq1 with hq1; injection hq1 with _ hq1; injection hq1 with hq1; injection hq1 with _ hq1; exact absurd hq1.symm hq2
        | ok Us0 =>
        rw [hl] at hq
        rw [hl5] at hq5
        obtain rfl : Ts0 = Us0 := load_par (j := j) (k := { j with par := par }) rfl hl hl5
        obtain ⟨b1, m1, pm1, e1, hi1, hm1, hn1, k2⟩ := hq
        obtain ⟨b2, m2, pm2, e2, hi2, hm2, hn2, k5⟩ := hq5
        injection e1 with e1; injection e1 with e1; injection e1 with e1; injection e1 with e1 _; injection e1 with e1; subst e1
        injection e2 with e2; injection e2 with e2; injection e2 with e2; injection e2 with e2 _; injection e2 with e2; subst e2
        obtain ⟨hok, hT0⟩ := load_ok hl
        obtain ⟨hok5, _⟩ := load_ok hl5
        have hsm := jobOk_small hok
        have hr1 := (InRange.of hi1 (Nat.le_trans K1.out.1.size hm1) (fun q T hT => Nat.le_trans K1.out.1.size (hn1 q T hT))).wide (Nat.le_refl _) K2.out.2.2.size
        have hr2 := InRange.of hi2 hm2 hn2
        have hw24 : w.heap.size ≤ W4.heap.size := (K1.out.1.trans (K2.out.2.1.trans K2.out.2.2)).size
        have HI := Lib.hid (And.intro (hi1.pure (K2.out.2.2.trans k5)) (And.intro hi2 (And.intro hok (And.intro hok5 (And.intro hT0 (And.intro hr1 (And.intro hr2 (And.intro hw24 K5.out.2))))))))
        clear hi1 hi2 hm1 hn1 k2 hm2 hn2 k5 hok hok5 hT0 hr1 hr2 hw24 hl hl5
        go_loopg [48] R.length (fun g vi wr => ∃ (k : Nat) (Ts : Tabs), k ≤ R.length ∧ vi = .int .i64 (k : Int) ∧ R.length - k ≤ g ∧ IdlAt wr b1 m1 j Ts pm1 ∧ IdlAt wr b2 m2 { j with par := par } Ts pm2 ∧ TabsOk j.nodes Ts ∧ Kept none' w wr)
        case atStart => exact ⟨0, Ts0, by omega, rfl, by omega, HI.out.1, HI.out.2.1, HI.out.2.2.2.2.1, HI.out.2.2.2.2.2.2.2.2⟩
        case round =>
          obtain ⟨k, Ts, hkl, rfl, hg, hi1, hi2, hT, hkp⟩ := hrel
          have hr1 := HI.out.2.2.2.2.2.1.feed HI.out.2.2.2.2.1 hT
          have hr2 := HI.out.2.2.2.2.2.2.1.feed HI.out.2.2.2.2.1 hT
          by_cases hlt : k < R.length
          · obtain ⟨r, hrk⟩ : ∃ r, R[k]? = some r := ⟨_, List.getElem?_eq_getElem hlt⟩
            obtain ⟨b, off, rfl, hc⟩ := H.out.2.2.1.resolve_left (fun h => by rw [h] at hlt; simp at hlt)
            obtain ⟨c0, c1, c2⟩ := (hc k r hrk).pure hkp
            have hro := H.out.2.2.2.2.2.1 r (List.mem_of_getElem? hrk)
            have ka : Kept none' wr (wr.alloc (.cells #[.int .i64 r.pos, .int .i64 r.key, .int .i64 r.val] 44)) := (Kept.refl _ _).alloc _
            have rB : (wr.alloc (.cells #[.int .i64 r.pos, .int .i64 r.key, .int .i64 r.val] 44)).heap[wr.heap.size]? = some (.cells #[.int .i64 r.pos, .int .i64 r.key, .int .i64 r.val] 44 (0, 0)) := heap_alloc_new _ _
            obtain ⟨WB, hWB⟩ : ∃ WB, wr.alloc (.cells #[.int .i64 r.pos, .int .i64 r.key, .int .i64 r.val] 44) = WB := ⟨_, rfl⟩
            rw [hWB] at ka rB
            have z1 : WB.cell? ⟨wr.heap.size, 1, none⟩ = some (.int .i64 r.key) := cells_at rB (j := 1) rfl
            have z2 : WB.cell? ⟨wr.heap.size, 2, none⟩ = some (.int .i64 r.val) := cells_at rB (j := 2) rfl
            have hS1 : ∀ q, mapsOf Ts pm1 q → ∀ c E f, WB.heap[q]? ≠ some (.cells c E f) := fun q hq => (hi1.pure ka).tabs.maps_no hq
            have hS2 : ∀ q, mapsOf Ts pm2 q → ∀ c E f, WB.heap[q]? ≠ some (.cells c E f) := fun q hq => (hi2.pure ka).tabs.maps_no hq
            have hno : ¬ (mapsOf Ts pm1 wr.heap.size ∨ mapsOf Ts pm2 wr.heap.size) := fun h => h.elim (fun h => hS1 _ h _ _ _ rB) (fun h => hS2 _ h _ _ _ rB)
            have G := Lib.hid (And.intro hg (And.intro (hi1.pure ka) (And.intro (hi2.pure ka) (And.intro hT (And.intro hr1 (And.intro hr2 (And.intro hro (And.intro (hkp.trans ka) hno))))))))
            clear hi1 hi2 hkp hg hc hrk hro ka rB hS1 hS2 hno hT hr1 hr2
            go_wp2_with fail
            try rw [hWB]
            clear hWB c0 c1 c2
            refine wp_region_eager [0, 1, 2, 3, 4, 6, 7, 8, 9, 10, 5, 11, 12, 13] (fun W => Kept (fun q => mapsOf Ts pm1 q ∨ mapsOf Ts pm2 q) WB W) (by kernel_rfl) (by kernel_rfl) rfl (Kept.refl _ _).drew ?_
            simp only [List.map_cons, List.map_nil, List.getElem?_toArray, List.getElem?_cons_zero, List.getElem?_cons_succ, Option.getD_some]
            iterate 10 (apply wpL_float rfl rfl; (intro W hW; have q1 := hW.cell (p := ⟨wr.heap.size, 1, none⟩) G.out.2.2.2.2.2.2.2.2 z1; have q2 := hW.cell (p := ⟨wr.heap.size, 2, none⟩) G.out.2.2.2.2.2.2.2.2 z2; go_simp; rfl); go_frame)
            clear z1 z2
            have kd : Kept none' WB WB.drew := (Kept.refl none' WB).drew
            apply wpL_loud rfl rfl
            intro K hK
            go_wp2_with fail
            (with_reducible refine (feed_any j b1 m1 Ts pm1 r.key r.val _ (G.out.2.1.pure kd) HI.out.2.2.1 H.out.2.2.2.2.1 G.out.2.2.2.1 G.out.2.2.2.2.2.2.1.key G.out.2.2.2.2.2.2.1.val).mono ?_)
            rintro e w6 ⟨v6, rfl, hv6, -, hi6, k6⟩
            have k6' : Kept (fun q => mapsOf Ts pm1 q ∨ mapsOf Ts pm2 q) WB w6 := (k6.drew_left).mono (fun q _ hq => .inl hq)
            obtain ⟨va, vc, rfl⟩ := hv6.slice_form
            go_wp2_with fail
            refine hK _ _ (fun _ => k6') ?_
            clear hK
            have hi26 := IdlAt.beside (G.out.2.2.1.pure kd) G.out.2.2.2.2.2.1 (G.out.2.1.pure kd) G.out.2.2.2.2.1 (.inr (Nat.le_refl _)) k6
            apply wpL_loud rfl rfl
            intro K hK
            go_wp2_with fail
            (with_reducible refine (feed_any { j with par := par } b2 m2 Ts pm2 r.key r.val _ hi26 HI.out.2.2.2.1 H.out.2.2.2.2.1 G.out.2.2.2.1 G.out.2.2.2.2.2.2.1.key G.out.2.2.2.2.2.2.1.val).mono ?_)
            rintro e w7 ⟨v7, rfl, hv7, -, hi7, k7⟩
            obtain ⟨ua, uc, rfl⟩ := hv7.slice_form
            have k7' := k6'.trans (show Kept (fun q => mapsOf Ts pm1 q ∨ mapsOf Ts pm2 q) w6 w7 from k7.mono (fun q _ hq => .inr hq))
            have fo := feedP_ok HI.out.2.2.1 H.out.2.2.2.2.1 G.out.2.2.2.1 G.out.2.2.2.2.2.2.1.key G.out.2.2.2.2.2.2.1.val
            have hi67 := IdlAt.beside hi6 (G.out.2.2.2.2.1.feed G.out.2.2.2.1 fo.1) hi26 G.out.2.2.2.2.2.1 (.inl (Nat.le_refl _)) k7
            have hv67 := hv6.beside (by omega) hi26 k7
            have kw7 := G.out.2.2.2.2.2.1.kept HI.out.2.2.2.2.2.2.2.1 (G.out.2.2.2.2.1.kept (Nat.le_refl _) (G.out.2.2.2.2.2.2.2.1.trans kd) k6) k7
            go_wp2_with fail
            refine hK _ _ (fun _ => k7') ?_
            clear hK
            have c8 := equalRec _ _ _ _ w7 hv67 hv7
            rw [show ({ j with par := par } : Jb).nodes = j.nodes from rfl, eqR_self] at c8
            have Z := Lib.hid (And.intro hi67 (And.intro hi7 (And.intro fo.1 (And.intro kw7 k7'))))
            clear hv6 hv7 hi6 hi7 k6 k7 k6' k7' hi26 hi67 hv67 kw7 fo kd
            apply wpL_loud rfl rfl
            intro K hK
            go_wp2_with fail
            (with_reducible refine c8.mono ?_)
            clear c8
            rintro e w8 ⟨rfl, k8⟩
            go_wp2_with fail
            have kk := Z.out.2.2.2.2.trans k8.pure
            refine hK _ _ (fun _ => kk) ?_
            clear hK
            have Y := Lib.hid (And.intro (Z.out.1.pure k8) (And.intro (Z.out.2.1.pure k8) (And.intro Z.out.2.2.1 (Z.out.2.2.2.1.trans k8))))
            clear k8
            refine wpL_float (v := .bool false) rfl rfl (by intro W hW; go_simp; try rfl) ?_
            go_frame
            refine wpL_nil (fun _ => kk) ?_
            clear kk
            go_wp2_with fail
            go_roundg (R.length - (k + 1))
            case rel => exact ⟨k + 1, _, by omega, by go_num, Nat.le_refl _, Y.out.1, Y.out.2.1, Y.out.2.2.1, Y.out.2.2.2⟩
            case measure => have := G.out.1; omega
          · have cs := states_any j b1 m1 Ts pm1 wr hi1 hT.len (by omega)
            have K2 := Lib.hid (And.intro hi2 (And.intro hT hkp))
            clear hkp hi1 hi2 hg hr1 hr2 hT
            go_wp2_with fail
            (with_reducible refine cs.mono ?_)
            clear cs
            rintro e w6 ⟨v6, rfl, hv6, -, k6⟩
            have cs := states_any { j with par := par } b2 m2 Ts pm2 w6 (K2.out.1.pure k6) K2.out.2.1.len (by show j.nodes.length ≤ 1000; omega)
            have K6 := Lib.hid (And.intro hv6 k6)
            obtain ⟨va, vc, rfl, -⟩ := hv6.stAt
            clear hv6 k6
            go_wp2_with fail
            (with_reducible refine cs.mono ?_)
            clear cs
            rintro e w7 ⟨v7, rfl, hv7, -, k7⟩
            have ce := equalSt _ _ _ _ w7 (K6.out.1.pure k7) hv7
            rw [show ({ j with par := par } : Jb).nodes = j.nodes from rfl, eqSt_self] at ce
            obtain ⟨ua, uc, rfl, -⟩ := hv7.stAt
            have K7 := Lib.hid (K2.out.2.2.trans (K6.out.2.trans k7))
            clear hv7 k7
            go_wp2_with fail
            (with_reducible refine ce.mono ?_)
            clear ce
            rintro e w8 ⟨rfl, k8⟩
            have cw := works_any w8 mx ((K7.out.trans k8).cell (p := ⟨0, 0, none⟩) (fun h => h) H.out.2.2.2.1)
            have KW4 := Lib.hid (K7.out.trans k8)
            clear k8
            go_wp2_with fail
            (with_reducible refine cw.mono ?_)
            clear cw
            rintro e wz4 ⟨rfl, kz4⟩
            have F4 := Lib.hid (KW4.out.trans kz4)
            clear kz4
            go_wp2_with fail
            go_ret
            exact ⟨rfl, F4.out⟩
      · subst hz2
        have cw := works_any w5 mx ((K5.out.2).cell (p := ⟨0, 0, none⟩) (fun h => h) H.out.2.2.2.1)
        have KW5 := Lib.hid (K5.out.2)
        go_wp2_with fail
        (with_reducible refine cw.mono ?_)
        clear cw
        rintro e wz5 ⟨rfl, kz5⟩
        have F5 := Lib.hid (KW5.out.trans kz5)
        clear kz5
        go_wp2_with fail
        go_ret
        exact ⟨rfl, F5.out⟩
    · have cw := works_any w5 mx ((K5.out.2).cell (p := ⟨0, 0, none⟩) (fun h => h) H.out.2.2.2.1)
      have KW6 := Lib.hid (K5.out.2)
      go_wp2_with fail
      (with_reducible refine cw.mono ?_)
      clear cw
      rintro e wz6 ⟨rfl, kz6⟩
      have F6 := Lib.hid (KW6.out.trans kz6)
      clear kz6
      go_wp2_with fail
      go_ret
      exact ⟨rfl, F6.out⟩
end Go.Proofs.YtopeleenlcnkkaaGreatDoor
