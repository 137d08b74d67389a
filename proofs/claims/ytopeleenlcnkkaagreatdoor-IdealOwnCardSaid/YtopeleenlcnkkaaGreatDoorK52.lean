/-
  slices.Equal at states.
-/
import Derived.Test.YtopeleenlcnkkaaGreatDoorK51
import Derived.Test.YtopeleenlcnkkaaGreatDoorK22
import Derived.Test.YtopeleenlcnkkaaGreatDoorK41
set_option linter.unusedVariables false
set_option linter.unusedSimpArgs false
namespace Go.Proofs.YtopeleenlcnkkaaGreatDoor
open Go Go.RowKit
attribute [local irreducible] wpL
end Go.Proofs.YtopeleenlcnkkaaGreatDoor
/-
  WHAT COMES OUT OF MANY RECORDS, IN PLAIN WORDS: by parts; held side by side.
-/
namespace Go.Proofs.YtopeleenlcnkkaaGreatDoor
open Go Go.RowKit
def RdNZ {α : Type} (x : Rd α) : Prop := ∀ f, x = .err f → f ≠ 0
theorem RdNZ.bind {α β : Type} {x : Rd α} {g : α → List UInt8 → Rd β} (h : RdNZ x) (k : ∀ a r, RdNZ (g a r)) : RdNZ (x.bind g) := by
  intro f e
  cases x with
  | err d => exact h f (by simp only [Rd.bind] at e; injection e with e; rw [e])
  | ok a r => exact k a r f e
theorem RdNZ.ok {α : Type} (a : α) (r : List UInt8) : RdNZ (Rd.ok a r) := fun _ e => by cases e
end Go.Proofs.YtopeleenlcnkkaaGreatDoor
/-
  IDEALS SIDE BY SIDE: what one does, another one does not feel. Their blocks lie in ranges.
-/
namespace Go.Proofs.YtopeleenlcnkkaaGreatDoor
open Go Go.RowKit
theorem TabsAt.keptS {S : Nat → Prop} {w w' : World} {m : Nat} {Ts : Tabs} {pm : Nat → Nat × Nat} (h : TabsAt w m Ts pm) (hk : Kept S w w') (hS : ∀ k, S k → ∀ c E f, w.heap[k]? ≠ some (.cells c E f)) (hm : ¬ S m)
    (hd : ∀ (i : Nat) (T : Tab), Ts[i]? = some (some T) → ¬ S (pm i).2) : TabsAt w' m Ts pm := by
  obtain ⟨⟨l, h1, h2, h3⟩, h4, h5⟩ := h
  exact ⟨⟨l, h1.kept hk hm, h2, h3⟩, fun i T hT => ⟨(h4 i T hT).1.kept hk (fun q hq _ _ => hS q hq) (hd i T hT), (h4 i T hT).2⟩, h5⟩
theorem IdlAt.keptS {S : Nat → Prop} {w w' : World} {b m : Nat} {j : Jb} {Ts : Tabs} {pm : Nat → Nat × Nat} (h : IdlAt w b m j Ts pm) (hk : Kept S w w') (hS : ∀ k, S k → ∀ c E f, w.heap[k]? ≠ some (.cells c E f)) (hm : ¬ S m)
    (hd : ∀ (i : Nat) (T : Tab), Ts[i]? = some (some T) → ¬ S (pm i).2) : IdlAt w' b m j Ts pm := by
  obtain ⟨⟨v, h1, h2⟩, h3, h4⟩ := h
  exact ⟨⟨v, hk.heap h1 (fun hs => hS b hs _ _ _ h1), h2.kept hk hS⟩, h3, h4.keptS hk hS hm hd⟩
/-- The maps of an ideal lie in [n, k). -/
structure InRange (n k m : Nat) (Ts : Tabs) (pm : Nat → Nat × Nat) : Prop where
  m1 : n ≤ m
  m2 : m < k
  t1 : NewT n Ts pm
  t2 : ∀ (q : Nat) (T : Tab), Ts[q]? = some (some T) → (pm q).2 < k
theorem InRange.of {w : World} {n b m : Nat} {j : Jb} {Ts : Tabs} {pm : Nat → Nat × Nat} (h : IdlAt w b m j Ts pm) (h1 : n ≤ m) (h2 : NewT n Ts pm) : InRange n w.heap.size m Ts pm :=
  ⟨h1, h.tabs.lt, h2, fun q T hT => (h.tabs.tab q T hT).1.lt.1⟩
theorem InRange.wide {n k n' k' m : Nat} {Ts : Tabs} {pm : Nat → Nat × Nat} (h : InRange n k m Ts pm) (h1 : n' ≤ n) (h2 : k ≤ k') : InRange n' k' m Ts pm :=
  ⟨Nat.le_trans h1 h.m1, Nat.lt_of_lt_of_le h.m2 h2, fun q T hT => Nat.le_trans h1 (h.t1 q T hT), fun q T hT => Nat.lt_of_lt_of_le (h.t2 q T hT) h2⟩
theorem InRange.maps {n k m : Nat} {Ts : Tabs} {pm : Nat → Nat × Nat} (h : InRange n k m Ts pm) {q : Nat} (hq : mapsOf Ts pm q) : n ≤ q ∧ q < k := by
  obtain ⟨i, T, hT, rfl⟩ := hq
  exact ⟨h.t1 i T hT, h.t2 i T hT⟩
theorem InRange.kept {w0 w w' : World} {n k m : Nat} {Ts : Tabs} {pm : Nat → Nat × Nat} (h : InRange n k m Ts pm) (hn : w0.heap.size ≤ n) (h0 : Kept none' w0 w) (hk : Kept (mapsOf Ts pm) w w') : Kept none' w0 w' :=
  h0.maps (fun q T hT => Nat.le_trans hn (h.t1 q T hT)) hk
/-- Of a job that keeps nothing all tables are none. -/
theorem own_tabs {nodes : List JN} {Ts Us : Tabs} (h : statesP nodes Ts = []) (hT : TabsOk nodes Ts) (hU : TabsOk nodes Us) : Us = Ts := by
  apply List.ext_getElem?
  intro i
  by_cases hi : i < nodes.length
  · have hd : nodes[i]? = some nodes[i] := List.getElem?_eq_getElem hi
    cases hs : stateful (nodes[i]).kind with
    | false => rw [hT.not i _ hd hs, hU.not i _ hd hs]
    | true =>
      obtain ⟨T, hTi, _⟩ := hT.has i _ hd hs
      have hm : (i, (nodes[i]).uid) = (i, (nodes[i]).uid) := rfl
      have : ((nodes[i]).uid, strOf (putL (tabL T))) ∈ statesP nodes Ts := by
        unfold statesP
        refine List.mem_filterMap.2 ⟨(nodes[i], some T), List.mem_iff_getElem?.2 ⟨i, ?_⟩, rfl⟩
        rw [List.getElem?_zip_eq_some]
        exact ⟨hd, hTi⟩
      rw [h] at this
      cases this
  · rw [List.getElem?_eq_none (by rw [hU.len]; omega), List.getElem?_eq_none (by rw [hT.len]; omega)]
theorem own_maps {nodes : List JN} {Ts : Tabs} (h : statesP nodes Ts = []) (hT : TabsOk nodes Ts) {pm : Nat → Nat × Nat} {k : Nat} : ¬ mapsOf Ts pm k := by
  rintro ⟨i, T, hTi, _⟩
  have hi : i < nodes.length := by rw [← hT.len]; exact (List.getElem?_eq_some_iff.1 hTi).1
  have hd : nodes[i]? = some nodes[i] := List.getElem?_eq_getElem hi
  have : ((nodes[i]).uid, strOf (putL (tabL T))) ∈ statesP nodes Ts := by
    unfold statesP
    refine List.mem_filterMap.2 ⟨(nodes[i], some T), List.mem_iff_getElem?.2 ⟨i, ?_⟩, rfl⟩
    rw [List.getElem?_zip_eq_some]
    exact ⟨hd, hTi⟩
  rw [h] at this
  cases this
theorem jobOk_small {j : Jb} (h : jobOk j = true) : 2 ≤ j.nodes.length ∧ j.nodes.length ≤ 12 := by
  have := (jobOk_get h).1
  unfold headBad at this
  simp only [Bool.or_eq_false_iff, decide_eq_false_iff_not] at this
  omega
theorem eqR_self (O : List Rec) : eqR O O = true := decide_eq_true rfl
end Go.Proofs.YtopeleenlcnkkaaGreatDoor
/-
  The law IdealOwn: of an ideal that keeps nothing each record is fed as into a new one.
-/
namespace Go.Proofs.YtopeleenlcnkkaaGreatDoor
open Go Go.RowKit
attribute [local irreducible] wpL wpTr H2.wpH
set_option maxRecDepth 100000 in
set_option maxHeartbeats 2000000 in
theorem own_walk (j : Jb) (a : Array Value) (rv : Value) (R : List Rec) (w : World) (mx : Int) (hm : w.cell? ⟨0, 0, none⟩ = some (.int .i64 mx)) (h : JbAt w a j) (hr : Reads w 3 rv (recs R)) (hR : ∀ r ∈ R, RecOk r) :
    Calls Tryz.prog 9 #[.agg a, rv] w (Gives w (.bool true)) := by
  have hJ := h
  obtain ⟨v, rfl, hn, hp⟩ := h
  obtain ⟨na, cap, rfl, h1, h2, h3⟩ := hn.at
  have hjr := hn.jr
  have kA : Kept none' w (w.alloc (.cells #[.int .i64 j.par, .slice na j.nodes.length cap] 24)) := (Kept.refl _ _).alloc _
  have tA : (w.alloc (.cells #[.int .i64 j.par, .slice na j.nodes.length cap] 24)).heap[w.heap.size]? = some (.cells #[.int .i64 j.par, .slice na j.nodes.length cap] 24 (0, 0)) := heap_alloc_new _ _
  obtain ⟨W0, hW0⟩ : ∃ W0, w.alloc (.cells #[.int .i64 j.par, .slice na j.nodes.length cap] 24) = W0 := ⟨_, rfl⟩
  have ch := heavy_any j _ (.slice none 0 0) [] rv R W0 (by rw [← hW0]; exact hJ.pure kA) (Reads.nil _ 2) (fun s hs => by cases hs) (by rw [← hW0]; exact hr.kept kA (fun _ _ h => h))
  have x0 : (w.alloc (.cells #[.int .i64 j.par, .slice na j.nodes.length cap] 24)).cell? ⟨w.heap.size, 0, none⟩ = some (.int .i64 j.par) := cells_at tA (j := 0) rfl
  have x1 : (w.alloc (.cells #[.int .i64 j.par, .slice na j.nodes.length cap] 24)).cell? ⟨w.heap.size, 1, none⟩ = some (.slice na j.nodes.length cap) := cells_at tA (j := 1) rfl
  rw [hW0] at kA tA x0 x1
  obtain ⟨ra, rcap, rfl, r1, r2, r3⟩ := hr.recAt
  unfold maxLen at r2
  have H := Lib.hid (And.intro hJ (And.intro hr (And.intro r3 (And.intro hm (And.intro hjr (And.intro hR (And.intro kA tA)))))))
  clear hJ hr r3 hm hjr hR kA tA h3 hn hp
  go_enter Tryz.func9, Tryz.ntmps9
  go_wp2_with fail
  clear hW0
  (with_reducible refine ch.mono ?_)
  clear ch
  rintro e w1 ⟨b, rfl, k1⟩
  cases b with
  | true =>
    have cw := works_any w1 mx ((H.out.2.2.2.2.2.2.1.trans k1).cell (p := ⟨0, 0, none⟩) (fun h => h) H.out.2.2.2.1)
    have K1 := Lib.hid k1
    clear k1
    go_wp2_with fail
    (with_reducible refine cw.mono ?_)
    clear cw
    rintro e w2 ⟨rfl, k2⟩
    have F := Lib.hid (H.out.2.2.2.2.2.2.1.trans (K1.out.trans k2))
    clear k2
    go_wp2_with fail
    go_ret
    exact ⟨rfl, F.out⟩
  | false =>
    have kw := H.out.2.2.2.2.2.2.1.trans k1
    have x0 := k1.cell (p := ⟨w.heap.size, 0, none⟩) (fun h => h) x0
    have x1 := k1.cell (p := ⟨w.heap.size, 1, none⟩) (fun h => h) x1
    have hB : w.heap.size < w1.heap.size := by have := block_lt_of_cell x0; simpa using this
    have cn := newI_any j _ w1 (H.out.1.pure kw)
    have K1 := Lib.hid (And.intro kw k1)
    clear kw k1
    go_wp2_with fail
    (with_reducible refine cn.mono ?_)
    clear cn
    intro e w2 hq
    clear x0 x1
    unfold LoadQ at hq
    cases hl : loadP j [] with
    | error er =>
      rw [hl] at hq
      obtain ⟨rfl, hne, k2⟩ := hq
      have cw := works_any w2 mx ((K1.out.1.trans k2).cell (p := ⟨0, 0, none⟩) (fun h => h) H.out.2.2.2.1)
      have K2 := Lib.hid k2
      clear k2 hl
      go_wp2_with fail
      (with_reducible refine cw.mono ?_)
      clear cw
      rintro e w3 ⟨rfl, k3⟩
      have F := Lib.hid (K1.out.1.trans (K2.out.trans k3))
      clear k3
      go_wp2_with fail
      go_ret
      exact ⟨rfl, F.out⟩
    | ok Ts0 =>
      rw [hl] at hq
      obtain ⟨bi, mi, pm, rfl, hi, hmi, hnt, k2⟩ := hq
      obtain ⟨hok, hT0⟩ := load_ok hl
      have hsm := jobOk_small hok
      have cs := states_any j bi mi Ts0 pm w2 hi hT0.len (by omega)
      have HI := Lib.hid (And.intro hi (And.intro hl (And.intro hok (And.intro hT0 (K1.out.2.trans k2)))))
      clear hi hnt hok hT0 k2 hmi hl hsm
      go_wp2_with fail
      (with_reducible refine cs.mono ?_)
      clear cs
      rintro e w3 ⟨v3, rfl, hr3, -, k3⟩
      obtain ⟨sa, scap, rfl, s1, s2, -⟩ := hr3.stAt
      unfold maxLen at s2
      by_cases h0 : 0 < (statesP j.nodes Ts0).length
      · have cw := works_any w3 mx ((H.out.2.2.2.2.2.2.1.trans (HI.out.2.2.2.2.trans k3)).cell (p := ⟨0, 0, none⟩) (fun h => h) H.out.2.2.2.1)
        have K3 := Lib.hid k3
        clear k3 hr3
        go_wp2_with fail
        (with_reducible refine cw.mono ?_)
        clear cw
        rintro e w4 ⟨rfl, k4⟩
        have F := Lib.hid (H.out.2.2.2.2.2.2.1.trans (HI.out.2.2.2.2.trans (K3.out.trans k4)))
        clear k4
        go_wp2_with fail
        go_ret
        exact ⟨rfl, F.out⟩
      · have hnil : statesP j.nodes Ts0 = [] := List.eq_nil_of_length_eq_zero (by omega)
        have HK := Lib.hid (And.intro (HI.out.1.pure k3) (And.intro hnil (HI.out.2.2.2.2.trans k3)))
        clear k3 hr3 hnil
        go_wp2_with fail
        clear h0
        go_loopg [31] R.length (fun g vi wr => ∃ (k : Nat), k ≤ R.length ∧ vi = .int .i64 (k : Int) ∧ R.length - k ≤ g ∧ IdlAt wr bi mi j Ts0 pm ∧ Kept none' W0 wr)
        case atStart => exact ⟨0, by omega, rfl, by omega, HK.out.1, HK.out.2.2⟩
        case round =>
          obtain ⟨k, hkl, rfl, hg, hi, hkp⟩ := hrel
          by_cases hlt : k < R.length
          · obtain ⟨r, hrk⟩ : ∃ r, R[k]? = some r := ⟨_, List.getElem?_eq_getElem hlt⟩
            obtain ⟨b, off, rfl, hc⟩ := H.out.2.2.1.resolve_left (fun h => by rw [h] at hlt; simp at hlt)
            have kww := H.out.2.2.2.2.2.2.1.trans hkp
            obtain ⟨c0, c1, c2⟩ := (hc k r hrk).pure kww
            have hro := H.out.2.2.2.2.2.1 r (List.mem_of_getElem? hrk)
            have ka : Kept none' wr (wr.alloc (.cells #[.int .i64 r.pos, .int .i64 r.key, .int .i64 r.val] 44)) := (Kept.refl _ _).alloc _
            have ra : (wr.alloc (.cells #[.int .i64 r.pos, .int .i64 r.key, .int .i64 r.val] 44)).heap[wr.heap.size]? = some (.cells #[.int .i64 r.pos, .int .i64 r.key, .int .i64 r.val] 44 (0, 0)) := heap_alloc_new _ _
            have tw := hkp.heap H.out.2.2.2.2.2.2.2 (fun h => h)
            have x0 : wr.cell? ⟨w.heap.size, 0, none⟩ = some (.int .i64 j.par) := cells_at tw (j := 0) rfl
            have x1 : wr.cell? ⟨w.heap.size, 1, none⟩ = some (.slice na j.nodes.length cap) := cells_at tw (j := 1) rfl
            have hB : w.heap.size < wr.heap.size := by have := block_lt_of_cell x0; simpa using this
            have cn := newI_any j _ _ (H.out.1.pure (kww.trans ka))
            have G := Lib.hid (And.intro hg (And.intro (hkp.trans ka) (And.intro (hi.pure ka) (And.intro ra hro))))
            clear hi hkp hg hc hrk hro ka ra tw kww
            go_wp2_with fail
            (with_reducible refine cn.mono ?_)
            clear cn
            intro e w4 hq
            unfold LoadQ at hq
            rw [HI.out.2.1] at hq
            obtain ⟨b4, m4, pm4, rfl, hi4, hm4, hn4, k4⟩ := hq
            have r4 := k4.heap G.out.2.2.2.1 (fun h => h)
            have z1 : w4.cell? ⟨wr.heap.size, 1, none⟩ = some (.int .i64 r.key) := cells_at r4 (j := 1) rfl
            have z2 : w4.cell? ⟨wr.heap.size, 2, none⟩ = some (.int .i64 r.val) := cells_at r4 (j := 2) rfl
            have hB4 : wr.heap.size < w4.heap.size := by have := block_lt_of_cell z1; simpa using this
            have hi1 := G.out.2.2.1.pure k4
            have hT2 := own_tabs HK.out.2.1 HI.out.2.2.2.1 (feedP_ok HI.out.2.2.1 H.out.2.2.2.2.1 HI.out.2.2.2.1 G.out.2.2.2.2.key G.out.2.2.2.2.val).1
            have G4 := Lib.hid (And.intro hi1 (And.intro hi4 (And.intro (G.out.2.1.trans k4) hT2)))
            clear hi4 hm4 hn4 k4 r4 hi1 c0 c1 c2 x0 x1 hT2
            go_wp2_with fail
            refine wp_region_eager [0, 1, 2, 3, 4, 6, 7, 8, 9, 10, 5, 11, 12, 13] (fun W => Kept none' w4 W) (by kernel_rfl) (by kernel_rfl) rfl (Kept.refl _ _).drew ?_
            simp only [List.map_cons, List.map_nil, List.getElem?_toArray, List.getElem?_cons_zero, List.getElem?_cons_succ, Option.getD_some]
            iterate 10 (apply wpL_float rfl rfl; (intro W hW; have q1 := hW.cell (p := ⟨wr.heap.size, 1, none⟩) (fun h => h) z1; have q2 := hW.cell (p := ⟨wr.heap.size, 2, none⟩) (fun h => h) z2; go_simp; rfl); go_frame)
            apply wpL_loud rfl rfl
            intro K hK
            go_wp2_with fail
            (with_reducible refine (feed_any j bi mi Ts0 pm r.key r.val _ (G4.out.1.pure (Kept.refl none' w4).drew) HI.out.2.2.1 H.out.2.2.2.2.1 HI.out.2.2.2.1 G.out.2.2.2.2.key G.out.2.2.2.2.val).mono ?_)
            rintro e w5 ⟨v5, rfl, hv5, -, hi5, k5⟩
            have k5' : Kept none' w4 w5 := (Kept.refl none' w4).drew.trans (k5.mono (fun q _ hq => own_maps HK.out.2.1 HI.out.2.2.2.1 hq))
            obtain ⟨va, vc, rfl⟩ := hv5.slice_form
            go_wp2_with fail
            refine hK _ _ (fun _ => k5') ?_
            clear hK
            apply wpL_loud rfl rfl
            intro K hK
            go_wp2_with fail
            (with_reducible refine (feed_any j b4 m4 Ts0 pm4 r.key r.val _ (G4.out.2.1.pure k5') HI.out.2.2.1 H.out.2.2.2.2.1 HI.out.2.2.2.1 G.out.2.2.2.2.key G.out.2.2.2.2.val).mono ?_)
            rintro e w6 ⟨v6, rfl, hv6, -, -, k6⟩
            have k6' : Kept none' w5 w6 := k6.mono (fun q _ hq => own_maps HK.out.2.1 HI.out.2.2.2.1 hq)
            obtain ⟨ua, uc, rfl⟩ := hv6.slice_form
            go_wp2_with fail
            refine hK _ _ (fun _ => k5'.trans k6') ?_
            clear hK
            have c7 := equalRec _ _ _ _ w6 (hv5.pure k6') hv6
            rw [eqR_self] at c7
            rw [G4.out.2.2.2] at hi5
            have Z := Lib.hid (And.intro (hi5.pure k6') (k5'.trans k6'))
            clear hv5 hv6 hi5 k5 k6 k5' k6'
            apply wpL_loud rfl rfl
            intro K hK
            go_wp2_with fail
            (with_reducible refine c7.mono ?_)
            clear c7
            rintro e w7 ⟨rfl, k7⟩
            go_wp2_with fail
            refine hK _ _ (fun _ => Z.out.2.trans k7) ?_
            clear hK
            have Y := Lib.hid (And.intro (Z.out.1.pure k7) (G4.out.2.2.1.trans (Z.out.2.trans k7)))
            have kk := Z.out.2.trans k7
            clear k7
            refine wpL_float (v := .bool false) rfl rfl (by intro W hW; go_simp; try rfl) ?_
            go_frame
            refine wpL_nil (fun _ => kk) ?_
            clear kk z1 z2
            go_wp2_with fail
            go_roundg (R.length - (k + 1))
            case rel => exact ⟨k + 1, by omega, by go_num, Nat.le_refl _, Y.out.1, Y.out.2⟩
            case measure => have := G.out.1; omega
          · have cw := works_any wr mx ((H.out.2.2.2.2.2.2.1.trans hkp).cell (p := ⟨0, 0, none⟩) (fun h => h) H.out.2.2.2.1)
            have K2 := Lib.hid hkp
            clear hkp hi hg
            go_wp2_with fail
            (with_reducible refine cw.mono ?_)
            clear cw
            rintro e w3 ⟨rfl, k3⟩
            have F := Lib.hid (H.out.2.2.2.2.2.2.1.trans (K2.out.trans k3))
            clear k3
            go_wp2_with fail
            go_ret
            exact ⟨rfl, F.out⟩
end Go.Proofs.YtopeleenlcnkkaaGreatDoor
