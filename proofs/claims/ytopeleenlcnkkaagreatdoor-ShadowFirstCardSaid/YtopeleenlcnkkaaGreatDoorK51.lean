/-
  Of the laws of the shadow: heavy, sides, works.
-/
import Derived.Test.YtopeleenlcnkkaaGreatDoorK47
set_option linter.unusedVariables false
set_option linter.unusedSimpArgs false
namespace Go.Proofs.YtopeleenlcnkkaaGreatDoor
open Go Go.RowKit
attribute [local irreducible] wpL wpTr H2.wpH
theorem SideAt.pure {w w' : World} {v u : Value} {s : Side} (h : SideAt w v u s) (hk : Kept none' w w') : SideAt w' v u s := ⟨h.1.pure hk, h.2.1.pure hk, h.2.2⟩
def HeavyQ25 (w : World) (n : Nat) (e : Ending) (w' : World) : Prop := ∃ b : Bool, e = .returned (.bool b) ∧ Kept none' w w' ∧ (b = false → n ≤ 60)
set_option maxRecDepth 100000 in
set_option maxHeartbeats 1000000 in
theorem heavy25_any (sa sb : Side) (va ua vb ub lv : Value) (L : List Rec) (w : World) (ha : SideAt w va ua sa) (hb : SideAt w vb ub sb) (hl : Reads w 3 lv (recs L)) :
  Calls Tryz.prog 24 #[.agg #[.int .i64 sa.1.par, va, ua], .agg #[.int .i64 sb.1.par, vb, ub], lv] w (HeavyQ25 w L.length) := by
 obtain ⟨la, lcap, rfl, l1, l2, l3⟩ := hl.recAt
 unfold maxLen at l2
 have kA : Kept none' w ((w.alloc (.cells #[.int .i64 sa.1.par, va, ua] 48)).alloc (.cells #[.int .i64 sb.1.par, vb, ub] 48)) := ((Kept.refl _ _).alloc _).alloc _
 have t0 : ((w.alloc (.cells #[.int .i64 sa.1.par, va, ua] 48)).alloc (.cells #[.int .i64 sb.1.par, vb, ub] 48)).heap[w.heap.size]? = some (.cells #[.int .i64 sa.1.par, va, ua] 48 (0, 0)) := ((Kept.refl none' _).alloc _).heap (heap_alloc_new w _) (fun h => h)
 have t1 : ((w.alloc (.cells #[.int .i64 sa.1.par, va, ua] 48)).alloc (.cells #[.int .i64 sb.1.par, vb, ub] 48)).heap[w.heap.size + 1]? = some (.cells #[.int .i64 sb.1.par, vb, ub] 48 (0, 0)) := by
  have := heap_alloc_new (w.alloc (.cells #[.int .i64 sa.1.par, va, ua] 48)) (.cells #[.int .i64 sb.1.par, vb, ub] 48)
  rwa [World.size_alloc] at this
 obtain ⟨W1, hW1⟩ : ∃ W1, ((w.alloc (.cells #[.int .i64 sa.1.par, va, ua] 48)).alloc (.cells #[.int .i64 sb.1.par, vb, ub] 48)) = W1 := ⟨_, rfl⟩
 rw [hW1] at kA t0 t1
 have p0 := cells_at t0 (j := 0) rfl
 have p1 := cells_at t0 (j := 1) rfl
 have p2 := cells_at t0 (j := 2) rfl
 have ca := heavy_any sa.1 _ ua sa.2 (.slice none 0 0) [] W1 (ha.1.pure kA) (ha.2.1.pure kA) ha.2.2 (Reads.nil _ 3)
 have H := Lib.hid (And.intro hb (And.intro kA t1))
 clear ha hb hl l3 kA t0 t1
 go_enter Tryz.func24, Tryz.ntmps24
 go_wp2_with fail
 try rw [hW1]
 clear hW1
 (with_reducible refine ca.mono ?_)
 clear ca p0 p1 p2
 rintro e w1 ⟨b, rfl, k1⟩
 have kw := H.out.2.1.trans k1
 have t1 := k1.heap H.out.2.2 (fun h => h)
 have r0 := cells_at t1 (j := 0) rfl
 have r1 := cells_at t1 (j := 1) rfl
 have r2 := cells_at t1 (j := 2) rfl
 have hsz : w.heap.size + 1 < w1.heap.size := (Array.getElem?_eq_some_iff.1 t1).1
 cases b with
 | true =>
  have F := Lib.hid kw
  clear kw k1 t1 r0 r1 r2
  go_wp2_with fail
  go_ret
  exact ⟨true, rfl, F.out, fun h => by cases h⟩
 | false =>
  have cb := heavy_any sb.1 _ ub sb.2 (.slice none 0 0) [] w1 (H.out.1.1.pure kw) (H.out.1.2.1.pure kw) H.out.1.2.2 (Reads.nil _ 3)
  have F := Lib.hid kw
  clear kw k1 t1
  go_wp2_with fail
  (with_reducible refine cb.mono ?_)
  clear cb r0 r1 r2
  rintro e w2 ⟨b, rfl, k2⟩
  have F2 := Lib.hid (F.out.trans k2)
  clear k2
  cases b with
  | true =>
   go_wp2_with fail
   go_ret
   exact ⟨true, rfl, F2.out, fun h => by cases h⟩
  | false =>
   go_wp2_with fail
   go_ret
   exact ⟨decide (60 < (L.length : Int)), rfl, F2.out, fun h => by have := of_decide_eq_false h; omega⟩
def sumsS : Side := (⟨2, sumsN⟩, [])
def lessS : Side := (⟨1, lessN⟩, [])
def bothR : List Rec := [⟨0, 5, 2⟩, ⟨1, 5, 4⟩]
def SidesQ (w : World) (e : Ending) (w' : World) : Prop := ∃ va vb lv, e = .returned (.tuple #[.agg #[.int .i64 2, va, .slice none 0 0], .agg #[.int .i64 1, vb, .slice none 0 0], lv]) ∧ SideAt w' va (.slice none 0 0) sumsS ∧ SideAt w' vb (.slice none 0 0) lessS ∧ Reads w' 3 lv (recs bothR) ∧ Kept none' w w'
theorem setCell_same {w : World} {B j : Nat} {cs : Array Value} {E : TypeId} {f : Nat × Nat} {v : Value} (h : w.heap[B]? = some (.cells cs E f)) (hj : cs[j]? = some v) : w.setCell ⟨B, j, none⟩ v = w := by
 have hs := set_at h j v
 have hsame : cs.setIfInBounds j v = cs := by
  apply Array.ext_getElem?
  intro k
  rw [Array.getElem?_setIfInBounds]
  split
  ·rename_i e
   subst e
   rw [hj]
   have := (Array.getElem?_eq_some_iff.1 hj).1
   simp [this]
  ·rfl
 rw [hsame] at hs
 have hh : (w.setCell ⟨B, j, none⟩ v).heap = w.heap := by
  apply Array.ext_getElem?
  intro k
  by_cases hk : k = B
  ·subst hk; rw [hs, h]
  ·exact Below.heap_setCell _ _ _ _ (fun e => hk e)
 show ({ w with heap := (w.setCell ⟨B, j, none⟩ v).heap } : World) = w
 rw [hh]
set_option maxRecDepth 100000 in
set_option maxHeartbeats 2000000 in
theorem sides_any (w : World) (m : Int) (hm : w.cell? ⟨0, 0, none⟩ = some (.int .i64 m)) : Calls Tryz.prog 49 #[] w (SidesQ w) := by
 have kA : Kept none' w ((w.alloc (.cells #[.int .i64 0, .slice none 0 0, .slice none 0 0] 48)).alloc (.cells #[.int .i64 0, .slice none 0 0, .slice none 0 0] 48)) := ((Kept.refl _ _).alloc _).alloc _
 have t0 : ((w.alloc (.cells #[.int .i64 0, .slice none 0 0, .slice none 0 0] 48)).alloc (.cells #[.int .i64 0, .slice none 0 0, .slice none 0 0] 48)).heap[w.heap.size]? = some (.cells #[.int .i64 0, .slice none 0 0, .slice none 0 0] 48 (0, 0)) := ((Kept.refl none' _).alloc _).heap (heap_alloc_new w _) (fun h => h)
 have t1 : ((w.alloc (.cells #[.int .i64 0, .slice none 0 0, .slice none 0 0] 48)).alloc (.cells #[.int .i64 0, .slice none 0 0, .slice none 0 0] 48)).heap[w.heap.size + 1]? = some (.cells #[.int .i64 0, .slice none 0 0, .slice none 0 0] 48 (0, 0)) := by
  have := heap_alloc_new (w.alloc (.cells #[.int .i64 0, .slice none 0 0, .slice none 0 0] 48)) (.cells #[.int .i64 0, .slice none 0 0, .slice none 0 0] 48)
  rwa [World.size_alloc] at this
 obtain ⟨W1, hW1⟩ : ∃ W1, ((w.alloc (.cells #[.int .i64 0, .slice none 0 0, .slice none 0 0] 48)).alloc (.cells #[.int .i64 0, .slice none 0 0, .slice none 0 0] 48)) = W1 := ⟨_, rfl⟩
 rw [hW1] at kA t0 t1
 have c1 := made_any sumsT 2 sumsN W1 sums_parse m (kA.cell (p := ⟨0, 0, none⟩) (fun h => h) hm)
 have H := Lib.hid (And.intro hm (And.intro kA (And.intro t0 t1)))
 clear hm kA t0 t1
 go_enter Tryz.func49, Tryz.ntmps49
 go_wp2_with fail
 try rw [hW1]
 clear hW1
 (with_reducible refine c1.mono ?_)
 clear c1
 rintro e w1 ⟨va, J, lo, D, rfl, hj, hJ, k1⟩
 have hja := hj.job
 obtain ⟨va1, va2, hva⟩ : ∃ a c, va = .slice a 3 c := by obtain ⟨a, c, h, _⟩ := hja.nodes.at; exact ⟨a, c, h⟩
 subst hva
 have t0 := k1.heap H.out.2.2.1 (fun h => h)
 have t1 := k1.heap H.out.2.2.2 (fun h => h)
 have hsz : w.heap.size + 1 < w1.heap.size := (Array.getElem?_eq_some_iff.1 t1).1
 have hs1 : w.heap.size + 1 < W1.heap.size := (Array.getElem?_eq_some_iff.1 H.out.2.2.2).1
 have f0 := cells_at t0 (j := 0) rfl
 have f1 := cells_at t0 (j := 1) rfl
 have g0 := free_at t0 0
 have g1 := free_at t0 1
 have s0 := set_at (set_at t0 0 (.int .i64 2)) 1 (.slice va1 3 va2)
 have kS : Kept (one w.heap.size) w1 ((w1.setCell ⟨w.heap.size, 0, none⟩ (.int .i64 2)).setCell ⟨w.heap.size, 1, none⟩ (.slice va1 3 va2)) := ((Kept.refl (one w.heap.size) _).setCell (p := ⟨w.heap.size, 0, none⟩) (.inl rfl) _).setCell (p := ⟨w.heap.size, 1, none⟩) (.inl rfl) _
 obtain ⟨W2, hW2⟩ : ∃ W2, ((w1.setCell ⟨w.heap.size, 0, none⟩ (.int .i64 2)).setCell ⟨w.heap.size, 1, none⟩ (.slice va1 3 va2)) = W2 := ⟨_, rfl⟩
 rw [hW2] at s0 kS
 have hj2 := hj.keptS kS (fun q hq => by
  unfold one at hq
  have h1 := hj.lt
  refine ⟨by omega, fun e => ?_, fun hD => ?_⟩
  ·obtain ⟨cs, hr, _⟩ := hj.row
   have := (hr.lt q e).1
   omega
  ·have := (hj.dd q hD).1; omega)
 have t1 := kS.heap t1 (fun e => by unfold one at e; omega)
 have kw2 : Kept none' w W2 := (H.out.2.1.trans k1).new kS (fun q hq hs => by unfold one at hs; omega)
 have c2 := made_any lessT 1 lessN W2 less_parse m (kw2.cell (p := ⟨0, 0, none⟩) (fun h => h) H.out.1)
 have hs2 : w.heap.size + 1 < W2.heap.size := (Array.getElem?_eq_some_iff.1 t1).1
 have K2 := Lib.hid (And.intro hj2 (And.intro s0 (And.intro t1 (And.intro kw2 hJ))))
 clear hja t0 k1 hj s0 kS hj2 t1 kw2 hJ
 go_wp2_with fail
 try rw [hW2]
 clear hW2 f0 f1 g0 g1
 (with_reducible refine c2.mono ?_)
 clear c2
 rintro e w3 ⟨vb, J', lo', D', rfl, hj, hJ, k3⟩
 have hja := hj.job
 obtain ⟨vb1, vb2, hvb⟩ : ∃ a c, vb = .slice a 3 c := by obtain ⟨a, c, h, _⟩ := hja.nodes.at; exact ⟨a, c, h⟩
 subst hvb
 have t1 := k3.heap K2.out.2.2.1 (fun h => h)
 have t0 := k3.heap K2.out.2.1 (fun h => h)
 have hsz3 : w.heap.size + 1 < w3.heap.size := (Array.getElem?_eq_some_iff.1 t1).1
 have f0 := cells_at t1 (j := 0) rfl
 have f1 := cells_at t1 (j := 1) rfl
 have g0 := free_at t1 0
 have g1 := free_at t1 1
 have s1 := set_at (set_at t1 0 (.int .i64 1)) 1 (.slice vb1 3 vb2)
 have kS : Kept (one (w.heap.size + 1)) w3 ((w3.setCell ⟨w.heap.size + 1, 0, none⟩ (.int .i64 1)).setCell ⟨w.heap.size + 1, 1, none⟩ (.slice vb1 3 vb2)) := ((Kept.refl (one (w.heap.size + 1)) _).setCell (p := ⟨w.heap.size + 1, 0, none⟩) (.inl rfl) _).setCell (p := ⟨w.heap.size + 1, 1, none⟩) (.inl rfl) _
 obtain ⟨W4, hW4⟩ : ∃ W4, ((w3.setCell ⟨w.heap.size + 1, 0, none⟩ (.int .i64 1)).setCell ⟨w.heap.size + 1, 1, none⟩ (.slice vb1 3 vb2)) = W4 := ⟨_, rfl⟩
 rw [hW4] at s1 kS
 have hjb := hj.keptS kS (fun q hq => by
  unfold one at hq
  have h1 := hj.lt
  refine ⟨by omega, fun e => ?_, fun hD => ?_⟩
  ·obtain ⟨cs, hr, _⟩ := hj.row
   have := (hr.lt q e).1
   omega
  ·have := (hj.dd q hD).1; omega)
 have hjA := K2.out.1.pure k3
 have hjA := hjA.keptS kS (fun q hq => by
  unfold one at hq
  have h1 := hjA.lt
  have h2 := K2.out.2.2.2.2
  refine ⟨by omega, fun e => ?_, fun hD => ?_⟩
  ·obtain ⟨cs, hr, _⟩ := hjA.row
   have := (hr.lt q e).1
   omega
  ·have := (hjA.dd q hD).1; omega)
 have s0 := kS.heap t0 (fun e => by unfold one at e; omega)
 have kw4 : Kept none' w W4 := (K2.out.2.2.2.1.trans k3).new kS (fun q hq hs => by unfold one at hs; omega)
 have hs4 : w.heap.size + 1 < W4.heap.size := (Array.getElem?_eq_some_iff.1 s1).1
 have z00 := cells_at s0 (j := 0) (v := .int .i64 2) rfl
 have z01 := cells_at s0 (j := 1) (v := .slice va1 3 va2) rfl
 have z02 := cells_at s0 (j := 2) (v := .slice none 0 0) rfl
 have z10 := cells_at s1 (j := 0) (v := .int .i64 1) rfl
 have z11 := cells_at s1 (j := 1) (v := .slice vb1 3 vb2) rfl
 have z12 := cells_at s1 (j := 2) (v := .slice none 0 0) rfl
 have k45 : Kept none' W4 (W4.alloc (.cells #[.int .i64 0, .int .i64 5, .int .i64 2, .int .i64 1, .int .i64 5, .int .i64 4] 86)) := (Kept.refl _ _).alloc _
 have hlit := Reads.lit W4 [.int .i64 0, .int .i64 5, .int .i64 2, .int .i64 1, .int .i64 5, .int .i64 4] 86 3 2 rfl (by unfold maxLen; omega)
 obtain ⟨W5, hW5⟩ : ∃ W5, (W4.alloc (.cells #[.int .i64 0, .int .i64 5, .int .i64 2, .int .i64 1, .int .i64 5, .int .i64 4] 86)) = W5 := ⟨_, rfl⟩
 rw [show ([.int .i64 0, .int .i64 5, .int .i64 2, .int .i64 1, .int .i64 5, .int .i64 4] : List Value).toArray = #[.int .i64 0, .int .i64 5, .int .i64 2, .int .i64 1, .int .i64 5, .int .i64 4] from rfl, hW5] at hlit
 rw [hW5] at k45
 have s05 := k45.heap s0 (fun h => h)
 have s15 := k45.heap s1 (fun h => h)
 have F := Lib.hid (show SidesQ w (.returned (.tuple #[.agg #[.int .i64 2, .slice va1 3 va2, .slice none 0 0], .agg #[.int .i64 1, .slice vb1 3 vb2, .slice none 0 0], .slice (some ⟨W4.heap.size, 0, none⟩) 2 2])) W5.drew from
  ⟨_, _, _, rfl, ⟨(hjA.pure (k45.drew)).job, Reads.nil _ 2, fun s hs => by cases hs⟩, ⟨(hjb.pure (k45.drew)).job, Reads.nil _ 2, fun s hs => by cases hs⟩, hlit.pure (Kept.refl none' W5).drew, (kw4.trans k45).drew⟩)
 have ZS := Lib.hid (And.intro s0 (And.intro s1 (And.intro s05 (And.intro s15 k45))))
 have e00 := setCell_same s0 (j := 0) (v := .int .i64 2) rfl
 have e01 := setCell_same s0 (j := 1) (v := .slice va1 3 va2) rfl
 have e02 := setCell_same s0 (j := 2) (v := .slice none 0 0) rfl
 have e10 := setCell_same s1 (j := 0) (v := .int .i64 1) rfl
 have e11 := setCell_same s1 (j := 1) (v := .slice vb1 3 vb2) rfl
 have e12 := setCell_same s1 (j := 2) (v := .slice none 0 0) rfl
 have q00 := cells_at s05 (j := 0) (v := .int .i64 2) rfl
 have q01 := cells_at s05 (j := 1) (v := .slice va1 3 va2) rfl
 have q02 := cells_at s05 (j := 2) (v := .slice none 0 0) rfl
 have q10 := cells_at s15 (j := 0) (v := .int .i64 1) rfl
 have q11 := cells_at s15 (j := 1) (v := .slice vb1 3 vb2) rfl
 have q12 := cells_at s15 (j := 2) (v := .slice none 0 0) rfl
 clear hja hj hJ k3 t0 t1 s1 kS hjb hjA s0 kw4 k45 hlit s05 s15
 go_wp2_with fail
 try rw [hW4]
 clear hW4 f0 f1 g0 g1
 have kd : Kept none' W4 W4.drew := (Kept.refl none' W4).drew
 have fr := fun (j : Nat) => free_at ZS.out.1 j
 have fr0 := free_at ZS.out.1 0
 have fr1 := free_at ZS.out.1 1
 have fr2 := free_at ZS.out.1 2
 have fs0 := free_at ZS.out.2.1 0
 have fs1 := free_at ZS.out.2.1 1
 have fs2 := free_at ZS.out.2.1 2
 have ft0 := free_at ZS.out.2.2.1 0
 have ft1 := free_at ZS.out.2.2.1 1
 have ft2 := free_at ZS.out.2.2.1 2
 have fu0 := free_at ZS.out.2.2.2.1 0
 have fu1 := free_at ZS.out.2.2.2.1 1
 have fu2 := free_at ZS.out.2.2.2.1 2
 have i00 := setCell_same ZS.out.2.2.1 (j := 0) (v := .int .i64 2) rfl
 have i01 := setCell_same ZS.out.2.2.1 (j := 1) (v := .slice va1 3 va2) rfl
 have i02 := setCell_same ZS.out.2.2.1 (j := 2) (v := .slice none 0 0) rfl
 have i10 := setCell_same ZS.out.2.2.2.1 (j := 0) (v := .int .i64 1) rfl
 have i11 := setCell_same ZS.out.2.2.2.1 (j := 1) (v := .slice vb1 3 vb2) rfl
 have i12 := setCell_same ZS.out.2.2.2.1 (j := 2) (v := .slice none 0 0) rfl
 clear fr
 refine wp_region_tree (fun W => Kept none' W4 W) (by kernel_rfl) (by kernel_rfl) kd ?_
 refine wpTr_float (k := 0) (by kernel_rfl) rfl rfl (fun W hW => by have a0 := hW.cell (p := ⟨w.heap.size, 0, none⟩) (fun h => h) z00; have a1 := hW.cell (p := ⟨w.heap.size, 1, none⟩) (fun h => h) z01; have a2 := hW.cell (p := ⟨w.heap.size, 2, none⟩) (fun h => h) z02; go_simp; rfl) ?_
 go_frame
 refine wpTr_float (k := 1) (by kernel_rfl) rfl rfl (fun W hW => by have a0 := hW.cell (p := ⟨w.heap.size + 1, 0, none⟩) (fun h => h) z10; have a1 := hW.cell (p := ⟨w.heap.size + 1, 1, none⟩) (fun h => h) z11; have a2 := hW.cell (p := ⟨w.heap.size + 1, 2, none⟩) (fun h => h) z12; go_simp; rfl) ?_
 go_frame
 refine wpTr_float (k := 2) (by kernel_rfl) rfl rfl (fun W hW => by go_simp; rfl) ?_
 go_frame
 refine wpTr_float (k := 3) (by kernel_rfl) rfl rfl (fun W hW => by go_simp; rfl) ?_
 go_frame
 refine wpTr_two (i := 4) (k := 5) (by kernel_rfl) (by kernel_rfl) rfl rfl rfl rfl ?brA ?brB
 case' brA =>
  intro K hK
  go_wp2_with fail
  refine hK _ _ (Kept.drew ZS.out.2.2.2.2) ?_
  clear hK
  refine wpTr_loud (k := 5) (by kernel_rfl) (by kernel_rfl) rfl rfl ?_
  intro K hK
  go_wp2_with fail
  try rw [i00, i01, i02]
  refine hK _ _ (Kept.drew ZS.out.2.2.2.2) ?_
  clear hK
  refine wpTr_loud (k := 6) (by kernel_rfl) (by kernel_rfl) rfl rfl ?_
  intro K hK
  go_wp2_with fail
  try rw [i10, i11, i12]
  refine hK _ _ (Kept.drew ZS.out.2.2.2.2) ?_
  clear hK
 case' brB =>
  intro K hK
  go_wp2_with fail
  try rw [e00, e01, e02]
  refine hK _ _ (Kept.drew (Kept.refl none' W4)) ?_
  clear hK
  refine wpTr_two (i := 4) (k := 6) (by kernel_rfl) (by kernel_rfl) rfl rfl rfl rfl ?brC ?brD
  case' brC =>
   intro K hK
   go_wp2_with fail
   refine hK _ _ (Kept.drew ZS.out.2.2.2.2) ?_
   clear hK
   refine wpTr_loud (k := 6) (by kernel_rfl) (by kernel_rfl) rfl rfl ?_
   intro K hK
   go_wp2_with fail
   try rw [i10, i11, i12]
   refine hK _ _ (Kept.drew ZS.out.2.2.2.2) ?_
   clear hK
  case' brD =>
   intro K hK
   go_wp2_with fail
   try rw [e10, e11, e12]
   refine hK _ _ (Kept.drew (Kept.refl none' W4)) ?_
   clear hK
   refine wpTr_loud (k := 4) (by kernel_rfl) (by kernel_rfl) rfl rfl ?_
   intro K hK
   go_wp2_with fail
   refine hK _ _ (Kept.drew ZS.out.2.2.2.2) ?_
   clear hK
 all_goals
  refine wpTr_float (k := 7) (v := .slice (some ⟨W4.heap.size, 0, none⟩) 2 2) (by kernel_rfl) rfl rfl (fun W hW => by go_simp) ?_
  simp only [List.getElem_toArray, List.getElem_cons_succ, List.getElem_cons_zero]
  go_frame
  refine wpTr_nil (by kernel_rfl) (Kept.drew ZS.out.2.2.2.2) ?_
  go_wp2_with fail
  refine bodyPost_ret (v := .tuple #[.agg #[.int .i64 2, .slice va1 3 va2, .slice none 0 0], .agg #[.int .i64 1, .slice vb1 3 vb2, .slice none 0 0], .slice (some ⟨W4.heap.size, 0, none⟩) 2 2]) (by simp [results, Tryz.results49, go_sem, q00, q01, q02, q10, q11, q12]) rfl F.out
theorem sides_verdict : idealsP sumsS lessS (bothR.map pairR) = ((false, 1, 0), 0) := by kernel_rfl
theorem sides_same : idealsP sumsS sumsS (bothR.map pairR) = ((true, 0, 0), 0) := by kernel_rfl
theorem bothR_ok : ∀ r ∈ bothR, RecOk r := by
 intro r hr
 unfold bothR at hr
 simp at hr
 rcases hr with rfl | rfl
 ·exact ⟨.small (by simp) (by simp), .small (by simp) (by simp), .small (by simp) (by simp)⟩
 ·exact ⟨.small (by simp) (by simp), .small (by simp) (by simp), .small (by simp) (by simp)⟩
set_option maxRecDepth 100000 in
set_option maxHeartbeats 2000000 in
theorem works25_any (w : World) (m : Int) (hm : w.cell? ⟨0, 0, none⟩ = some (.int .i64 m)) : Calls Tryz.prog 25 #[] w (Gives w (.bool true)) := by
 have cs := sides_any w m hm
 clear hm
 go_enter Tryz.func25, Tryz.ntmps25
 go_wp2_with fail
 (with_reducible refine cs.mono ?_)
 clear cs
 rintro e w1 ⟨va, vb, lv, rfl, ha, hb, hl, k1⟩
 obtain ⟨va1, va2, hva⟩ : ∃ a c, va = .slice a 3 c := by obtain ⟨a, c, h, _⟩ := ha.1.nodes.at; exact ⟨a, c, h⟩
 obtain ⟨vb1, vb2, hvb⟩ : ∃ a c, vb = .slice a 3 c := by obtain ⟨a, c, h, _⟩ := hb.1.nodes.at; exact ⟨a, c, h⟩
 obtain ⟨la, lc, hlv, -⟩ := hl.recAt
 subst hva hvb hlv
 have kA : Kept none' w1 ((w1.alloc (.cells #[.int .i64 2, .slice va1 3 va2, .slice none 0 0] 48)).alloc (.cells #[.int .i64 1, .slice vb1 3 vb2, .slice none 0 0] 48)) := ((Kept.refl _ _).alloc _).alloc _
 have t0 : ((w1.alloc (.cells #[.int .i64 2, .slice va1 3 va2, .slice none 0 0] 48)).alloc (.cells #[.int .i64 1, .slice vb1 3 vb2, .slice none 0 0] 48)).heap[w1.heap.size]? = some (.cells #[.int .i64 2, .slice va1 3 va2, .slice none 0 0] 48 (0, 0)) := ((Kept.refl none' _).alloc _).heap (heap_alloc_new w1 _) (fun h => h)
 obtain ⟨W2, hW2⟩ : ∃ W2, ((w1.alloc (.cells #[.int .i64 2, .slice va1 3 va2, .slice none 0 0] 48)).alloc (.cells #[.int .i64 1, .slice vb1 3 vb2, .slice none 0 0] 48)) = W2 := ⟨_, rfl⟩
 rw [hW2] at kA t0
 have c1 := ideals_any sumsS lessS _ _ _ _ _ bothR W2 (ha.pure kA) (hb.pure kA) (hl.pure kA) bothR_ok (by decide)
 rw [sides_verdict, show sumsS.1.par = 2 from rfl, show lessS.1.par = 1 from rfl] at c1
 have K1 := Lib.hid (And.intro ha (And.intro hl (And.intro (k1.trans kA) (And.intro kA t0))))
 have HW := Lib.hid hW2
 clear ha hb hl k1 kA t0 hW2
 go_wp2_with fail
 rw [HW.out]
 clear HW
 (with_reducible refine c1.mono ?_)
 clear c1
 rintro e w3 ⟨rfl, k3⟩
 unfold verdC
 have t0 := k3.heap K1.out.2.2.2.2 (fun h => h)
 have p0 := cells_at t0 (j := 0) (v := .int .i64 2) rfl
 have p1 := cells_at t0 (j := 1) (v := .slice va1 3 va2) rfl
 have p2 := cells_at t0 (j := 2) (v := .slice none 0 0) rfl
 have hsz : w1.heap.size < w3.heap.size := (Array.getElem?_eq_some_iff.1 t0).1
 have kB : Kept none' w3 (w3.alloc (.cells #[.bool false, .int .i64 1, .int .i64 0] 52)) := (Kept.refl _ _).alloc _
 have kk := K1.out.2.2.2.1.trans (k3.trans kB)
 have c2 := ideals_any sumsS sumsS _ _ _ _ _ bothR (w3.alloc (.cells #[.bool false, .int .i64 1, .int .i64 0] 52)) (K1.out.1.pure kk) (K1.out.1.pure kk) (K1.out.2.1.pure kk) bothR_ok (by decide)
 rw [sides_same, show sumsS.1.par = 2 from rfl] at c2
 have v0 := heap_alloc_new w3 (.cells #[.bool false, .int .i64 1, .int .i64 0] 52)
 have K3 := Lib.hid (And.intro (K1.out.2.2.1.trans (k3.trans kB)) v0)
 clear k3 kB kk t0 v0
 go_wp2_with fail
 (with_reducible refine c2.mono ?_)
 clear c2 p0 p1 p2
 rintro e w5 ⟨rfl, k5⟩
 unfold verdC
 have v0 := k5.heap K3.out.2 (fun h => h)
 have q0 := cells_at v0 (j := 0) (v := .bool false) rfl
 have q1 := cells_at v0 (j := 1) (v := .int .i64 1) rfl
 have q2 := cells_at v0 (j := 2) (v := .int .i64 0) rfl
 have hs5 : w3.heap.size < w5.heap.size := (Array.getElem?_eq_some_iff.1 v0).1
 have F := Lib.hid ((K3.out.1.trans k5).alloc (.cells #[.bool true, .int .i64 0, .int .i64 0] 52))
 clear k5 v0
 go_wp2_with fail
 go_ret
 exact ⟨rfl, F.out⟩
end Go.Proofs.YtopeleenlcnkkaaGreatDoor
/-
 The laws ShadowSame and ShadowFirst.
-/
namespace Go.Proofs.YtopeleenlcnkkaaGreatDoor
open Go Go.RowKit
attribute [local irreducible] wpL wpTr H2.wpH
theorem SideAt.slices {w : World} {v u : Value} {s : Side} (h : SideAt w v u s) : (∃ a c, v = .slice a s.1.nodes.length c) ∧ ∃ a c, u = .slice a s.2.length c := by
 obtain ⟨a, c, h1, _⟩ := h.1.nodes.at
 obtain ⟨a', c', h2, _⟩ := h.2.1.stAt
 exact ⟨⟨a, c, h1⟩, ⟨a', c', h2⟩⟩
end Go.Proofs.YtopeleenlcnkkaaGreatDoor
