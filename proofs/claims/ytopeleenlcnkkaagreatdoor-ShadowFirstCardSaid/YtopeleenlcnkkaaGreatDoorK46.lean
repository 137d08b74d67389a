/-
  shadow.compare.
-/
import Derived.Test.YtopeleenlcnkkaaGreatDoorK45
import Derived.Test.YtopeleenlcnkkaaGreatDoorK35
set_option linter.unusedVariables false
set_option linter.unusedSimpArgs false
namespace Go.Proofs.YtopeleenlcnkkaaGreatDoor
open Go Go.RowKit
attribute [local irreducible] wpL wpTr H2.wpH
theorem Reads.outAt {w : World} {v : Value} {l : List Outp} (h : Reads w 2 v (outC l)) : ∃ a cap, v = .slice a l.length cap ∧ l.length ≤ cap ∧ cap ≤ maxLen ∧
  (l = [] ∨ ∃ b off, a = some ⟨b, off, none⟩ ∧ ∀ (i : Nat) (s : Outp), l[i]? = some s → w.cell? ⟨b, off + i * 2, none⟩ = some (.int .i64 s.1) ∧ w.cell? ⟨b, off + i * 2 + 1, none⟩ = some (.int .i64 s.2)) := by
 obtain ⟨a, n, cap, rfl, h1, h2, h3, h4⟩ := h
 rw [outC_length] at h3
 have hn : n = l.length := by omega
 subst hn
 refine ⟨a, cap, rfl, h1, h2, ?_⟩
 rcases h4 with h4 | ⟨b, off, hb, h4⟩
 ·left
  have := congrArg List.length h4
  rw [outC_length] at this
  exact List.eq_nil_of_length_eq_zero (by simp only [List.length_nil] at this; omega)
 ·right
  refine ⟨b, off, hb, fun i s hs => ?_⟩
  obtain ⟨q0, q1⟩ := outC_get hs
  have z0 := h4 _ _ q0
  have z1 := h4 _ _ q1
  rw [← Nat.add_assoc] at z1
  exact ⟨z0, z1⟩
theorem firstU_drop {x y : List Outp} {k : Nat} (h1 : k < x.length) (h2 : k < y.length) (n : Nat) : firstU (x.drop k) (y.drop k) n = if x[k] = y[k] then firstU (x.drop (k + 1)) (y.drop (k + 1)) (n + 1) else some n := by
 rw [List.drop_eq_getElem_cons h1, List.drop_eq_getElem_cons h2, firstU]
theorem firstU_left {x y : List Outp} {k : Nat} (h1 : x.length ≤ k) (h2 : k < y.length) (n : Nat) : firstU (x.drop k) (y.drop k) n = some n := by
 rw [List.drop_eq_nil_of_le h1, List.drop_eq_getElem_cons h2]; rfl
theorem firstU_right {x y : List Outp} {k : Nat} (h1 : k < x.length) (h2 : y.length ≤ k) (n : Nat) : firstU (x.drop k) (y.drop k) n = some n := by
 rw [List.drop_eq_nil_of_le h2, List.drop_eq_getElem_cons h1]; rfl
theorem firstU_end {x y : List Outp} {k : Nat} (h1 : x.length ≤ k) (h2 : y.length ≤ k) (n : Nat) : firstU (x.drop k) (y.drop k) n = none := by
 rw [List.drop_eq_nil_of_le h1, List.drop_eq_nil_of_le h2]; rfl
theorem compareV_at {x y : Nat → List Outp} {p n : Nat} (hp : p < 2) (h0 : ∀ q, q < p → firstU (x q) (y q) 0 = none) (h : firstU (x p) (y p) 0 = some n) : compareV x y = (false, (p : Int), (n : Int)) := by
 unfold compareV
 have h2 : p = 0 ∨ p = 1 := by omega
 rcases h2 with rfl | rfl
 ·rw [h]; rfl
 ·rw [h0 0 (by omega)]; simp only; rw [h]; rfl
theorem compareV_all {x y : Nat → List Outp} (h0 : ∀ q, q < 2 → firstU (x q) (y q) 0 = none) : compareV x y = (true, 0, 0) := by
 unfold compareV
 rw [h0 0 (by omega)]; simp only; rw [h0 1 (by omega)]
def verdC (v : Verd) : Array Value := #[.bool v.1, .int .i64 v.2.1, .int .i64 v.2.2]
def VerdQ (w : World) (v : Verd) (e : Ending) (w' : World) : Prop := e = .returned (.agg (verdC v)) ∧ Kept none' w w'
theorem verd_store {w wq : World} {B : Nat} {a b c : Value} (h : wq.heap[B]? = some (.cells #[a, b, c] 52 (0, 0))) (hk : Kept none' w wq) (hB : w.heap.size ≤ B) (d : Bool) (n m : Int) :
  (((wq.setCell ⟨B, 0, none⟩ (.bool d)).setCell ⟨B, 1, none⟩ (.int .i64 n)).setCell ⟨B, 2, none⟩ (.int .i64 m)).cell? ⟨B, 0, none⟩ = some (.bool d) ∧
  (((wq.setCell ⟨B, 0, none⟩ (.bool d)).setCell ⟨B, 1, none⟩ (.int .i64 n)).setCell ⟨B, 2, none⟩ (.int .i64 m)).cell? ⟨B, 1, none⟩ = some (.int .i64 n) ∧
  (((wq.setCell ⟨B, 0, none⟩ (.bool d)).setCell ⟨B, 1, none⟩ (.int .i64 n)).setCell ⟨B, 2, none⟩ (.int .i64 m)).cell? ⟨B, 2, none⟩ = some (.int .i64 m) ∧
  Kept none' w (((wq.setCell ⟨B, 0, none⟩ (.bool d)).setCell ⟨B, 1, none⟩ (.int .i64 n)).setCell ⟨B, 2, none⟩ (.int .i64 m)) := by
 have h3 := set_at (set_at (set_at h 0 (.bool d)) 1 (.int .i64 n)) 2 (.int .i64 m)
 exact ⟨cells_at h3 (j := 0) rfl, cells_at h3 (j := 1) rfl, cells_at h3 (j := 2) rfl, ((hk.setCell (p := ⟨B, 0, none⟩) (.inr hB) _).setCell (p := ⟨B, 1, none⟩) (.inr hB) _).setCell (p := ⟨B, 2, none⟩) (.inr hB) _⟩
theorem verd_stored {w wq : World} {B : Nat} {a b c : Value} (h : wq.heap[B]? = some (.cells #[a, b, c] 52 (0, 0))) (hk : Kept none' w wq) (hB : w.heap.size ≤ B) (d : Bool) (n m : Int) :
  (((wq.setCell ⟨B, 0, none⟩ (.bool d)).setCell ⟨B, 1, none⟩ (.int .i64 n)).setCell ⟨B, 2, none⟩ (.int .i64 m)).drew.cell? ⟨B, 0, none⟩ = some (.bool d) ∧
  (((wq.setCell ⟨B, 0, none⟩ (.bool d)).setCell ⟨B, 1, none⟩ (.int .i64 n)).setCell ⟨B, 2, none⟩ (.int .i64 m)).drew.cell? ⟨B, 1, none⟩ = some (.int .i64 n) ∧
  (((wq.setCell ⟨B, 0, none⟩ (.bool d)).setCell ⟨B, 1, none⟩ (.int .i64 n)).setCell ⟨B, 2, none⟩ (.int .i64 m)).drew.cell? ⟨B, 2, none⟩ = some (.int .i64 m) ∧
  Kept none' w (((wq.setCell ⟨B, 0, none⟩ (.bool d)).setCell ⟨B, 1, none⟩ (.int .i64 n)).setCell ⟨B, 2, none⟩ (.int .i64 m)).drew := by
 obtain ⟨h1, h2, h3, h4⟩ := verd_store h hk hB d n m
 exact ⟨h1, h2, h3, h4.drew⟩
set_option maxRecDepth 100000 in
set_option maxHeartbeats 2000000 in
theorem compare_any (w : World) (x y : Nat → List Outp) (u v : Nat → Value) (hx : ∀ q, q < 2 → Reads w 2 (u q) (outC (x q))) (hy : ∀ q, q < 2 → Reads w 2 (v q) (outC (y q))) :
  Calls Tryz.prog 51 #[.agg #[u 0, u 1], .agg #[v 0, v 1]] w (VerdQ w (compareV x y)) := by
 have kA : Kept none' w (((w.alloc (.cells #[u 0, u 1] 112)).alloc (.cells #[v 0, v 1] 112)).alloc (.cells #[.bool false, .int .i64 0, .int .i64 0] 52)) := (((Kept.refl _ _).alloc _).alloc _).alloc _
 have t0 : (((w.alloc (.cells #[u 0, u 1] 112)).alloc (.cells #[v 0, v 1] 112)).alloc (.cells #[.bool false, .int .i64 0, .int .i64 0] 52)).heap[w.heap.size]? = some (.cells #[u 0, u 1] 112 (0, 0)) :=
  (((Kept.refl none' _).alloc _).alloc _).heap (heap_alloc_new w _) (fun h => h)
 have t1 : (((w.alloc (.cells #[u 0, u 1] 112)).alloc (.cells #[v 0, v 1] 112)).alloc (.cells #[.bool false, .int .i64 0, .int .i64 0] 52)).heap[w.heap.size + 1]? = some (.cells #[v 0, v 1] 112 (0, 0)) := by
  have := ((Kept.refl none' _).alloc (.cells #[.bool false, .int .i64 0, .int .i64 0] 52)).heap (heap_alloc_new (w.alloc (.cells #[u 0, u 1] 112)) (.cells #[v 0, v 1] 112)) (fun h => h)
  rwa [World.size_alloc] at this
 have t2 : (((w.alloc (.cells #[u 0, u 1] 112)).alloc (.cells #[v 0, v 1] 112)).alloc (.cells #[.bool false, .int .i64 0, .int .i64 0] 52)).heap[w.heap.size + 1 + 1]? = some (.cells #[.bool false, .int .i64 0, .int .i64 0] 52 (0, 0)) := by
  have := heap_alloc_new ((w.alloc (.cells #[u 0, u 1] 112)).alloc (.cells #[v 0, v 1] 112)) (.cells #[.bool false, .int .i64 0, .int .i64 0] 52)
  rwa [World.size_alloc, World.size_alloc] at this
 obtain ⟨W0, hW0⟩ : ∃ W0, ((w.alloc (.cells #[u 0, u 1] 112)).alloc (.cells #[v 0, v 1] 112)).alloc (.cells #[.bool false, .int .i64 0, .int .i64 0] 52) = W0 := ⟨_, rfl⟩
 rw [hW0] at kA t0 t1 t2
 have hsz : w.heap.size + 1 + 1 < W0.heap.size := (Array.getElem?_eq_some_iff.1 t2).1
 have H := Lib.hid (And.intro hx (And.intro hy (And.intro kA (And.intro t0 (And.intro t1 t2)))))
 clear hx hy kA t0 t1 t2
 go_enter Tryz.func51, Tryz.ntmps51
 go_wp2_with fail
 try rw [hW0]
 clear hW0
 go_loopg [9] 2 (fun g vi wr => ∃ (p : Nat), p ≤ 2 ∧ vi = .int .i64 (p : Int) ∧ 2 - p ≤ g ∧ (∀ q, q < p → firstU (x q) (y q) 0 = none) ∧ Kept none' W0 wr)
 case atStart => exact ⟨0, by omega, rfl, by omega, fun q hq => absurd hq (by omega), Kept.refl _ _⟩
 case round =>
  obtain ⟨p, hpl, rfl, hg, hnone, hkp⟩ := hrel
  have hw := H.out.2.2.1.trans hkp
  by_cases hlt : p < 2
  ·have hltI : (p : Int) < 2 := by omega
   have b0 : wr.cell? ⟨w.heap.size, p, none⟩ = some (u p) := by
    have := hkp.heap H.out.2.2.2.1 (fun h => h)
    have h2 : p = 0 ∨ p = 1 := by omega
    rcases h2 with rfl | rfl <;> exact cells_at this rfl
   have b1 : wr.cell? ⟨w.heap.size + 1, p, none⟩ = some (v p) := by
    have := hkp.heap H.out.2.2.2.2.1 (fun h => h)
    have h2 : p = 0 ∨ p = 1 := by omega
    rcases h2 with rfl | rfl <;> exact cells_at this rfl
   obtain ⟨pa, ca, ea, a1, a2, a3⟩ := (H.out.1 p hlt).outAt
   obtain ⟨pb, cb, eb, d1, d2, d3⟩ := (H.out.2.1 p hlt).outAt
   unfold maxLen at a2 d2
   rw [ea] at b0
   rw [eb] at b1
   obtain ⟨X, hX⟩ : ∃ X, x p = X := ⟨_, rfl⟩
   obtain ⟨Y, hY⟩ : ∃ Y, y p = Y := ⟨_, rfl⟩
   rw [hX] at b0 a1 a3
   rw [hY] at b1 d1 d3
   have G := Lib.hid (And.intro hg (And.intro hnone (And.intro hkp (And.intro hX (And.intro hY (And.intro a3 d3))))))
   clear hg hnone hkp hX hY a3 d3 ea eb
   go_wp2_with fail
   refine wp_region_eager [0, 1, 2, 3, 4, 5, 6, 7] (fun W => Kept none' wr W) (by kernel_rfl) (by kernel_rfl) rfl (Kept.refl _ _).drew ?_
   simp only [List.map_cons, List.map_nil, List.getElem?_toArray, List.getElem?_cons_zero, List.getElem?_cons_succ, Option.getD_some]
   iterate 8 (apply wpL_float rfl rfl; (intro W hW; have q1 := hW.cell (p := ⟨w.heap.size, p, none⟩) (fun h => h) b0; have q2 := hW.cell (p := ⟨w.heap.size + 1, p, none⟩) (fun h => h) b1; go_simp; rfl); go_frame)
   refine wpL_nil (fun _ => (Kept.refl _ _).drew) ?_
   clear b0 b1
   go_wp2_with fail
   obtain ⟨M, hM, hM1, hM2, hM3⟩ : ∃ M : Nat, max (X.length : Int) (Y.length : Int) = (M : Int) ∧ X.length ≤ M ∧ Y.length ≤ M ∧ (M = X.length ∨ M = Y.length) := ⟨max X.length Y.length, by omega, by omega, by omega, by omega⟩
   rw [hM]
   have HM := Lib.hid (And.intro hM1 (And.intro hM2 hM3))
   clear hM hM1 hM2 hM3
   go_loopg [23] M (fun g vi wq => ∃ (k : Nat), k ≤ M ∧ vi = .int .i64 (k : Int) ∧ M - k ≤ g ∧ firstU X Y 0 = firstU (X.drop k) (Y.drop k) k ∧ Kept none' W0 wq)
   case atStart => exact ⟨0, by omega, rfl, by omega, rfl, G.out.2.2.1.drew⟩
   case round =>
    obtain ⟨wq, rfl⟩ : ∃ wq : World, wq = wr := ⟨_, rfl⟩
    obtain ⟨k, hkM, rfl, hg, hfu, hkq⟩ := hrel
    have Q := Lib.hid (And.intro hg (And.intro hfu hkq))
    have t2 := hkq.heap H.out.2.2.2.2.2 (fun h => h)
    have f0 := cells_at t2 (j := 0) rfl
    have f1 := cells_at t2 (j := 1) rfl
    have f2 := cells_at t2 (j := 2) rfl
    have g0 := free_at t2 0
    have g1 := free_at t2 1
    have g2 := free_at t2 2
    clear hg hfu hkq t2
    by_cases hkl : k < M
    ·by_cases hx1 : X.length ≤ k
     ·have hy1 : k < Y.length := by have := HM.out; omega
      go_wp2_with fail
      refine wp_region_eager [0, 1, 2, 3, 4, 5, 6, 7, 8, 9, 10, 11, 12, 13, 14, 15, 16, 17, 18, 19, 20] (fun W => Kept none' wq W) (by kernel_rfl) (by kernel_rfl) rfl (Kept.refl _ _).drew ?_
      simp only [List.map_cons, List.map_nil, List.getElem?_toArray, List.getElem?_cons_zero, List.getElem?_cons_succ, Option.getD_some]
      iterate 3 (apply wpL_float rfl rfl; (intro W hW; go_simp; rfl); go_frame)
      refine wpL_float (v := .bool true) rfl rfl (by intro W hW; go_simp; try (simp; try omega)) ?_
      go_frame
      iterate 1 (apply wpL_float rfl rfl; (intro W hW; go_simp; rfl); go_frame)
      iterate 4 (apply wpL_skip rfl; go_frame)
      iterate 2 (apply wpL_float rfl rfl; (intro W hW; go_simp; rfl); go_frame)
      iterate 9 (apply wpL_skip rfl; go_frame)
      iterate 1 (apply wpL_float rfl rfl; (intro W hW; go_simp; rfl); go_frame)
      refine wpL_nil (fun _ => (Kept.refl _ _).drew) ?_
      go_wp2_with fail
      obtain ⟨q0, q1, q2, kE⟩ := verd_stored (w := w) (Q.out.2.2.heap H.out.2.2.2.2.2 (fun h => h)) (H.out.2.2.1.trans Q.out.2.2) (by omega) false (p : Int) (k : Int)
      refine bodyPost_ret (v := .agg #[.bool false, .int .i64 (p : Int), .int .i64 (k : Int)]) (by simp [results, Tryz.results51, go_sem, q0, q1, q2]) rfl ⟨by rw [compareV_at hlt G.out.2.1 (show firstU (x p) (y p) 0 = some k by rw [G.out.2.2.2.1, G.out.2.2.2.2.1, Q.out.2.1]; exact firstU_left hx1 hy1 k)]; rfl, kE⟩
     ·by_cases hy1 : Y.length ≤ k
      ·have hx2 : k < X.length := by omega
       go_wp2_with fail
       refine wp_region_eager [0, 1, 2, 3, 4, 5, 6, 7, 8, 9, 10, 11, 12, 13, 14, 15, 16, 17, 18, 19, 20] (fun W => Kept none' wq W) (by kernel_rfl) (by kernel_rfl) rfl (Kept.refl _ _).drew ?_
       simp only [List.map_cons, List.map_nil, List.getElem?_toArray, List.getElem?_cons_zero, List.getElem?_cons_succ, Option.getD_some]
       iterate 3 (apply wpL_float rfl rfl; (intro W hW; go_simp; rfl); go_frame)
       refine wpL_float (v := .bool false) rfl rfl (by intro W hW; go_simp; try (simp; try omega)) ?_
       go_frame
       iterate 1 (apply wpL_float rfl rfl; (intro W hW; go_simp; rfl); go_frame)
       iterate 3 (apply wpL_float rfl rfl; (intro W hW; go_simp; rfl); go_frame)
       refine wpL_float (v := .bool true) rfl rfl (by intro W hW; go_simp; try (simp; try omega)) ?_
       go_frame
       iterate 2 (apply wpL_float rfl rfl; (intro W hW; go_simp; rfl); go_frame)
       iterate 9 (apply wpL_skip rfl; go_frame)
       iterate 1 (apply wpL_float rfl rfl; (intro W hW; go_simp; rfl); go_frame)
       refine wpL_nil (fun _ => (Kept.refl _ _).drew) ?_
       go_wp2_with fail
       obtain ⟨q0, q1, q2, kE⟩ := verd_stored (w := w) (Q.out.2.2.heap H.out.2.2.2.2.2 (fun h => h)) (H.out.2.2.1.trans Q.out.2.2) (by omega) false (p : Int) (k : Int)
       refine bodyPost_ret (v := .agg #[.bool false, .int .i64 (p : Int), .int .i64 (k : Int)]) (by simp [results, Tryz.results51, go_sem, q0, q1, q2]) rfl ⟨by rw [compareV_at hlt G.out.2.1 (show firstU (x p) (y p) 0 = some k by rw [G.out.2.2.2.1, G.out.2.2.2.2.1, Q.out.2.1]; exact firstU_right hx2 hy1 k)]; rfl, kE⟩
      ·have hx2 : k < X.length := by omega
       have hy2 : k < Y.length := by omega
       obtain ⟨bx, ox, rfl, hcx⟩ := G.out.2.2.2.2.2.1.resolve_left (fun h => by rw [h] at hx2; simp at hx2)
       obtain ⟨by', oy, rfl, hcy⟩ := G.out.2.2.2.2.2.2.resolve_left (fun h => by rw [h] at hy2; simp at hy2)
       have kq := H.out.2.2.1.trans Q.out.2.2
       have x0 := kq.cell (p := ⟨bx, ox + k * 2, none⟩) (fun h => h) (hcx k _ (List.getElem?_eq_getElem hx2)).1
       have x1 := kq.cell (p := ⟨bx, ox + k * 2 + 1, none⟩) (fun h => h) (hcx k _ (List.getElem?_eq_getElem hx2)).2
       have y0 := kq.cell (p := ⟨by', oy + k * 2, none⟩) (fun h => h) (hcy k _ (List.getElem?_eq_getElem hy2)).1
       have y1 := kq.cell (p := ⟨by', oy + k * 2 + 1, none⟩) (fun h => h) (hcy k _ (List.getElem?_eq_getElem hy2)).2
       have hfd := Lib.hid (firstU_drop hx2 hy2 k)
       obtain ⟨s, hs⟩ : ∃ s, X[k] = s := ⟨_, rfl⟩
       obtain ⟨t, ht⟩ : ∃ t, Y[k] = t := ⟨_, rfl⟩
       rw [hs] at x0 x1 hfd
       rw [ht] at y0 y1 hfd
       clear hcx hcy kq hs ht
       go_wp2_with fail
       refine wp_region_eager [0, 1, 2, 3, 4, 5, 6, 7, 8, 9, 10, 11, 12, 13, 14, 15, 16, 17, 18, 19, 20] (fun W => Kept none' wq W) (by kernel_rfl) (by kernel_rfl) rfl (Kept.refl _ _).drew ?_
       simp only [List.map_cons, List.map_nil, List.getElem?_toArray, List.getElem?_cons_zero, List.getElem?_cons_succ, Option.getD_some]
       iterate 3 (apply wpL_float rfl rfl; (intro W hW; go_simp; rfl); go_frame)
       refine wpL_float (v := .bool false) rfl rfl (by intro W hW; go_simp; try (simp; try omega)) ?_
       go_frame
       iterate 1 (apply wpL_float rfl rfl; (intro W hW; go_simp; rfl); go_frame)
       iterate 3 (apply wpL_float rfl rfl; (intro W hW; go_simp; rfl); go_frame)
       refine wpL_float (v := .bool false) rfl rfl (by intro W hW; go_simp; try (simp; try omega)) ?_
       go_frame
       iterate 2 (apply wpL_float rfl rfl; (intro W hW; go_simp; rfl); go_frame)
       iterate 8 (apply wpL_float rfl rfl; (intro W hW; have c0 := hW.cell (p := ⟨bx, ox + k * 2, none⟩) (fun h => h) x0; have c1 := hW.cell (p := ⟨bx, ox + k * 2 + 1, none⟩) (fun h => h) x1; have d0 := hW.cell (p := ⟨by', oy + k * 2, none⟩) (fun h => h) y0; have d1 := hW.cell (p := ⟨by', oy + k * 2 + 1, none⟩) (fun h => h) y1; go_simp; rfl); go_frame)
       refine wpL_float (v := .bool (decide (s ≠ t))) rfl rfl ?_ ?_
       ·intro W hW
        go_simp
        by_cases hst : s = t
        ·subst hst; simp
        ·have : s.1 ≠ t.1 ∨ s.2 ≠ t.2 := by
          by_cases h1 : s.1 = t.1
          ·right; intro h2; exact hst (Prod.ext h1 h2)
          ·left; exact h1
         rcases this with h | h
         ·simp [h, hst]
         ·simp [h, hst]
       go_frame
       clear x0 x1 y0 y1
       by_cases hst : s = t
       ·have hf : decide (s ≠ t) = false := by simp [hst]
        rw [hf]
        rw [if_pos hst] at hfd
        have HF := Lib.hid hfd
        clear hf hst hfd
        apply wpL_float rfl rfl; (intro W hW; go_simp; rfl); go_frame
        refine wpL_nil (fun _ => (Kept.refl _ _).drew) ?_
        go_wp2_with fail
        go_roundg (M - (k + 1))
        case rel => exact ⟨k + 1, by omega, by go_num, Nat.le_refl _, by rw [Q.out.2.1]; exact HF.out.out, Q.out.2.2.drew⟩
        case measure => have := Q.out.1; omega
       ·have hf : decide (s ≠ t) = true := by simp [hst]
        rw [hf]
        rw [if_neg hst] at hfd
        have HF := Lib.hid hfd
        clear hf hst hfd
        apply wpL_float rfl rfl; (intro W hW; go_simp; rfl); go_frame
        refine wpL_nil (fun _ => (Kept.refl _ _).drew) ?_
        go_wp2_with fail
        obtain ⟨q0, q1, q2, kE⟩ := verd_stored (w := w) (Q.out.2.2.heap H.out.2.2.2.2.2 (fun h => h)) (H.out.2.2.1.trans Q.out.2.2) (by omega) false (p : Int) (k : Int)
        refine bodyPost_ret (v := .agg #[.bool false, .int .i64 (p : Int), .int .i64 (k : Int)]) (by simp [results, Tryz.results51, go_sem, q0, q1, q2]) rfl ⟨by rw [compareV_at hlt G.out.2.1 (show firstU (x p) (y p) 0 = some k by rw [G.out.2.2.2.1, G.out.2.2.2.2.1, Q.out.2.1]; exact HF.out.out)]; rfl, kE⟩
    ·have hlast : firstU X Y 0 = none := by rw [Q.out.2.1]; exact firstU_end (by have := HM.out; omega) (by have := HM.out; omega) k
     have hn : ∀ q, q < p + 1 → firstU (x q) (y q) 0 = none := fun q hq => by
      by_cases hqp : q = p
      ·subst hqp; rw [G.out.2.2.2.1, G.out.2.2.2.2.1]; exact hlast
      ·exact G.out.2.1 q (by omega)
     have HN := Lib.hid hn
     clear hlast hn
     go_wp2_with fail
     go_roundg (2 - (p + 1))
     case rel => exact ⟨p + 1, by omega, by go_num, Nat.le_refl _, HN.out, Q.out.2.2⟩
     case measure => have := G.out.1; omega
  ·have hp2 : p = 2 := by omega
   subst hp2
   have t2 := hkp.heap H.out.2.2.2.2.2 (fun h => h)
   have f0 := cells_at t2 (j := 0) rfl
   have f1 := cells_at t2 (j := 1) rfl
   have f2 := cells_at t2 (j := 2) rfl
   have g0 := free_at t2 0
   have g1 := free_at t2 1
   have g2 := free_at t2 2
   have Q := Lib.hid (And.intro t2 (And.intro hw hnone))
   clear hkp hg t2 hw hnone
   go_wp2_with fail
   obtain ⟨q0, q1, q2, kE⟩ := verd_store (w := w) Q.out.1 Q.out.2.1 (by omega) true 0 0
   refine bodyPost_ret (v := .agg #[.bool true, .int .i64 0, .int .i64 0]) (by simp [results, Tryz.results51, go_sem, q0, q1, q2]) rfl ⟨by rw [compareV_all Q.out.2.2]; rfl, kE⟩
end Go.Proofs.YtopeleenlcnkkaaGreatDoor
/-
 WHAT IS CARRIED, IN PLAIN WORDS: states of one job for another one.
-/
namespace Go.Proofs.YtopeleenlcnkkaaGreatDoor
open Go Go.RowKit
end Go.Proofs.YtopeleenlcnkkaaGreatDoor
/-
 COURSES IN PLAIN WORDS: a job, turns to other jobs, records: what comes out.
-/
namespace Go.Proofs.YtopeleenlcnkkaaGreatDoor
open Go Go.RowKit
theorem goL_ok {j : Jb} (hj : jobOk j = true) (hR : JR j.nodes) : ∀ (l : List (Int × Int)) (Ts : Tabs), TabsOk j.nodes Ts → (∀ y ∈ l, R64 y.1 ∧ R64 y.2) → TabsOk j.nodes (goL j.nodes Ts l).2 ∧ (∀ q ∈ (goL j.nodes Ts l).1, RecOk q) ∧ (goL j.nodes Ts l).1.length ≤ 64 * l.length
 | [], Ts, h, _ => ⟨h, by simp [goL], by simp [goL]⟩
 | y :: l, Ts, h, hy => by
  obtain ⟨k1, k2⟩ := hy y (by simp)
  obtain ⟨f1, f2, _, f4⟩ := feedP_ok hj hR h k1 k2
  obtain ⟨g1, g2, g3⟩ := goL_ok hj hR l _ f1 (fun z hz => hy z (by simp [hz]))
  refine ⟨g1, fun q hq => ?_, ?_⟩
  ·simp only [goL] at hq
   rcases List.mem_append.1 hq with hq | hq
   ·exact f2 q hq
   ·exact g2 q hq
  ·simp only [goL, List.length_append, List.length_cons]
   omega
end Go.Proofs.YtopeleenlcnkkaaGreatDoor
