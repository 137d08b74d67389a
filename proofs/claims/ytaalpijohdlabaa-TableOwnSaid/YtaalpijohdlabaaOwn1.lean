/-
  TableOwn: its walk.
-/
import Derived.Test.YtaalpijohdlabaaTab8
namespace Go.Proofs.Ytaalpijohdlabaa
open Go Go.RowKit
theorem NoCells.below {w : World} {b B : Nat} (h : b < B) : NoCells w (one b) B := fun k hk hB => by cases hk; omega
/-- Two stores at one place: the second puts back what was there. -/
theorem kept_back {w w1 w2 w3 : World} {a : Addr} {v x : Value} (hv : w.cell? a = some v) (k1 : Kept none' w w1) (hs : a.spot = none) (k2 : Kept none' (w1.setCell a x) w2) (hw3 : w3 = w2.setCell a v) : Kept none' w w3 := by
  have hb := block_lt_of_cell hv
  refine ⟨?_, ?_, ?_, ?_, fun k hk _ => ?_⟩
  · rw [hw3]; exact k2.os.trans k1.os
  · rw [hw3]; exact k2.tape.trans k1.tape
  · rw [hw3]; exact k2.output.trans k1.output
  · rw [hw3]; have h1 := k1.size; have h2 := k2.size; simp at h2 ⊢; omega
  · rw [hw3]
    by_cases he : k = a.block
    · subst he
      obtain ⟨c, E, f, hcell⟩ : ∃ c E f, w.heap[a.block]? = some (.cells c E f) := by
        unfold World.cell? at hv
        split at hv
        · rename_i c E f h; exact ⟨c, E, f, h⟩
        · cases hv
      have h1 : w1.heap[a.block]? = some (.cells c E f) := k1.heap hcell (fun h => h)
      have h2 : (w1.setCell a x).heap[a.block]? = some (.cells (c.setIfInBounds a.off x) E f) := by
        simp [World.setCell, Array.getElem?_modify, h1, hs]
      have h3 : w2.heap[a.block]? = some (.cells (c.setIfInBounds a.off x) E f) := k2.heap h2 (fun h => h)
      have h4 : (w2.setCell a v).heap[a.block]? = some (.cells ((c.setIfInBounds a.off x).setIfInBounds a.off v) E f) := by
        simp [World.setCell, Array.getElem?_modify, h3, hs]
      rw [h4, hcell]
      have hcv : c[a.off]? = some v := by
        unfold World.cell? at hv
        rw [hcell] at hv
        simpa [hs] using hv
      congr 2
      apply Array.ext_getElem?
      intro i
      by_cases hi : a.off = i
      · subst hi
        have hlt := (Array.getElem?_eq_some_iff.1 hcv).1
        simp [hlt] at hcv ⊢
        exact hcv.symm
      · simp [Array.getElem?_setIfInBounds_ne hi]
    · rw [Below.heap_setCell _ _ _ _ he, k2.block k (by simp; have := k1.size; omega) (fun h => h), Below.heap_setCell _ _ _ _ he, k1.block k hk (fun h => h)]
/-- A row of one's own that is not empty: its first cell. -/
theorem owns_first {w : World} {base e n : Nat} {v x : Value} {xs : List Value} (h : w.ownsRow base e 1 v n (x :: xs)) : ∃ g cap, v = .slice (some ⟨g, 0, none⟩) n cap ∧ base ≤ g ∧ g < w.heap.size ∧ w.cell? ⟨g, 0, none⟩ = some x ∧ w.frozen? ⟨g, 0, none⟩ = false := by
  obtain ⟨h1, ⟨_, rfl⟩ | ⟨g, cap, cur, rfl, hb, hg, _, _, _, ht⟩⟩ := h
  · simp at h1
  · refine ⟨g, cap, rfl, hb, (Array.getElem?_eq_some_iff.1 hg).1, ?_, frozen_of_row w g 0 cur e hg⟩
    rw [cell_of_row w g 0 cur e (0, 0) hg]
    have h2 : (cur.toList.take (n * 1))[0]? = some x := by rw [ht]; rfl
    rw [List.getElem?_take] at h2
    split at h2
    · simpa using h2
    · cases h2
set_option maxRecDepth 100000 in
set_option maxHeartbeats 1000000 in
theorem own_yes (key by' x0 : Int) (l : List Int) (b off cap : Nat) (w : World) (hk : R64 key) (hl : ∀ x ∈ x0 :: l, R64 x) (hlen : l.length ≤ 15) (hcap : (x0 :: l).length ≤ cap) (hcm : cap ≤ maxLen)
    (hc : ∀ i x, (x0 :: l)[i]? = some x → w.cell? ⟨b, off + i, none⟩ = some (.int .i64 x)) (hf : w.frozen? ⟨b, off, none⟩ = false) :
    Calls Try.prog 3 #[.int .i64 key, .slice (some ⟨b, off, none⟩) (l.length + 1) cap, .int .i64 by'] w (Gives w (.bool true)) := by
  have hr : Reads w 1 (.slice (some ⟨b, off, none⟩) (l.length + 1) cap) (ints (x0 :: l)) := ⟨_, _, _, rfl, hcap, hcm, by simp, .inr ⟨b, off, rfl, fun i x hx => by
    have : (ints (x0 :: l))[i]? = some x := hx
    unfold ints at this
    rw [List.getElem?_map] at this
    obtain ⟨y, hy, rfl⟩ := Option.map_eq_some_iff.1 this
    exact hc i y hy⟩⟩
  have q0 : w.cell? ⟨b, off, none⟩ = some (.int .i64 x0) := by have := hc 0 x0 rfl; simpa using this
  have hbw := block_lt_of_cell q0
  simp only [] at hbw
  have hE : putE [] key ((0 : Int), x0 :: l).2.length = 0 := by unfold putE; simp [tmany]; omega
  have hT : putT [] key (0, x0 :: l) = [(key, (0, x0 :: l))] := by unfold putT; rw [if_pos hE]; rfl
  have HR := Lib.hid hr
  have HE := Lib.hid hE
  have HT := Lib.hid hT
  have HL := Lib.hid hl
  clear hc hr hE hT hl hcap hcm
  go_enter Try.func3, Try.ntmps3
  go_wp2_with fail
  refine (new_any w).mono ?_
  rintro e w1 ⟨tb, tm, rfl, h1, k1⟩
  have hm := h1.hm
  have q1 := k1.cell (fun h => h) q0
  go_wp2_with fail
  have c1 := put_any w.heap.size tb tm [] key (0, x0 :: l) _ w1 h1 k1.size hk (.small (by simp) (by simp)) HL.out (by simp; omega) (HR.out.pure k1)
  refine c1.mono ?_
  clear c1
  rintro e w2 hq2
  have k2 := hq2.none k1 hm
  obtain ⟨rfl, h2, _⟩ := hq2
  rw [HT.out] at h2
  rw [HE.out]
  have q2 := k2.cell (fun h => h) q0
  have f2 : w2.frozen? ⟨b, off, none⟩ = false := by rw [k2.fq b off hbw]; exact hf
  clear h1 q1
  go_wp2_with fail
  obtain ⟨w3, hw3⟩ : ∃ w3, w2.setCell ⟨b, off, none⟩ (.int .i64 (wrap64 (x0 + by'))) = w3 := ⟨_, rfl⟩
  have k3 : Kept (one b) w2 w3 := by rw [← hw3]; exact (Kept.refl (one b) w2).setCell (p := ⟨b, off, none⟩) (.inl rfl) _
  have h3 := h2.kept k3 (.below (B := w.heap.size) hbw) (by unfold one; omega)
  have q3 : w3.cell? ⟨b, off, none⟩ = some (.int .i64 (wrap64 (x0 + by'))) := by rw [← hw3, World.cell?_setCell_same _ _ _ q2]
  have hs3 : w2.heap.size = w3.heap.size := by rw [← hw3]; simp
  have f3 : w3.frozen? ⟨b, off, none⟩ = false := by rw [← hw3]; simpa using f2
  have HW := Lib.hid hw3
  rw [hw3]
  clear hw3 h2
  have hsz3 : w.heap.size ≤ w3.heap.size := by have := k2.size; omega
  have HS3 := Lib.hid hs3
  clear hs3
  refine (get_any w.heap.size tb tm _ key w3 h3).mono ?_
  rintro e w4 ⟨lv, n4, rfl, g1, g2, k4⟩
  rw [show tget [(key, ((0 : Int), x0 :: l))] key = some (0, x0 :: l) from by simp [tget]] at g1 g2 ⊢
  simp only [Option.getD_some, Option.isSome_some] at g1 g2 ⊢
  obtain ⟨g, cap4, rfl, hg1, hg2, c4, f4⟩ := owns_first g1
  have g2' : n4 = l.length + 1 := by simpa using g2
  subst g2'
  clear g1 g2
  have q4 : w4.cell? ⟨b, off, none⟩ = some (.int .i64 (wrap64 (x0 + by'))) := by rw [k4.cq b off (by omega)]; exact q3
  have f4b : w4.frozen? ⟨b, off, none⟩ = false := by rw [k4.fq b off (by omega)]; exact f3
  go_wp2_with fail
  obtain ⟨w5, hw5⟩ : ∃ w5, ((w4.setCell ⟨g, 0, none⟩ (.int .i64 by')).alloc (.cells #[.int .i64 0, .slice (some ⟨g, 0, none⟩) (l.length + 1) cap4] 29)) = w5 := ⟨_, rfl⟩
  have k5 : Kept none' w3 w5 := by rw [← hw5]; exact (k4.setCell (p := ⟨g, 0, none⟩) (.inr hg1) _).alloc _
  have q5 : w5.cell? ⟨b, off, none⟩ = some (.int .i64 (wrap64 (x0 + by'))) := by rw [k5.cq b off (by omega)]; exact q3
  have f5 : w5.frozen? ⟨b, off, none⟩ = false := by rw [k5.fq b off (by omega)]; exact f3
  rw [hw5]
  clear hw5 q4 f4b c4 f4 q3 f3
  have hsz5 := k5.size
  refine (get_any w.heap.size tb tm _ key w5 (h3.pure k5)).mono ?_
  rintro e w6 ⟨lv, n6, rfl, g1, g2, k6⟩
  rw [show tget [(key, ((0 : Int), x0 :: l))] key = some (0, x0 :: l) from by simp [tget]] at g1 g2 ⊢
  simp only [Option.getD_some, Option.isSome_some] at g1 g2 ⊢
  obtain ⟨g', cap6, rfl, hg1', hg2', c6, f6⟩ := owns_first g1
  have g2' : n6 = l.length + 1 := by simpa using g2
  subst g2'
  clear g1 g2
  have q6 : w6.cell? ⟨b, off, none⟩ = some (.int .i64 (wrap64 (x0 + by'))) := by rw [k6.cq b off (by omega)]; exact q5
  have f6b : w6.frozen? ⟨b, off, none⟩ = false := by rw [k6.fq b off (by omega)]; exact f5
  have hne : g' ≠ b := by omega
  have hsz6 := k6.size
  have hb6 : b < w6.heap.size := by omega
  clear q5 f5
  go_wp2_with fail
  have k7 : Kept none' w (w6.setCell ⟨b, off, none⟩ (.int .i64 x0)) := kept_back (a := ⟨b, off, none⟩) (w1 := w2) (x := .int .i64 (wrap64 (x0 + by'))) (w2 := w6) q0 k2 rfl (by rw [HW.out]; exact k5.trans k6) rfl
  refine (works16 _).mono ?_
  rintro e w8 ⟨rfl, k8⟩
  have F : Gives w (.bool true) (.returned (.bool true)) w8 := ⟨rfl, (k7.alloc _).trans k8⟩
  go_wp2_with fail
  go_ret
  exact F
set_option maxHeartbeats 400000 in
theorem own_no (key by' : Int) (a : Option Addr) (n cap : Nat) (w : World) (hn : n = 0 ∨ 16 < n) :
    Calls Try.prog 3 #[.int .i64 key, .slice a n cap, .int .i64 by'] w (Gives w (.bool true)) := by
  rcases hn with rfl | hn
  · go_enter Try.func3, Try.ntmps3
    go_wp2_with fail
    refine (works16 _).mono ?_
    rintro e w8 ⟨rfl, k8⟩
    go_wp2_with fail
    go_ret
    exact ⟨rfl, k8⟩
  · go_enter Try.func3, Try.ntmps3
    go_wp2_with fail
    refine (works16 _).mono ?_
    rintro e w8 ⟨rfl, k8⟩
    go_wp2_with fail
    go_ret
    exact ⟨rfl, k8⟩
end Go.Proofs.Ytaalpijohdlabaa
