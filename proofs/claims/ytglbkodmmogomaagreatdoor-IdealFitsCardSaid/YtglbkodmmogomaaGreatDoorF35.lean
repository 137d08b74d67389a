/-
  expr's reader: the levels.
-/
import Derived.Test.YtglbkodmmogomaaGreatDoorF34
import Derived.Shelf.Abstract
import Derived.Test.YtglbkodmmogomaaGreatDoorF33
import Derived.Test.YtglbkodmmogomaaGreatDoorF32
set_option linter.unusedVariables false
set_option linter.unusedSimpArgs false
namespace Go.Proofs.YtglbkodmmogomaaGreatDoor
open Go Go.RowKit
attribute [local irreducible] wpL
theorem sgnC_get : ∀ {l : List Sgn} {i : Nat} {s : Sgn}, l[i]? = some s → (sgnC l)[i * 2]? = some (.string s.1) ∧ (sgnC l)[i * 2 + 1]? = some (.int .u8 s.2)
  | x :: l, 0, s, h => by
    cases h
    exact ⟨rfl, rfl⟩
  | x :: l, i + 1, s, h => by
    have ih := sgnC_get (l := l) (i := i) (s := s) (by simpa using h)
    rw [show (i + 1) * 2 = i * 2 + 1 + 1 by omega]
    unfold sgnC at ih ⊢
    rw [List.flatMap_cons]
    exact ih
abbrev termS : List Sgn := [(⟨#[42]⟩, 9), (⟨#[47]⟩, 10), (⟨#[37]⟩, 11)]
def termP (l : List Tok) : Option (Ex × List Tok) := levelP leafT termS 400 l
set_option maxRecDepth 100000 in
set_option maxHeartbeats 4000000 in
theorem term_any (R : Nat) (e : Int) : LvC 276 R e termP := by
  intro w l l' x h hl
  have hlt := h.lt
  obtain ⟨W0, hW0⟩ : ∃ W0, ((w.alloc (.cells #[.int .u8 0, .int .i64 0, .slice none 0 0] 40)).alloc (.cells #[.string ⟨#[42]⟩, .int .u8 9, .string ⟨#[47]⟩, .int .u8 10, .string ⟨#[37]⟩, .int .u8 11] 305)) = W0 := ⟨_, rfl⟩
  have k0 : Kept none' w W0 := by rw [← hW0]; exact ((Kept.refl _ _).alloc _).alloc _
  have t0 : W0.heap[w.heap.size]? = some (.cells #[.int .u8 0, .int .i64 0, .slice none 0 0] 40 (0, 0)) := by
    rw [← hW0]
    exact ((Kept.refl none' _).alloc _).heap (heap_alloc_new w (.cells #[.int .u8 0, .int .i64 0, .slice none 0 0] 40)) (fun h => h)
  have s0 : W0.heap[w.heap.size + 1]? = some (.cells (sgnC termS).toArray 305 (0, 0)) := by
    rw [← hW0]
    have := heap_alloc_new (w.alloc (.cells #[.int .u8 0, .int .i64 0, .slice none 0 0] 40)) (.cells #[.string ⟨#[42]⟩, .int .u8 9, .string ⟨#[47]⟩, .int .u8 10, .string ⟨#[37]⟩, .int .u8 11] 305)
    rwa [World.size_alloc] at this
  have hsz0 : W0.heap.size = w.heap.size + 2 := by rw [← hW0]; simp
  have cr : Calls Tryz.prog 229 #[.pointer (some ⟨R, 0, none⟩), .func (.func 278) #[.pointer (some ⟨R, 0, none⟩)] #[], .int .i64 400, .slice (some ⟨w.heap.size + 1, 0, none⟩) 3 3] W0 (LvQ W0 R e x l') :=
    row_any R e 278 leafT (enters_of Tryz.func278 (by kernel_rfl) rfl) (runary_any R e) termS (w.heap.size + 1) 400 W0 l l' x (h.pure k0) hl (by omega) (by decide) (by omega) (by decide)
      (fun i s hs => by
        obtain ⟨q0, q1⟩ := sgnC_get hs
        exact ⟨cells_at s0 (by rw [List.getElem?_toArray]; exact q0), cells_at s0 (by rw [List.getElem?_toArray]; exact q1)⟩) (by omega)
  have H := Lib.hid (And.intro k0 (And.intro t0 hsz0))
  have HW := Lib.hid hW0
  clear k0 t0 s0 hsz0 h hW0 hl
  go_enter Tryz.func276, Tryz.ntmps276
  go_wp2_with fail
  rw [HW.out]
  (with_reducible refine cr.mono ?_)
  clear cr
  rintro e' w5 ⟨p, c, D, rfl, hx, hD, r5, k5⟩
  have t5 := k5.heap H.out.2.1 (fun h => by unfold one at h; omega)
  have f0 := free_at t5 0
  have f1 := free_at t5 1
  have f2 := free_at t5 2
  have z0 := cells_at t5 (j := 0) rfl
  have z1 := cells_at t5 (j := 1) rfl
  have z2 := cells_at t5 (j := 2) rfl
  have F := LvQ.wrap hlt H.out.1.pure (Array.getElem?_eq_some_iff.1 H.out.2.1).1 hx hD r5 k5 t5
  have s5 := (store3 t5 (.int .u8 x.op) (.int .i64 x.n) (.slice p x.args.length c)).1
  have hs5 : w.heap.size < w5.heap.size := (Array.getElem?_eq_some_iff.1 t5).1
  clear hx hD r5 k5 t5
  go_wp2_with fail
  obtain ⟨WF, hWF⟩ : ∃ WF, (((w5.setCell ⟨w.heap.size, 0, none⟩ (.int .u8 x.op)).setCell ⟨w.heap.size, 1, none⟩ (.int .i64 x.n)).setCell ⟨w.heap.size, 2, none⟩ (.slice p x.args.length c)) = WF := ⟨_, rfl⟩
  rw [hWF] at s5 F ⊢
  have q0 := cells_at s5 (j := 0) rfl
  have q1 := cells_at s5 (j := 1) rfl
  have q2 := cells_at s5 (j := 2) rfl
  refine bodyPost_ret (v := .agg (exC x p c).toArray) (by simp [results, Tryz.results276, go_sem, q0, q1, q2]) rfl F
abbrev sumS : List Sgn := [(⟨#[43]⟩, 7), (⟨#[45]⟩, 8)]
def sumP (l : List Tok) : Option (Ex × List Tok) := levelP termP sumS 400 l
set_option maxRecDepth 100000 in
set_option maxHeartbeats 4000000 in
theorem sum_any (R : Nat) (e : Int) : LvC 272 R e sumP := by
  intro w l l' x h hl
  have hlt := h.lt
  obtain ⟨W0, hW0⟩ : ∃ W0, ((w.alloc (.cells #[.int .u8 0, .int .i64 0, .slice none 0 0] 40)).alloc (.cells #[.string ⟨#[43]⟩, .int .u8 7, .string ⟨#[45]⟩, .int .u8 8] 305)) = W0 := ⟨_, rfl⟩
  have k0 : Kept none' w W0 := by rw [← hW0]; exact ((Kept.refl _ _).alloc _).alloc _
  have t0 : W0.heap[w.heap.size]? = some (.cells #[.int .u8 0, .int .i64 0, .slice none 0 0] 40 (0, 0)) := by
    rw [← hW0]
    exact ((Kept.refl none' _).alloc _).heap (heap_alloc_new w (.cells #[.int .u8 0, .int .i64 0, .slice none 0 0] 40)) (fun h => h)
  have s0 : W0.heap[w.heap.size + 1]? = some (.cells (sgnC sumS).toArray 305 (0, 0)) := by
    rw [← hW0]
    have := heap_alloc_new (w.alloc (.cells #[.int .u8 0, .int .i64 0, .slice none 0 0] 40)) (.cells #[.string ⟨#[43]⟩, .int .u8 7, .string ⟨#[45]⟩, .int .u8 8] 305)
    rwa [World.size_alloc] at this
  have hsz0 : W0.heap.size = w.heap.size + 2 := by rw [← hW0]; simp
  have cr : Calls Tryz.prog 229 #[.pointer (some ⟨R, 0, none⟩), .func (.func 276) #[.pointer (some ⟨R, 0, none⟩)] #[], .int .i64 400, .slice (some ⟨w.heap.size + 1, 0, none⟩) 2 2] W0 (LvQ W0 R e x l') :=
    row_any R e 276 termP (enters_of Tryz.func276 (by kernel_rfl) rfl) (term_any R e) sumS (w.heap.size + 1) 400 W0 l l' x (h.pure k0) hl (by omega) (by decide) (by omega) (by decide)
      (fun i s hs => by
        obtain ⟨q0, q1⟩ := sgnC_get hs
        exact ⟨cells_at s0 (by rw [List.getElem?_toArray]; exact q0), cells_at s0 (by rw [List.getElem?_toArray]; exact q1)⟩) (by omega)
  have H := Lib.hid (And.intro k0 (And.intro t0 hsz0))
  have HW := Lib.hid hW0
  clear k0 t0 s0 hsz0 h hW0 hl
  go_enter Tryz.func272, Tryz.ntmps272
  go_wp2_with fail
  rw [HW.out]
  (with_reducible refine cr.mono ?_)
  clear cr
  rintro e' w5 ⟨p, c, D, rfl, hx, hD, r5, k5⟩
  have t5 := k5.heap H.out.2.1 (fun h => by unfold one at h; omega)
  have f0 := free_at t5 0
  have f1 := free_at t5 1
  have f2 := free_at t5 2
  have z0 := cells_at t5 (j := 0) rfl
  have z1 := cells_at t5 (j := 1) rfl
  have z2 := cells_at t5 (j := 2) rfl
  have F := LvQ.wrap hlt H.out.1.pure (Array.getElem?_eq_some_iff.1 H.out.2.1).1 hx hD r5 k5 t5
  have s5 := (store3 t5 (.int .u8 x.op) (.int .i64 x.n) (.slice p x.args.length c)).1
  have hs5 : w.heap.size < w5.heap.size := (Array.getElem?_eq_some_iff.1 t5).1
  clear hx hD r5 k5 t5
  go_wp2_with fail
  obtain ⟨WF, hWF⟩ : ∃ WF, (((w5.setCell ⟨w.heap.size, 0, none⟩ (.int .u8 x.op)).setCell ⟨w.heap.size, 1, none⟩ (.int .i64 x.n)).setCell ⟨w.heap.size, 2, none⟩ (.slice p x.args.length c)) = WF := ⟨_, rfl⟩
  rw [hWF] at s5 F ⊢
  have q0 := cells_at s5 (j := 0) rfl
  have q1 := cells_at s5 (j := 1) rfl
  have q2 := cells_at s5 (j := 2) rfl
  refine bodyPost_ret (v := .agg (exC x p c).toArray) (by simp [results, Tryz.results272, go_sem, q0, q1, q2]) rfl F
abbrev cmpS : List Sgn := [(⟨#[60]⟩, 12), (⟨#[60, 61]⟩, 13), (⟨#[61]⟩, 14), (⟨#[33, 61]⟩, 15)]
def cmpP (l : List Tok) : Option (Ex × List Tok) := levelP sumP cmpS 1 l
set_option maxRecDepth 100000 in
set_option maxHeartbeats 4000000 in
theorem cmp_any (R : Nat) (e : Int) : LvC 259 R e cmpP := by
  intro w l l' x h hl
  have hlt := h.lt
  obtain ⟨W0, hW0⟩ : ∃ W0, ((w.alloc (.cells #[.int .u8 0, .int .i64 0, .slice none 0 0] 40)).alloc (.cells #[.string ⟨#[60]⟩, .int .u8 12, .string ⟨#[60, 61]⟩, .int .u8 13, .string ⟨#[61]⟩, .int .u8 14, .string ⟨#[33, 61]⟩, .int .u8 15] 305)) = W0 := ⟨_, rfl⟩
  have k0 : Kept none' w W0 := by rw [← hW0]; exact ((Kept.refl _ _).alloc _).alloc _
  have t0 : W0.heap[w.heap.size]? = some (.cells #[.int .u8 0, .int .i64 0, .slice none 0 0] 40 (0, 0)) := by
    rw [← hW0]
    exact ((Kept.refl none' _).alloc _).heap (heap_alloc_new w (.cells #[.int .u8 0, .int .i64 0, .slice none 0 0] 40)) (fun h => h)
  have s0 : W0.heap[w.heap.size + 1]? = some (.cells (sgnC cmpS).toArray 305 (0, 0)) := by
    rw [← hW0]
    have := heap_alloc_new (w.alloc (.cells #[.int .u8 0, .int .i64 0, .slice none 0 0] 40)) (.cells #[.string ⟨#[60]⟩, .int .u8 12, .string ⟨#[60, 61]⟩, .int .u8 13, .string ⟨#[61]⟩, .int .u8 14, .string ⟨#[33, 61]⟩, .int .u8 15] 305)
    rwa [World.size_alloc] at this
  have hsz0 : W0.heap.size = w.heap.size + 2 := by rw [← hW0]; simp
  have cr : Calls Tryz.prog 229 #[.pointer (some ⟨R, 0, none⟩), .func (.func 272) #[.pointer (some ⟨R, 0, none⟩)] #[], .int .i64 1, .slice (some ⟨w.heap.size + 1, 0, none⟩) 4 4] W0 (LvQ W0 R e x l') :=
    row_any R e 272 sumP (enters_of Tryz.func272 (by kernel_rfl) rfl) (sum_any R e) cmpS (w.heap.size + 1) 1 W0 l l' x (h.pure k0) hl (by omega) (by decide) (by omega) (by decide)
      (fun i s hs => by
        obtain ⟨q0, q1⟩ := sgnC_get hs
        exact ⟨cells_at s0 (by rw [List.getElem?_toArray]; exact q0), cells_at s0 (by rw [List.getElem?_toArray]; exact q1)⟩) (by omega)
  have H := Lib.hid (And.intro k0 (And.intro t0 hsz0))
  have HW := Lib.hid hW0
  clear k0 t0 s0 hsz0 h hW0 hl
  go_enter Tryz.func259, Tryz.ntmps259
  go_wp2_with fail
  rw [HW.out]
  (with_reducible refine cr.mono ?_)
  clear cr
  rintro e' w5 ⟨p, c, D, rfl, hx, hD, r5, k5⟩
  have t5 := k5.heap H.out.2.1 (fun h => by unfold one at h; omega)
  have f0 := free_at t5 0
  have f1 := free_at t5 1
  have f2 := free_at t5 2
  have z0 := cells_at t5 (j := 0) rfl
  have z1 := cells_at t5 (j := 1) rfl
  have z2 := cells_at t5 (j := 2) rfl
  have F := LvQ.wrap hlt H.out.1.pure (Array.getElem?_eq_some_iff.1 H.out.2.1).1 hx hD r5 k5 t5
  have s5 := (store3 t5 (.int .u8 x.op) (.int .i64 x.n) (.slice p x.args.length c)).1
  have hs5 : w.heap.size < w5.heap.size := (Array.getElem?_eq_some_iff.1 t5).1
  clear hx hD r5 k5 t5
  go_wp2_with fail
  obtain ⟨WF, hWF⟩ : ∃ WF, (((w5.setCell ⟨w.heap.size, 0, none⟩ (.int .u8 x.op)).setCell ⟨w.heap.size, 1, none⟩ (.int .i64 x.n)).setCell ⟨w.heap.size, 2, none⟩ (.slice p x.args.length c)) = WF := ⟨_, rfl⟩
  rw [hWF] at s5 F ⊢
  have q0 := cells_at s5 (j := 0) rfl
  have q1 := cells_at s5 (j := 1) rfl
  have q2 := cells_at s5 (j := 2) rfl
  refine bodyPost_ret (v := .agg (exC x p c).toArray) (by simp [results, Tryz.results259, go_sem, q0, q1, q2]) rfl F
abbrev andS : List Sgn := [(⟨#[38]⟩, 16)]
def andP (l : List Tok) : Option (Ex × List Tok) := levelP cmpP andS 400 l
set_option maxRecDepth 100000 in
set_option maxHeartbeats 4000000 in
theorem and_any (R : Nat) (e : Int) : LvC 230 R e andP := by
  intro w l l' x h hl
  have hlt := h.lt
  obtain ⟨W0, hW0⟩ : ∃ W0, ((w.alloc (.cells #[.int .u8 0, .int .i64 0, .slice none 0 0] 40)).alloc (.cells #[.string ⟨#[38]⟩, .int .u8 16] 305)) = W0 := ⟨_, rfl⟩
  have k0 : Kept none' w W0 := by rw [← hW0]; exact ((Kept.refl _ _).alloc _).alloc _
  have t0 : W0.heap[w.heap.size]? = some (.cells #[.int .u8 0, .int .i64 0, .slice none 0 0] 40 (0, 0)) := by
    rw [← hW0]
    exact ((Kept.refl none' _).alloc _).heap (heap_alloc_new w (.cells #[.int .u8 0, .int .i64 0, .slice none 0 0] 40)) (fun h => h)
  have s0 : W0.heap[w.heap.size + 1]? = some (.cells (sgnC andS).toArray 305 (0, 0)) := by
    rw [← hW0]
    have := heap_alloc_new (w.alloc (.cells #[.int .u8 0, .int .i64 0, .slice none 0 0] 40)) (.cells #[.string ⟨#[38]⟩, .int .u8 16] 305)
    rwa [World.size_alloc] at this
  have hsz0 : W0.heap.size = w.heap.size + 2 := by rw [← hW0]; simp
  have cr : Calls Tryz.prog 229 #[.pointer (some ⟨R, 0, none⟩), .func (.func 259) #[.pointer (some ⟨R, 0, none⟩)] #[], .int .i64 400, .slice (some ⟨w.heap.size + 1, 0, none⟩) 1 1] W0 (LvQ W0 R e x l') :=
    row_any R e 259 cmpP (enters_of Tryz.func259 (by kernel_rfl) rfl) (cmp_any R e) andS (w.heap.size + 1) 400 W0 l l' x (h.pure k0) hl (by omega) (by decide) (by omega) (by decide)
      (fun i s hs => by
        obtain ⟨q0, q1⟩ := sgnC_get hs
        exact ⟨cells_at s0 (by rw [List.getElem?_toArray]; exact q0), cells_at s0 (by rw [List.getElem?_toArray]; exact q1)⟩) (by omega)
  have H := Lib.hid (And.intro k0 (And.intro t0 hsz0))
  have HW := Lib.hid hW0
  clear k0 t0 s0 hsz0 h hW0 hl
  go_enter Tryz.func230, Tryz.ntmps230
  go_wp2_with fail
  rw [HW.out]
  (with_reducible refine cr.mono ?_)
  clear cr
  rintro e' w5 ⟨p, c, D, rfl, hx, hD, r5, k5⟩
  have t5 := k5.heap H.out.2.1 (fun h => by unfold one at h; omega)
  have f0 := free_at t5 0
  have f1 := free_at t5 1
  have f2 := free_at t5 2
  have z0 := cells_at t5 (j := 0) rfl
  have z1 := cells_at t5 (j := 1) rfl
  have z2 := cells_at t5 (j := 2) rfl
  have F := LvQ.wrap hlt H.out.1.pure (Array.getElem?_eq_some_iff.1 H.out.2.1).1 hx hD r5 k5 t5
  have s5 := (store3 t5 (.int .u8 x.op) (.int .i64 x.n) (.slice p x.args.length c)).1
  have hs5 : w.heap.size < w5.heap.size := (Array.getElem?_eq_some_iff.1 t5).1
  clear hx hD r5 k5 t5
  go_wp2_with fail
  obtain ⟨WF, hWF⟩ : ∃ WF, (((w5.setCell ⟨w.heap.size, 0, none⟩ (.int .u8 x.op)).setCell ⟨w.heap.size, 1, none⟩ (.int .i64 x.n)).setCell ⟨w.heap.size, 2, none⟩ (.slice p x.args.length c)) = WF := ⟨_, rfl⟩
  rw [hWF] at s5 F ⊢
  have q0 := cells_at s5 (j := 0) rfl
  have q1 := cells_at s5 (j := 1) rfl
  have q2 := cells_at s5 (j := 2) rfl
  refine bodyPost_ret (v := .agg (exC x p c).toArray) (by simp [results, Tryz.results230, go_sem, q0, q1, q2]) rfl F
abbrev orS : List Sgn := [(⟨#[124]⟩, 17)]
def orP (l : List Tok) : Option (Ex × List Tok) := levelP andP orS 400 l
set_option maxRecDepth 100000 in
set_option maxHeartbeats 4000000 in
theorem ror_any (R : Nat) (e : Int) : LvC 193 R e orP := by
  intro w l l' x h hl
  have hlt := h.lt
  obtain ⟨W0, hW0⟩ : ∃ W0, ((w.alloc (.cells #[.int .u8 0, .int .i64 0, .slice none 0 0] 40)).alloc (.cells #[.string ⟨#[124]⟩, .int .u8 17] 305)) = W0 := ⟨_, rfl⟩
  have k0 : Kept none' w W0 := by rw [← hW0]; exact ((Kept.refl _ _).alloc _).alloc _
  have t0 : W0.heap[w.heap.size]? = some (.cells #[.int .u8 0, .int .i64 0, .slice none 0 0] 40 (0, 0)) := by
    rw [← hW0]
    exact ((Kept.refl none' _).alloc _).heap (heap_alloc_new w (.cells #[.int .u8 0, .int .i64 0, .slice none 0 0] 40)) (fun h => h)
  have s0 : W0.heap[w.heap.size + 1]? = some (.cells (sgnC orS).toArray 305 (0, 0)) := by
    rw [← hW0]
    have := heap_alloc_new (w.alloc (.cells #[.int .u8 0, .int .i64 0, .slice none 0 0] 40)) (.cells #[.string ⟨#[124]⟩, .int .u8 17] 305)
    rwa [World.size_alloc] at this
  have hsz0 : W0.heap.size = w.heap.size + 2 := by rw [← hW0]; simp
  have cr : Calls Tryz.prog 229 #[.pointer (some ⟨R, 0, none⟩), .func (.func 230) #[.pointer (some ⟨R, 0, none⟩)] #[], .int .i64 400, .slice (some ⟨w.heap.size + 1, 0, none⟩) 1 1] W0 (LvQ W0 R e x l') :=
    row_any R e 230 andP (enters_of Tryz.func230 (by kernel_rfl) rfl) (and_any R e) orS (w.heap.size + 1) 400 W0 l l' x (h.pure k0) hl (by omega) (by decide) (by omega) (by decide)
      (fun i s hs => by
        obtain ⟨q0, q1⟩ := sgnC_get hs
        exact ⟨cells_at s0 (by rw [List.getElem?_toArray]; exact q0), cells_at s0 (by rw [List.getElem?_toArray]; exact q1)⟩) (by omega)
  have H := Lib.hid (And.intro k0 (And.intro t0 hsz0))
  have HW := Lib.hid hW0
  clear k0 t0 s0 hsz0 h hW0 hl
  go_enter Tryz.func193, Tryz.ntmps193
  go_wp2_with fail
  rw [HW.out]
  (with_reducible refine cr.mono ?_)
  clear cr
  rintro e' w5 ⟨p, c, D, rfl, hx, hD, r5, k5⟩
  have t5 := k5.heap H.out.2.1 (fun h => by unfold one at h; omega)
  have f0 := free_at t5 0
  have f1 := free_at t5 1
  have f2 := free_at t5 2
  have z0 := cells_at t5 (j := 0) rfl
  have z1 := cells_at t5 (j := 1) rfl
  have z2 := cells_at t5 (j := 2) rfl
  have F := LvQ.wrap hlt H.out.1.pure (Array.getElem?_eq_some_iff.1 H.out.2.1).1 hx hD r5 k5 t5
  have s5 := (store3 t5 (.int .u8 x.op) (.int .i64 x.n) (.slice p x.args.length c)).1
  have hs5 : w.heap.size < w5.heap.size := (Array.getElem?_eq_some_iff.1 t5).1
  clear hx hD r5 k5 t5
  go_wp2_with fail
  obtain ⟨WF, hWF⟩ : ∃ WF, (((w5.setCell ⟨w.heap.size, 0, none⟩ (.int .u8 x.op)).setCell ⟨w.heap.size, 1, none⟩ (.int .i64 x.n)).setCell ⟨w.heap.size, 2, none⟩ (.slice p x.args.length c)) = WF := ⟨_, rfl⟩
  rw [hWF] at s5 F ⊢
  have q0 := cells_at s5 (j := 0) rfl
  have q1 := cells_at s5 (j := 1) rfl
  have q2 := cells_at s5 (j := 2) rfl
  refine bodyPost_ret (v := .agg (exC x p c).toArray) (by simp [results, Tryz.results193, go_sem, q0, q1, q2]) rfl F
end Go.Proofs.YtglbkodmmogomaaGreatDoor
/-
  lex: tokens of a text of letters, blanks and the signs of sums.
-/
namespace Go.Proofs.YtglbkodmmogomaaGreatDoor
open Go Go.RowKit
attribute [local irreducible] wpL
/-- The runes that come. -/
def goodR (r : Nat) : Prop := r = 97 ∨ r = 99 ∨ r = 118 ∨ r = 108 ∨ r = 43 ∨ r = 45 ∨ r = 32
def kindL (r : Nat) : Int := if r = 43 ∨ r = 45 then 3 else if r = 32 then 0 else 1
def runeS (r : Nat) : ByteArray := Utf8.encode (r : Int)
def signI (r : Nat) : Bool := decide (0 ≤ Lib.indexByte [43, 45, 42, 47, 37, 40, 41, 38, 124, 33, 61, 60] ((r : Int)).toNat.toUInt8)
set_option maxRecDepth 100000 in
set_option maxHeartbeats 1000000 in
theorem kindL_gen (r : Nat) (hr : r < 128) (h48 : ¬ (48 ≤ r ∧ r ≤ 57)) (hsz : (runeS r).size ≤ maxLen) (w : World) :
    Calls Tryz.prog 228 #[.int .i32 (r : Int)] w (Gives w (.int .u8 (if signI r = true then 3 else if nameOk (runeS r) = true then 1 else 0))) := by
  have cc : Calls Tryz.prog 221 #[.string ⟨#[43, 45, 42, 47, 37, 40, 41, 38, 124, 33, 61, 60]⟩, .int .i32 (r : Int)] w fun e w' => e = .returned (.bool (signI r)) ∧ w' = w :=
    Any.strings_ContainsRune_ascii Tryz.crL ⟨#[43, 45, 42, 47, 37, 40, 41, 38, 124, 33, 61, 60]⟩ (r : Int) w (by omega) (by omega)
  have cn := name_any (runeS r) hsz w
  obtain ⟨bs, hbs⟩ : ∃ bs, signI r = bs := ⟨_, rfl⟩
  obtain ⟨bn, hbn⟩ : ∃ bn, nameOk (runeS r) = bn := ⟨_, rfl⟩
  rw [hbs] at cc ⊢
  rw [hbn] at cn ⊢
  unfold runeS at cn
  clear hbs hbn
  have CC := Lib.hid cc
  have CN := Lib.hid cn
  clear cc cn hsz
  by_cases h1 : 48 ≤ r
  · have h2 : ¬ (r ≤ 57) := by omega
    have h1i : (48 : Int) ≤ (r : Int) := by omega
    have h2i : ¬ ((r : Int) ≤ 57) := by omega
    clear h48 h1
    go_enter Tryz.func228, Tryz.ntmps228
    go_wp2_with fail
    all_goals
      (with_reducible refine CC.out.mono ?_)
      rintro e w' ⟨rfl, rfl⟩
      cases bs
      · go_wp2_with fail
        all_goals
          (with_reducible refine CN.out.mono ?_)
          rintro e w2 ⟨rfl, k2⟩
          cases bn
          · go_wp2_with fail
            all_goals
              go_ret
              exact ⟨rfl, k2⟩
          · go_wp2_with fail
            all_goals
              go_ret
              exact ⟨rfl, k2⟩
      · go_wp2_with fail
        all_goals
          go_ret
          exact ⟨rfl, Kept.refl _ _⟩
  · have h1i : ¬ ((48 : Int) ≤ (r : Int)) := by omega
    clear h48 h1
    go_enter Tryz.func228, Tryz.ntmps228
    go_wp2_with fail
    all_goals
      (with_reducible refine CC.out.mono ?_)
      rintro e w' ⟨rfl, rfl⟩
      cases bs
      · go_wp2_with fail
        all_goals
          (with_reducible refine CN.out.mono ?_)
          rintro e w2 ⟨rfl, k2⟩
          cases bn
          · go_wp2_with fail
            all_goals
              go_ret
              exact ⟨rfl, k2⟩
          · go_wp2_with fail
            all_goals
              go_ret
              exact ⟨rfl, k2⟩
      · go_wp2_with fail
        all_goals
          go_ret
          exact ⟨rfl, Kept.refl _ _⟩
theorem kindL_any (r : Nat) (hr : goodR r) (w : World) : Calls Tryz.prog 228 #[.int .i32 (r : Int)] w (Gives w (.int .u8 (kindL r))) := by
  have h := kindL_gen r (by unfold goodR at hr; omega) (by unfold goodR at hr; omega) (by unfold goodR at hr; rcases hr with rfl | rfl | rfl | rfl | rfl | rfl | rfl <;> decide) w
  have e : (if signI r = true then (3 : Int) else if nameOk (runeS r) = true then 1 else 0) = kindL r := by
    unfold goodR at hr
    rcases hr with rfl | rfl | rfl | rfl | rfl | rfl | rfl <;> kernel_rfl
  rwa [e] at h
/-- Whether a token goes on. -/
def goesT (t : Tok) (r : Nat) : Bool := if t.kind = 3 then false else if t.kind = 0 then false else kindL r == t.kind
set_option maxRecDepth 100000 in
set_option maxHeartbeats 1000000 in
theorem lexgoes_any (t : Tok) (ht : t.kind = 0 ∨ t.kind = 1 ∨ t.kind = 3) (r : Nat) (hr : goodR r) (w : World) : Calls Tryz.prog 227 #[tokV t, .int .i32 (r : Int)] w (Gives w (.bool (goesT t r))) := by
  obtain ⟨tk, tt, tn, ta⟩ := t
  unfold goesT
  simp only at ht ⊢
  have hrI : ¬ ((r : Int) = 61) := by unfold goodR at hr; omega
  have ka : Kept none' w (w.alloc (.cells #[.int .u8 tk, .string tt, .int .i64 tn, .int .i64 ta] 299)) := (Kept.refl _ _).alloc _
  have ck := kindL_any r hr (w.alloc (.cells #[.int .u8 tk, .string tt, .int .i64 tn, .int .i64 ta] 299))
  have ckd := kindL_any r hr (w.alloc (.cells #[.int .u8 tk, .string tt, .int .i64 tn, .int .i64 ta] 299)).drew
  by_cases h3 : tk = 3
  · subst h3
    go_enter Tryz.func227, Tryz.ntmps227
    go_wp2_with fail
    go_ret
    exact ⟨rfl, ka⟩
  · rw [if_neg h3]
    have g3 : (tk == 3) = false := by simpa using h3
    by_cases h0 : tk = 0
    · subst h0
      go_enter Tryz.func227, Tryz.ntmps227
      have nB : (w.alloc (.cells #[.int .u8 0, .string tt, .int .i64 tn, .int .i64 ta] 299)).cell? ⟨w.heap.size, 0, none⟩ = some (.int .u8 0) := by simp
      go_wp2_with fail
      refine wp_region_eager [0, 1, 2, 3, 4, 6, 7, 5, 8, 9, 10] (fun W => Kept none' (w.alloc (.cells #[.int .u8 0, .string tt, .int .i64 tn, .int .i64 ta] 299)) W) (by kernel_rfl) (by kernel_rfl) rfl (Kept.refl _ _).drew ?_
      simp only [List.map_cons, List.map_nil, List.getElem?_toArray, List.getElem?_cons_zero, List.getElem?_cons_succ, Option.getD_some]
      iterate 4 (apply wpL_float rfl rfl; (intro W hW; have z0 := hW.cell (p := ⟨w.heap.size, 0, none⟩) (fun h => h) nB; go_simp; rfl); go_frame)
      iterate 5 (apply wpL_skip rfl; go_frame)
      apply wpL_float rfl rfl
      · intro W hW; go_simp; rfl
      go_frame
      apply wpL_float rfl rfl
      · intro W hW; go_simp; rfl
      go_frame
      refine wpL_nil (fun _ => (Kept.refl none' _).drew) ?_
      go_wp2_with fail
      go_ret
      exact ⟨rfl, ka.drew⟩
    · rw [if_neg h0]
      have h1 : tk = 1 := by omega
      subst h1
      go_enter Tryz.func227, Tryz.ntmps227
      have nB : (w.alloc (.cells #[.int .u8 1, .string tt, .int .i64 tn, .int .i64 ta] 299)).cell? ⟨w.heap.size, 0, none⟩ = some (.int .u8 1) := by simp
      go_wp2_with fail
      refine wp_region_eager [0, 1, 2, 3, 4, 6, 7, 5, 8, 9, 10] (fun W => Kept none' (w.alloc (.cells #[.int .u8 1, .string tt, .int .i64 tn, .int .i64 ta] 299)) W) (by kernel_rfl) (by kernel_rfl) rfl (Kept.refl _ _).drew ?_
      simp only [List.map_cons, List.map_nil, List.getElem?_toArray, List.getElem?_cons_zero, List.getElem?_cons_succ, Option.getD_some]
      iterate 7 (apply wpL_float rfl rfl; (intro W hW; have z0 := hW.cell (p := ⟨w.heap.size, 0, none⟩) (fun h => h) nB; go_simp; rfl); go_frame)
      apply wpL_loud rfl rfl
      intro K hK
      go_wp2_with fail
      (with_reducible refine ckd.mono ?_)
      rintro e w5 ⟨rfl, k5⟩
      go_wp2_with fail
      refine hK _ _ (fun _ => (Kept.refl none' _).drew.trans k5) ?_
      clear hK
      iterate 3 (apply wpL_float rfl rfl; (intro W hW; have z0 := hW.cell (p := ⟨w.heap.size, 0, none⟩) (fun h => h) nB; go_simp; rfl); go_frame)
      refine wpL_nil (fun _ => (Kept.refl none' _).drew.trans k5) ?_
      go_wp2_with fail
      go_ret
      exact ⟨rfl, ka.trans ((Kept.refl none' _).drew.trans k5)⟩
end Go.Proofs.YtglbkodmmogomaaGreatDoor
