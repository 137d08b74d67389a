/-
  'works' of layer 16.
-/
import Derived.Test.YtaalpijohdlabaaTab7
namespace Go.Proofs.Ytaalpijohdlabaa
open Go Go.RowKit
theorem TabAt.lt {w : World} {B : Nat → Prop} {b m : Nat} {T : Tab} (h : TabAt w B b m T) : m < w.heap.size ∧ b < w.heap.size := by
  obtain ⟨l, hl, _⟩ := h.map
  exact ⟨hl.lt, (Array.getElem?_eq_some_iff.1 h.obj).1⟩
theorem PutQ.none {w0 w w' : World} {B : Nat → Prop} {b m : Nat} {T : Tab} {k : Int} {c : Cell} {e : Ending} (h : PutQ w B b m T k c e w') (hk : Kept none' w0 w) (hm : w0.heap.size ≤ m) : Kept none' w0 w' :=
  hk.new h.2.2 (fun i hi e => by unfold one at e; omega)
theorem R64.small {n : Int} (h1 : -1000 ≤ n) (h2 : n ≤ 1000) : R64 n := ⟨by omega, by omega⟩
theorem Reads.lit (w : World) (cs : List Value) (E k n : Nat) (h : cs.length = n * k) (hn : n ≤ maxLen) : Reads (w.alloc (.cells cs.toArray E)) k (.slice (some ⟨w.heap.size, 0, none⟩) n n) cs :=
  ⟨_, n, n, rfl, Nat.le_refl _, hn, h, .inr ⟨_, 0, rfl, fun i x hx => by rw [World.cell?_alloc_new]; simpa using hx⟩⟩
set_option maxRecDepth 100000 in
set_option maxHeartbeats 400000 in
theorem works16 (w : World) : Calls Try.prog 15 #[] w (Gives w (.bool true)) := by
  go_enter Try.func15, Try.ntmps15
  go_wp2_with fail
  refine (new_any w).mono ?_
  rintro e w1 ⟨b, m, rfl, h1, k1⟩
  have hm := h1.hm
  go_wp2_with fail
  have c1 := put_any (up w.heap.size) b m [] 8 (1, []) (.slice none 0 0) w1 h1 k1.up (.small (by omega) (by omega)) (.small (by simp) (by simp)) (by simp) (by simp) (Reads.nil _ _)
  refine c1.mono ?_
  clear c1
  rintro e w2 hq2
  have k2 := hq2.none k1 hm
  obtain ⟨rfl, h2, _⟩ := hq2
  rw [show putT [] 8 (1, []) = [(8, (1, []))] from by decide] at h2
  rw [show putE [] 8 (1, ([] : List Int)).2.length = 0 from by decide]
  go_wp2_with fail
  have c2 := put_any (up w.heap.size) b m _ 0 (2, []) (.slice none 0 0) w2 h2 k2.up (.small (by omega) (by omega)) (.small (by simp) (by simp)) (by simp) (by simp) (Reads.nil _ _)
  refine c2.mono ?_
  clear c2
  rintro e w3 hq3
  have k3 := hq3.none k2 hm
  obtain ⟨rfl, h3, _⟩ := hq3
  rw [show putT [(8, (1, []))] 0 (2, []) = [(0, (2, [])), (8, (1, []))] from by decide] at h3
  rw [show putE [(8, (1, []))] 0 (2, ([] : List Int)).2.length = 0 from by decide]
  clear h1 h2
  go_wp2_with fail
  have k3' : Kept none' w (w3.alloc (.cells #[.int .i64 5] 2)) := k3.alloc _
  have c3 := put_any (up w.heap.size) b m _ 1 (0, [5]) _ _ (h3.pure ((Kept.refl _ _).alloc _)) k3'.up (.small (by omega) (by omega)) (.small (by simp) (by simp)) (fun x hx => by simp at hx; subst hx; exact .small (by omega) (by omega)) (by simp) (Reads.lit w3 [.int .i64 5] 2 1 1 rfl (by unfold maxLen; omega))
  refine c3.mono ?_
  clear c3
  rintro e w4 hq4
  have k4 := hq4.none k3' hm
  obtain ⟨rfl, h4, _⟩ := hq4
  rw [show putT [(0, (2, [])), (8, (1, []))] 1 (0, [5]) = [(0, (2, [])), (8, (1, [])), (1, (0, [5]))] from by decide] at h4
  rw [show putE [(0, (2, [])), (8, (1, []))] 1 ((0 : Int), ([5] : List Int)).2.length = 0 from by decide]
  clear h3
  go_wp2_with fail
  have c5 := keys_any (up w.heap.size) b m _ w4 h4
  refine c5.mono ?_
  clear c5
  rintro e w5 ⟨v, rfl, g1, g2, g3⟩
  have hr := Reads.of_owns g1
  rw [show tkeys [(0, ((2 : Int), ([] : List Int))), (8, (1, [])), (1, (0, [5]))] = [0, 8, 1] from rfl] at hr
  have HR := Lib.hid hr
  have k5 := k4.trans g3
  clear g1 g2 g3 hr h4
  go_wp2_with fail
  have c6 := equal64 v _ [0, 8, 1] [0, 8, 1] _ (HR.out.pure ((Kept.refl _ _).alloc _)) (Reads.lit w5 (ints [0, 8, 1]) 2 1 3 rfl (by unfold maxLen; omega))
  refine c6.mono ?_
  clear c6
  rintro e w6 ⟨rfl, k6⟩
  rw [show eqL [0, 8, 1] [0, 8, 1] = true from by decide]
  have F : Gives w (.bool true) (.returned (.bool true)) w6 := ⟨rfl, (k5.alloc _).trans k6⟩
  go_wp2_with fail
  go_ret
  exact F
end Go.Proofs.Ytaalpijohdlabaa
