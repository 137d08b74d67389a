/-
  Of(43).
-/
import Derived.Test.YtaalpijohdlabaaDlf
import Derived.Test.YtaalpijohdlabaaDlw
import Derived.Test.YtaalpijohdlabaaJoi
namespace Go.Proofs.Ytaalpijohdlabaa
open Go Go.RowKit
def tabOf (T : Tab) (gs : List Int) : Tab := T.filter fun p => decide (grp p.1 ∈ gs)
def OfQ (w : World) (T : Tab) (e : Ending) (w' : World) : Prop :=
  ∃ b m, e = .returned (.pointer (some ⟨b, 0, none⟩)) ∧ TabAt w' (up w.heap.size) b m T ∧ Kept none' w w'
theorem reads_kept_map {w w' : World} {k m : Nat} {v : Value} {cs : List Value} {l : List (Int × Value)} (h : Reads w k v cs) (hk : Kept (one m) w w') (hp : 0 < k) (hm : MapL w m l) : Reads w' k v cs :=
  h.kept hk (fun b hb hs => by
    obtain ⟨c, E, f, he⟩ := h.isCells hp hb
    obtain ⟨L, cl, hL, _⟩ := hm
    rw [show b = m from hs, hL.heap] at he
    cases he)
set_option maxRecDepth 100000 in
set_option maxHeartbeats 1000000 in
theorem tof_any (B : Nat → Prop) (b m : Nat) (T : Tab) (vg : Value) (gs : List Int) (w : World) (h : TabAt w B b m T) (hr : Reads w 1 vg (ints gs)) : Calls Try.prog 43 #[.pointer (some ⟨b, 0, none⟩), vg] w (OfQ w (tabOf T gs)) := by
  obtain ⟨pa, ca, rfl, _, _, _⟩ := hr.at
  have HT := Lib.hid h
  have HR := Lib.hid hr
  clear h hr
  go_enter Try.func43, Try.ntmps43
  go_wp2_with fail
  obtain ⟨W0, hW0⟩ : ∃ W0, w.alloc (.cells #[.slice pa gs.length ca] 49) = W0 := ⟨_, rfl⟩
  have k0 : Kept none' w W0 := by rw [← hW0]; exact (Kept.refl _ _).alloc _
  have c0 : W0.cell? ⟨w.heap.size, 0, none⟩ = some (.slice pa gs.length ca) := by rw [← hW0]; simp
  have hs0 : W0.heap.size = w.heap.size + 1 := by rw [← hW0]; simp
  rw [hW0]
  clear hW0
  (with_reducible refine (copy_any B b m T W0 (HT.out.pure k0)).mono ?_)
  rintro e W1 ⟨b2, m2, rfl, t1, k1⟩
  have cc := t1.cell
  have hm2 : w.heap.size < m2 := by have := t1.hm; unfold up at this; omega
  have A := Lib.hid (And.intro t1 (And.intro (k0.trans k1) (k1.cell (p := ⟨w.heap.size, 0, none⟩) (fun h => h) c0)))
  clear t1 k1 k0 c0
  go_wp2_with fail
  have c := delf_any (up W0.heap.size) b2 m2 T (fun k => !decide (grp k ∈ gs)) (.pointer (some ⟨w.heap.size, 0, none⟩)) W1 A.out.1 (fun k acc la ln lc W hk => by
    obtain ⟨l, hl, _⟩ := A.out.1.map
    refine ofc_any k acc la ln lc w.heap.size _ gs W (hk.cell (p := ⟨w.heap.size, 0, none⟩) (fun e => by unfold one at e; simp at e; omega) A.out.2.2) (reads_kept_map (HR.out.pure A.out.2.1) hk (by omega) hl))
  (with_reducible refine c.mono ?_)
  clear c
  rintro e W2 ⟨rfl, t2, k2⟩
  have F : Hid (OfQ w (tabOf T gs) (.returned (.pointer (some ⟨b2, 0, none⟩))) W2) := by
    refine ⟨b2, m2, rfl, ?_, A.out.2.1.new k2 (fun i hi e => by unfold one at e; omega)⟩
    have e : (T.filter fun p => !(!decide (grp p.1 ∈ gs))) = tabOf T gs := by
      unfold tabOf
      refine List.filter_congr fun p _ => ?_
      rw [Bool.not_not]
    rw [← e]
    exact t2.mono (fun k hk _ => by unfold up at *; omega)
  clear t2 k2
  go_wp2_with fail
  go_ret
  exact F.out
end Go.Proofs.Ytaalpijohdlabaa
