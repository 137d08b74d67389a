/-
  The jobs of the documents' texts, parsed.
-/
import Derived.Test.YtopeleenlcnkkaaGreatDoorK42
import Derived.Test.YtopeleenlcnkkaaGreatDoorK41
import Derived.Test.YtopeleenlcnkkaaGreatDoorK40
import Derived.Test.YtopeleenlcnkkaaGreatDoorK19
import Derived.Test.YtopeleenlcnkkaaGreatDoorK12
import Derived.Test.YtopeleenlcnkkaaGreatDoorK36
import Derived.Test.YtopeleenlcnkkaaGreatDoorK23
set_option linter.unusedVariables false
set_option linter.unusedSimpArgs false
namespace Go.Proofs.YtopeleenlcnkkaaGreatDoor
open Go Go.RowKit
attribute [local irreducible] wpL wpTr H2.wpH
def MadeQ (w : World) (par : Int) (nodes : List JN) (e : Ending) (w' : World) : Prop := ∃ v J lo D, e = .returned (.agg #[.int .i64 par, v]) ∧ JStV w' J lo par nodes v D ∧ w.heap.size < J ∧ Kept none' w w'
set_option maxRecDepth 100000 in
set_option maxHeartbeats 1000000 in
theorem made_any (s : ByteArray) (par : Int) (nodes : List JN) (w : World) (hP : ParseN s par nodes) (m : Int) (hm : w.cell? ⟨0, 0, none⟩ = some (.int .i64 m)) : Calls Tryz.prog 40 #[.string s] w (MadeQ w par nodes) := by
 have k0 : Kept none' w (w.alloc (.cells #[.int .i64 0, .slice none 0 0] 24)) := (Kept.refl _ _).alloc _
 have t0 : (w.alloc (.cells #[.int .i64 0, .slice none 0 0] 24)).heap[w.heap.size]? = some (.cells #[.int .i64 0, .slice none 0 0] 24 (0, 0)) := heap_alloc_new _ _
 have hm0 : 0 < w.heap.size := by have := block_lt_of_cell hm; simpa using this
 have cp := parse_any s par nodes _ hP m (k0.cell (p := ⟨0, 0, none⟩) (fun h => h) hm)
 have H := Lib.hid (And.intro k0 t0)
 clear k0 t0 hP hm
 go_enter Tryz.func40, Tryz.ntmps40
 go_wp2_with fail
 (with_reducible refine cp.mono ?_)
 clear cp
 rintro e w1 ⟨v, J, lo, D, rfl, hj, hJ, k1⟩
 obtain ⟨va, vc, rfl⟩ : ∃ a c, v = .slice a nodes.length c := by
  obtain ⟨cs, h2, _⟩ := hj.row
  exact owns_slice h2
 have hsz1 : (w.alloc (.cells #[.int .i64 0, .slice none 0 0] 24)).heap.size = w.heap.size + 1 := Array.size_push _
 rw [hsz1] at hJ
 have ka : Kept none' w1 (w1.alloc (.cells #[.int .i64 par, .slice va nodes.length vc] 24)) := (Kept.refl _ _).alloc _
 have t1 := ka.heap (k1.heap H.out.2 (fun h => h)) (fun h => h)
 have z0 := cells_at t1 (j := 0) rfl
 have z1 := cells_at t1 (j := 1) rfl
 have f0 := free_at t1 0
 have f1 := free_at t1 1
 have hT : w.heap.size < w1.heap.size + 1 := by have := (Array.getElem?_eq_some_iff.1 t1).1; simpa using this
 have hT1 : w.heap.size < (w1.alloc (.cells #[.int .i64 par, .slice va nodes.length vc] 24)).heap.size := (Array.getElem?_eq_some_iff.1 t1).1
 have hset := set_at (set_at t1 0 (.int .i64 par)) 1 (.slice va nodes.length vc)
 have ks : Kept (one w.heap.size) (w1.alloc (.cells #[.int .i64 par, .slice va nodes.length vc] 24)) (((w1.alloc (.cells #[.int .i64 par, .slice va nodes.length vc] 24)).setCell ⟨w.heap.size, 0, none⟩ (.int .i64 par)).setCell ⟨w.heap.size, 1, none⟩ (.slice va nodes.length vc)) :=
  Kept.setCell (p := ⟨w.heap.size, 1, none⟩) (Kept.setCell (p := ⟨w.heap.size, 0, none⟩) (Kept.refl (one w.heap.size) _) (.inl rfl) _) (.inl rfl) _
 have hjk := hj.pure ka
 obtain ⟨rcs, hrow, _⟩ := hjk.row
 have hjF := hjk.keptS ks (fun k hk => by
  unfold one at hk
  refine ⟨by omega, fun h => ?_, fun h => ?_⟩
  ·have := (hrow.lt k h).1; have := hjk.lt; omega
  ·have := (hjk.dd k h).1; have := hjk.lt; omega)
 have F : MadeQ w par nodes (.returned (.agg #[.int .i64 par, .slice va nodes.length vc])) (((w1.alloc (.cells #[.int .i64 par, .slice va nodes.length vc] 24)).setCell ⟨w.heap.size, 0, none⟩ (.int .i64 par)).setCell ⟨w.heap.size, 1, none⟩ (.slice va nodes.length vc)) :=
  ⟨_, J, lo, D, rfl, hjF, by omega, (((H.out.1.trans k1).trans ka).new ks (fun i hi hs => by unfold one at hs; omega))⟩
 have FF := Lib.hid (And.intro F hset)
 clear F hset ks hj hjk hjF hrow k1 ka
 go_wp2_with fail
 obtain ⟨WF, hWF⟩ : ∃ WF, (((w1.alloc (.cells #[.int .i64 par, .slice va nodes.length vc] 24)).setCell ⟨w.heap.size, 0, none⟩ (.int .i64 par)).setCell ⟨w.heap.size, 1, none⟩ (.slice va nodes.length vc)) = WF := ⟨_, rfl⟩
 obtain ⟨F, s5⟩ := FF.out
 have s5' : WF.heap[w.heap.size]? = some (.cells #[.int .i64 par, .slice va nodes.length vc] 24 (0, 0)) := by rw [← hWF]; simpa using s5
 rw [hWF] at F ⊢
 have q0 := cells_at s5' (j := 0) rfl
 have q1 := cells_at s5' (j := 1) rfl
 refine bodyPost_ret (v := .agg #[.int .i64 par, .slice va nodes.length vc]) (by simp [results, Tryz.results40, go_sem, q0, q1]) rfl F
def goodB (r : Nat) : Bool := r == 97 || r == 99 || r == 118 || r == 108 || r == 43 || r == 45 || r == 32
theorem goodB_ok {r : Nat} (h : goodB r = true) : goodR r := by
 unfold goodB at h
 unfold goodR
 simp at h
 omega
theorem good_all {l : List (Nat × Nat)} (h : l.all (fun p => goodB p.2) = true) : ∀ p ∈ l, goodR p.2 := fun p hp => goodB_ok (List.all_eq_true.1 h p hp)
abbrev sumsT : ByteArray := ⟨#[112, 97, 114, 32, 50, 10, 115, 32, 115, 111, 117, 114, 99, 101, 10, 114, 32, 114, 101, 100, 117, 99, 101, 32, 115, 32, 58, 32, 97, 99, 99, 32, 43, 32, 118, 97, 108, 10, 116, 32, 115, 105, 110, 107, 32, 114]⟩
def sumsN : List JN := [⟨⟨#[115]⟩, 1, [], .mk 0 0 [], 0⟩, ⟨⟨#[114]⟩, 6, [0], .mk 7 0 [.mk 4 0 [], .mk 3 0 []], 0⟩, ⟨⟨#[116]⟩, 9, [1], .mk 0 0 [], 0⟩]
theorem sums_parse : ParseN sumsT 2 sumsN := by
 refine ⟨by decide, ⟨⟨#[112, 97, 114, 32, 50]⟩, [⟨#[115, 32, 115, 111, 117, 114, 99, 101]⟩, ⟨#[114, 32, 114, 101, 100, 117, 99, 101, 32, 115, 32, 58, 32, 97, 99, 99, 32, 43, 32, 118, 97, 108]⟩, ⟨#[116, 32, 115, 105, 110, 107, 32, 114]⟩], ⟨#[112, 97, 114, 32, 50]⟩, noneS, ⟨#[50]⟩, by kernel_rfl, by kernel_rfl, by decide, by kernel_rfl, by kernel_rfl, by kernel_rfl, ?_⟩, ⟨by decide, by decide⟩, by decide, by kernel_rfl⟩
 have l0 : LineN ([] : List JN) ⟨#[115, 32, 115, 111, 117, 114, 99, 101]⟩ ⟨#[115]⟩ ⟨#[115, 111, 117, 114, 99, 101]⟩ [] 1 none := ⟨by kernel_rfl, by kernel_rfl, by decide, by decide, (fun i hi => by cases hi), by kernel_rfl, by kernel_rfl, by decide, (fun y h => by cases h)⟩
 have l1 : LineN ([⟨⟨#[115]⟩, 1, [], .mk 0 0 [], 0⟩] : List JN) ⟨#[114, 32, 114, 101, 100, 117, 99, 101, 32, 115, 32, 58, 32, 97, 99, 99, 32, 43, 32, 118, 97, 108]⟩ ⟨#[114]⟩ ⟨#[114, 101, 100, 117, 99, 101]⟩ [⟨#[115]⟩] 6 (some (.mk 7 0 [.mk 4 0 [], .mk 3 0 []])) := ⟨by kernel_rfl, by kernel_rfl, by decide, by decide, (fun i hi => by rw [List.mem_singleton.1 hi, show findJ ([⟨⟨#[115]⟩, 1, [], .mk 0 0 [], 0⟩] : List JN) ⟨#[115]⟩ = (0 : Int) from by kernel_rfl]; decide), by kernel_rfl, by kernel_rfl, by decide, (fun y h => by cases h; exact ⟨[97, 99, 99, 32, 43, 32, 118, 97, 108], by kernel_rfl, by decide, good_all (by kernel_rfl), by kernel_rfl, by unfold depOk; intro z hz; simp [Ex.args] at hz; rcases hz with rfl | rfl <;> (unfold depOk; intro z hz; simp [Ex.args] at hz)⟩)⟩
 have l2 : LineN ([⟨⟨#[115]⟩, 1, [], .mk 0 0 [], 0⟩, ⟨⟨#[114]⟩, 6, [0], .mk 7 0 [.mk 4 0 [], .mk 3 0 []], 0⟩] : List JN) ⟨#[116, 32, 115, 105, 110, 107, 32, 114]⟩ ⟨#[116]⟩ ⟨#[115, 105, 110, 107]⟩ [⟨#[114]⟩] 9 none := ⟨by kernel_rfl, by kernel_rfl, by decide, by decide, (fun i hi => by rw [List.mem_singleton.1 hi, show findJ ([⟨⟨#[115]⟩, 1, [], .mk 0 0 [], 0⟩, ⟨⟨#[114]⟩, 6, [0], .mk 7 0 [.mk 4 0 [], .mk 3 0 []], 0⟩] : List JN) ⟨#[114]⟩ = (1 : Int) from by kernel_rfl]; decide), by kernel_rfl, by kernel_rfl, by decide, (fun y h => by cases h)⟩
 refine .cons (by kernel_rfl) l0 (by decide) (by decide) ?_
 have e0 : ([] ++ [lineJN [] ⟨#[115]⟩ [] 1 none] : List JN) = [⟨⟨#[115]⟩, 1, [], .mk 0 0 [], 0⟩] := by kernel_rfl
 rw [e0]
 refine .cons (by kernel_rfl) l1 (by decide) (by decide) ?_
 have e1 : ([⟨⟨#[115]⟩, 1, [], .mk 0 0 [], 0⟩] ++ [lineJN [⟨⟨#[115]⟩, 1, [], .mk 0 0 [], 0⟩] ⟨#[114]⟩ [⟨#[115]⟩] 6 (some (.mk 7 0 [.mk 4 0 [], .mk 3 0 []]))] : List JN) = [⟨⟨#[115]⟩, 1, [], .mk 0 0 [], 0⟩, ⟨⟨#[114]⟩, 6, [0], .mk 7 0 [.mk 4 0 [], .mk 3 0 []], 0⟩] := by kernel_rfl
 rw [e1]
 refine .cons (by kernel_rfl) l2 (by decide) (by decide) ?_
 have e2 : ([⟨⟨#[115]⟩, 1, [], .mk 0 0 [], 0⟩, ⟨⟨#[114]⟩, 6, [0], .mk 7 0 [.mk 4 0 [], .mk 3 0 []], 0⟩] ++ [lineJN [⟨⟨#[115]⟩, 1, [], .mk 0 0 [], 0⟩, ⟨⟨#[114]⟩, 6, [0], .mk 7 0 [.mk 4 0 [], .mk 3 0 []], 0⟩] ⟨#[116]⟩ [⟨#[114]⟩] 9 none] : List JN) = [⟨⟨#[115]⟩, 1, [], .mk 0 0 [], 0⟩, ⟨⟨#[114]⟩, 6, [0], .mk 7 0 [.mk 4 0 [], .mk 3 0 []], 0⟩, ⟨⟨#[116]⟩, 9, [1], .mk 0 0 [], 0⟩] := by kernel_rfl
 rw [e2]
 exact .nil _
abbrev lessT : ByteArray := ⟨#[112, 97, 114, 32, 49, 10, 115, 32, 115, 111, 117, 114, 99, 101, 10, 114, 32, 114, 101, 100, 117, 99, 101, 32, 115, 32, 58, 32, 97, 99, 99, 32, 45, 32, 118, 97, 108, 10, 116, 32, 115, 105, 110, 107, 32, 114]⟩
def lessN : List JN := [⟨⟨#[115]⟩, 1, [], .mk 0 0 [], 0⟩, ⟨⟨#[114]⟩, 6, [0], .mk 8 0 [.mk 4 0 [], .mk 3 0 []], 0⟩, ⟨⟨#[116]⟩, 9, [1], .mk 0 0 [], 0⟩]
theorem less_parse : ParseN lessT 1 lessN := by
 refine ⟨by decide, ⟨⟨#[112, 97, 114, 32, 49]⟩, [⟨#[115, 32, 115, 111, 117, 114, 99, 101]⟩, ⟨#[114, 32, 114, 101, 100, 117, 99, 101, 32, 115, 32, 58, 32, 97, 99, 99, 32, 45, 32, 118, 97, 108]⟩, ⟨#[116, 32, 115, 105, 110, 107, 32, 114]⟩], ⟨#[112, 97, 114, 32, 49]⟩, noneS, ⟨#[49]⟩, by kernel_rfl, by kernel_rfl, by decide, by kernel_rfl, by kernel_rfl, by kernel_rfl, ?_⟩, ⟨by decide, by decide⟩, by decide, by kernel_rfl⟩
 have l0 : LineN ([] : List JN) ⟨#[115, 32, 115, 111, 117, 114, 99, 101]⟩ ⟨#[115]⟩ ⟨#[115, 111, 117, 114, 99, 101]⟩ [] 1 none := ⟨by kernel_rfl, by kernel_rfl, by decide, by decide, (fun i hi => by cases hi), by kernel_rfl, by kernel_rfl, by decide, (fun y h => by cases h)⟩
 have l1 : LineN ([⟨⟨#[115]⟩, 1, [], .mk 0 0 [], 0⟩] : List JN) ⟨#[114, 32, 114, 101, 100, 117, 99, 101, 32, 115, 32, 58, 32, 97, 99, 99, 32, 45, 32, 118, 97, 108]⟩ ⟨#[114]⟩ ⟨#[114, 101, 100, 117, 99, 101]⟩ [⟨#[115]⟩] 6 (some (.mk 8 0 [.mk 4 0 [], .mk 3 0 []])) := ⟨by kernel_rfl, by kernel_rfl, by decide, by decide, (fun i hi => by rw [List.mem_singleton.1 hi, show findJ ([⟨⟨#[115]⟩, 1, [], .mk 0 0 [], 0⟩] : List JN) ⟨#[115]⟩ = (0 : Int) from by kernel_rfl]; decide), by kernel_rfl, by kernel_rfl, by decide, (fun y h => by cases h; exact ⟨[97, 99, 99, 32, 45, 32, 118, 97, 108], by kernel_rfl, by decide, good_all (by kernel_rfl), by kernel_rfl, by unfold depOk; intro z hz; simp [Ex.args] at hz; rcases hz with rfl | rfl <;> (unfold depOk; intro z hz; simp [Ex.args] at hz)⟩)⟩
 have l2 : LineN ([⟨⟨#[115]⟩, 1, [], .mk 0 0 [], 0⟩, ⟨⟨#[114]⟩, 6, [0], .mk 8 0 [.mk 4 0 [], .mk 3 0 []], 0⟩] : List JN) ⟨#[116, 32, 115, 105, 110, 107, 32, 114]⟩ ⟨#[116]⟩ ⟨#[115, 105, 110, 107]⟩ [⟨#[114]⟩] 9 none := ⟨by kernel_rfl, by kernel_rfl, by decide, by decide, (fun i hi => by rw [List.mem_singleton.1 hi, show findJ ([⟨⟨#[115]⟩, 1, [], .mk 0 0 [], 0⟩, ⟨⟨#[114]⟩, 6, [0], .mk 8 0 [.mk 4 0 [], .mk 3 0 []], 0⟩] : List JN) ⟨#[114]⟩ = (1 : Int) from by kernel_rfl]; decide), by kernel_rfl, by kernel_rfl, by decide, (fun y h => by cases h)⟩
 refine .cons (by kernel_rfl) l0 (by decide) (by decide) ?_
 have e0 : ([] ++ [lineJN [] ⟨#[115]⟩ [] 1 none] : List JN) = [⟨⟨#[115]⟩, 1, [], .mk 0 0 [], 0⟩] := by kernel_rfl
 rw [e0]
 refine .cons (by kernel_rfl) l1 (by decide) (by decide) ?_
 have e1 : ([⟨⟨#[115]⟩, 1, [], .mk 0 0 [], 0⟩] ++ [lineJN [⟨⟨#[115]⟩, 1, [], .mk 0 0 [], 0⟩] ⟨#[114]⟩ [⟨#[115]⟩] 6 (some (.mk 8 0 [.mk 4 0 [], .mk 3 0 []]))] : List JN) = [⟨⟨#[115]⟩, 1, [], .mk 0 0 [], 0⟩, ⟨⟨#[114]⟩, 6, [0], .mk 8 0 [.mk 4 0 [], .mk 3 0 []], 0⟩] := by kernel_rfl
 rw [e1]
 refine .cons (by kernel_rfl) l2 (by decide) (by decide) ?_
 have e2 : ([⟨⟨#[115]⟩, 1, [], .mk 0 0 [], 0⟩, ⟨⟨#[114]⟩, 6, [0], .mk 8 0 [.mk 4 0 [], .mk 3 0 []], 0⟩] ++ [lineJN [⟨⟨#[115]⟩, 1, [], .mk 0 0 [], 0⟩, ⟨⟨#[114]⟩, 6, [0], .mk 8 0 [.mk 4 0 [], .mk 3 0 []], 0⟩] ⟨#[116]⟩ [⟨#[114]⟩] 9 none] : List JN) = [⟨⟨#[115]⟩, 1, [], .mk 0 0 [], 0⟩, ⟨⟨#[114]⟩, 6, [0], .mk 8 0 [.mk 4 0 [], .mk 3 0 []], 0⟩, ⟨⟨#[116]⟩, 9, [1], .mk 0 0 [], 0⟩] := by kernel_rfl
 rw [e2]
 exact .nil _
end Go.Proofs.YtopeleenlcnkkaaGreatDoor
/-
 ideal.New: an ideal without states.
-/
namespace Go.Proofs.YtopeleenlcnkkaaGreatDoor
open Go Go.RowKit
attribute [local irreducible] wpL
theorem LoadQ.grow {w0 w w' : World} {j : Jb} {l : List St} {e : Ending} (h : LoadQ w j l e w') (hk : Kept none' w0 w) : LoadQ w0 j l e w' := by
 unfold LoadQ at h ⊢
 split at h
 ·obtain ⟨b, m, pm, h1, h2, h3, h5, h4⟩ := h
  exact ⟨b, m, pm, h1, h2, Nat.le_trans hk.size h3, fun q T hT => Nat.le_trans hk.size (h5 q T hT), hk.trans h4⟩
 ·exact ⟨h.1, h.2.1, hk.trans h.2.2⟩
theorem LoadQ.tuple {w w' : World} {j : Jb} {l : List St} {e : Ending} (h : LoadQ w j l e w') : ∃ p er, e = .returned (.tuple #[.pointer p, .int .i64 er]) := by
 unfold LoadQ at h
 split at h
 ·obtain ⟨b, m, pm, h1, _⟩ := h
  exact ⟨_, _, h1⟩
 ·exact ⟨_, _, h.1⟩
end Go.Proofs.YtopeleenlcnkkaaGreatDoor
/-
 Feed's memory: tables beside a row that is being made.
-/
namespace Go.Proofs.YtopeleenlcnkkaaGreatDoor
open Go Go.RowKit
def mapsOf (Ts : Tabs) (pm : Nat → Nat × Nat) : Nat → Prop := fun k => ∃ (i : Nat) (T : Tab), Ts[i]? = some (some T) ∧ (pm i).2 = k
theorem TabsAt.maps_lt {w : World} {m : Nat} {Ts : Tabs} {pm : Nat → Nat × Nat} (h : TabsAt w m Ts pm) {k : Nat} (hk : mapsOf Ts pm k) : k < w.heap.size := by
 obtain ⟨i, T, hT, rfl⟩ := hk
 exact (h.tab i T hT).1.lt.1
theorem TabsAt.maps_no {w : World} {m : Nat} {Ts : Tabs} {pm : Nat → Nat × Nat} (h : TabsAt w m Ts pm) {k : Nat} (hk : mapsOf Ts pm k) : ∀ c E f, w.heap[k]? ≠ some (.cells c E f) := by
 obtain ⟨i, T, hT, rfl⟩ := hk
 exact (h.tab i T hT).1.notCells
def MadeAt (w : World) (mb n : Nat) (M : List (List Rec)) : Prop :=
 ∃ cs, w.ownsRow mb 42 1 (.slice (some ⟨mb, 0, none⟩) n n) n cs ∧ ∀ (i : Nat) (L : List Rec), M[i]? = some L → ∃ v, cs[i]? = some v ∧ Reads w 3 v (recs L) ∧ ∀ b, Value.blk v = some b → mb < b
theorem MadeAt.keptS {S : Nat → Prop} {w w' : World} {mb n : Nat} {M : List (List Rec)} (h : MadeAt w mb n M) (hk : Kept S w w') (hS : ∀ k, S k → k < mb) : MadeAt w' mb n M := by
 obtain ⟨cs, h1, h2⟩ := h
 refine ⟨cs, hk.owns h1 (fun k hk hs => ?_), fun i L hL => ?_⟩
 ·have : mb = k := by simpa [Value.ownBlock] using hk
  have := hS k hs
  omega
 ·obtain ⟨v, g1, g2, g3⟩ := h2 i L hL
  exact ⟨v, g1, g2.kept hk (fun b hb hs => by have := g3 b hb; have := hS b hs; omega), g3⟩
theorem MadeAt.pure {w w' : World} {mb n : Nat} {M : List (List Rec)} (h : MadeAt w mb n M) (hk : Kept none' w w') : MadeAt w' mb n M := h.keptS hk (fun _ h => h.elim)
theorem MadeAt.cell {w : World} {mb n : Nat} {M : List (List Rec)} (h : MadeAt w mb n M) (hM : M.length ≤ n) {i : Nat} {L : List Rec} (hL : M[i]? = some L) :
  ∃ v, w.cell? ⟨mb, i, none⟩ = some v ∧ Reads w 3 v (recs L) ∧ ∀ b, Value.blk v = some b → mb < b := by
 obtain ⟨cs, h1, h2⟩ := h
 obtain ⟨v, g1, g2, g3⟩ := h2 i L hL
 have hi : i < M.length := (List.getElem?_eq_some_iff.1 hL).1
 exact ⟨v, by rw [h1.cellAt i (by omega)]; exact g1, g2, g3⟩
theorem MadeAt.free {w : World} {mb n : Nat} {M : List (List Rec)} (h : MadeAt w mb n M) {i : Nat} (hi : i < n) : (∃ v, w.cell? ⟨mb, i, none⟩ = some v) ∧ w.frozen? ⟨mb, i, none⟩ = false := by
 obtain ⟨cs, h1, _⟩ := h
 refine ⟨?_, h1.frozenAt i⟩
 have hl : cs.length = n * 1 := h1.1
 have hc := h1.cellAt i (by omega)
 exact ⟨_, hc.trans (List.getElem?_eq_getElem (by omega))⟩
theorem MadeAt.lt {w : World} {mb n : Nat} {M : List (List Rec)} (h : MadeAt w mb n M) : mb < w.heap.size := by
 obtain ⟨cs, h1, _⟩ := h
 exact (h1.lt mb rfl).2
theorem MadeAt.store {w : World} {mb n : Nat} {M : List (List Rec)} (h : MadeAt w mb n M) (hM : M.length < n) {v : Value} {L : List Rec} (hv : Reads w 3 v (recs L)) (hb : ∀ b, Value.blk v = some b → mb < b) :
  MadeAt (w.setCell ⟨mb, M.length, none⟩ v) mb n (M ++ [L]) ∧ Kept (one mb) w (w.setCell ⟨mb, M.length, none⟩ v) := by
 obtain ⟨cs, h1, h2⟩ := h
 have hl : cs.length = n * 1 := h1.1
 have hk : Kept (one mb) w (w.setCell ⟨mb, M.length, none⟩ v) := Kept.setCell (p := ⟨mb, M.length, none⟩) (Kept.refl (one mb) _) (.inl rfl) _
 refine ⟨⟨cs.set M.length v, (h1.stored M.length v).1, fun i U hU => ?_⟩, hk⟩
 by_cases hi : i < M.length
 ·rw [List.getElem?_append_left hi] at hU
  obtain ⟨u, g1, g2, g3⟩ := h2 i U hU
  exact ⟨u, by rw [List.getElem?_set_ne (by omega)]; exact g1, g2.kept hk (fun b hb hs => by have := g3 b hb; unfold one at hs; omega), g3⟩
 ·have hi2 : i = M.length := by
   have := (List.getElem?_eq_some_iff.1 hU).1
   simp at this; omega
  subst hi2
  rw [List.getElem?_append_right (Nat.le_refl _), Nat.sub_self] at hU
  cases hU
  exact ⟨v, List.getElem?_set_self (by omega), hv.kept hk (fun b hb' hs => by have := hb b hb'; unfold one at hs; omega), hb⟩
theorem run_made (w : World) (n : Nat) (hn : n ≤ 1000) : ∃ w', (Instr.makeSlice 105 (.int .i64 (n : Int)) (.int .i64 (n : Int))).run Tryz.prog w = .ok (.slice (some ⟨w.heap.size, 0, none⟩) n n) w' ∧ MadeAt w' w.heap.size n [] ∧ Kept none' w w' := by
 obtain ⟨i, z, hi, hz, hs, hb, hzc⟩ := Tryz.info42
 obtain ⟨w', h1, h2, h3⟩ := run_make_full (P := Tryz.prog) w w.heap.size 105 42 i z 1 Tryz.underlying105 hi hz hs .i64 .i64 n (by rw [hb]; omega) (by unfold maxLen; omega) (Nat.le_refl _)
 exact ⟨w', h1, ⟨_, h2, fun i L hL => by simp at hL⟩, Kept.grown h3 (fun k hk => by cases hk)⟩
theorem push_row {w : World} {base n : Nat} {va : Value} {l : List Value} (h : w.ownsRow base 42 1 va n l) {u : Value} (hu : u.oneCell' = true) (hb : base ≤ w.heap.size) (hn : n ≤ 100000) :
  ∃ va' w', (Builtin.append_ #[105, 105] 105 #[va, .slice (some ⟨w.heap.size, 0, none⟩) 1 1]).run Tryz.prog (w.alloc (.cells #[u] 42)) = .ok va' w' ∧ w'.ownsRow base 42 1 va' (n + 1) (l ++ [u]) ∧ Kept (fun j => base ≤ j) w w' := by
 obtain ⟨i, z, hi, hz, hs, hby, hzs⟩ := Tryz.info42
 exact push1 Tryz.underlying105 hi hz hs hby hzs hu h hn (by omega) hb 105
theorem JNAt.nod {w : World} {a : Array Value} {d : JN} (h : JNAt w a d) : NodAt w a d.nod := by
 obtain ⟨pi, ci, p, cap, h1, h2, h3, h4, h5, h6, h7, h8⟩ := h
 exact ⟨d.uid, _, p, cap, h1, h2, h5, h6, h7⟩
theorem Reads.slice_form {w : World} {v : Value} {L : List Rec} (h : Reads w 3 v (recs L)) : ∃ a cap, v = .slice a L.length cap := by
 obtain ⟨a, cap, h1, _⟩ := h.len
 exact ⟨a, cap, h1⟩
theorem TabsAt.look1 {S : Nat → Prop} {w w' : World} {m : Nat} {Ts : Tabs} {pm : Nat → Nat × Nat} (h : TabsAt w m Ts pm) (hk : Kept S w w') (hm : ¬ S m) (i : Nat) (hi : i < Ts.length) :
  (Instr.lookup 99 (.map (some m)) (.int .i64 (i : Int)) false).run Tryz.prog w' = .ok ((ptrOf pm i (Ts.getD i none)).getD (.pointer none)) w' := by
 obtain ⟨⟨l, h1, h2, _⟩, _, _⟩ := h
 have := (h1.kept hk hm).lookup1 (P := Tryz.prog) Tryz.underlying99 Tryz.underlying3 (i : Int) (Tryz.zeroValue61 w')
 rwa [h2 i hi] at this
theorem Reads.intAt {w : World} {a : Option Addr} {n cap : Nat} {l : List Int} (h : Reads w 1 (.slice a n cap) (ints l)) : l = [] ∨ ∃ b off, a = some ⟨b, off, none⟩ ∧ ∀ (i : Nat) (x : Int), l[i]? = some x → w.cell? ⟨b, off + i, none⟩ = some (.int .i64 x) := by
 obtain ⟨a', n', cap', e, h1, h2, h3, h4⟩ := h
 cases e
 rcases h4 with h4 | ⟨b, off, hb, h4⟩
 ·left; unfold ints at h4; simpa using h4
 ·right
  exact ⟨b, off, hb, fun i x hx => h4 i _ (by unfold ints; rw [List.getElem?_map, hx]; rfl)⟩
def FeedM (M : Nat → Prop) (w : World) (b m : Nat) (j : Jb) (Ts : Tabs) (pm : Nat → Nat × Nat) (key val : Int) (e : Ending) (w' : World) : Prop :=
 ∃ v, e = .returned v ∧ Reads w' 3 v (recs (feedP j.nodes Ts key val).1) ∧ (∀ q, Value.blk v = some q → w.heap.size ≤ q) ∧ IdlAt w' b m j (feedP j.nodes Ts key val).2 pm ∧ Kept (mapsOf Ts pm) w w' ∧
  TabsX w' (fun k => M k ∨ w.heap.size ≤ k) m (feedP j.nodes Ts key val).2 pm
end Go.Proofs.YtopeleenlcnkkaaGreatDoor
