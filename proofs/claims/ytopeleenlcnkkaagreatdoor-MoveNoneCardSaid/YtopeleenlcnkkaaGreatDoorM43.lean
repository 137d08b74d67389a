/-
  The jobs of the documents' texts, parsed.
-/
import Derived.Test.YtopeleenlcnkkaaGreatDoorM42
import Derived.Test.YtopeleenlcnkkaaGreatDoorM41
import Derived.Test.YtopeleenlcnkkaaGreatDoorM40
import Derived.Test.YtopeleenlcnkkaaGreatDoorM14
import Derived.Test.YtopeleenlcnkkaaGreatDoorM10
import Derived.Test.YtopeleenlcnkkaaGreatDoorM35
import Derived.Test.YtopeleenlcnkkaaGreatDoorM19
import Derived.Test.YtopeleenlcnkkaaGreatDoorM18
set_option linter.unusedVariables false
set_option linter.unusedSimpArgs false
namespace Go.Proofs.YtopeleenlcnkkaaGreatDoor
open Go Go.RowKit
attribute [local irreducible] wpL wpTr H2.wpH
def MadeQ (w : World) (par : Int) (nodes : List JN) (e : Ending) (w' : World) : Prop := ∃ v J lo D, e = .returned (.agg #[.int .i64 par, v]) ∧ JStV w' J lo par nodes v D ∧ w.heap.size < J ∧ Kept none' w w'
set_option maxRecDepth 100000 in
set_option maxHeartbeats 1000000 in
theorem made_any (s : ByteArray) (par : Int) (nodes : List JN) (w : World) (hP : ParseN s par nodes) (m : Int) (hm : w.cell? ⟨0, 0, none⟩ = some (.int .i64 m)) : Calls Tryz.prog 40 #[.string s] w (MadeQ w par nodes) := by
  have k0 : Kept none' w (w.alloc (.cells #[.int .i64 0, .slice none 0 0] 24)) := (Kept.refl _ _).alloc _
  have t0 : (w.alloc (.cells #[.int .i64 0, .slice none 0 0] 24)).heap[w.heap.size]? = some (.cells #[.int .i64 0, .slice none 0 0] 24 (0, 0)) := heap_alloc_new _ _
  have hm0 : 0 < w.heap.size := by have := block_lt_of_cell hm; simpa using this
  have cp := parse_any s par nodes _ hP m (k0.cell (p := ⟨0, 0, none⟩) (fun h => h) hm)
  have H := Lib.hid (And.intro k0 t0)
  clear k0 t0 hP hm
  go_enter Tryz.func40, Tryz.ntmps40
  go_wp2_with fail
  (with_reducible refine cp.mono ?_)
  clear cp
  rintro e w1 ⟨v, J, lo, D, rfl, hj, hJ, k1⟩
  obtain ⟨va, vc, rfl⟩ : ∃ a c, v = .slice a nodes.length c := by
    obtain ⟨cs, h2, _⟩ := hj.row
    exact owns_slice h2
  have hsz1 : (w.alloc (.cells #[.int .i64 0, .slice none 0 0] 24)).heap.size = w.heap.size + 1 := Array.size_push _
  rw [hsz1] at hJ
  have ka : Kept none' w1 (w1.alloc (.cells #[.int .i64 par, .slice va nodes.length vc] 24)) := (Kept.refl _ _).alloc _
  have t1 := ka.heap (k1.heap H.out.2 (fun h => h)) (fun h => h)
  have z0 := cells_at t1 (j := 0) rfl
  have z1 := cells_at t1 (j := 1) rfl
  have f0 := free_at t1 0
  have f1 := free_at t1 1
  have hT : w.heap.size < w1.heap.size + 1 := by have := (Array.getElem?_eq_some_iff.1 t1).1; simpa using this
  have hT1 : w.heap.size < (w1.alloc (.cells #[.int .i64 par, .slice va nodes.length vc] 24)).heap.size := (Array.getElem?_eq_some_iff.1 t1).1
  have hset := set_at (set_at t1 0 (.int .i64 par)) 1 (.slice va nodes.length vc)
  have ks : Kept (one w.heap.size) (w1.alloc (.cells #[.int .i64 par, .slice va nodes.length vc] 24)) (((w1.alloc (.cells #[.int .i64 par, .slice va nodes.length vc] 24)).setCell ⟨w.heap.size, 0, none⟩ (.int .i64 par)).setCell ⟨w.heap.size, 1, none⟩ (.slice va nodes.length vc)) :=
    Kept.setCell (p := ⟨w.heap.size, 1, none⟩) (Kept.setCell (p := ⟨w.heap.size, 0, none⟩) (Kept.refl (one w.heap.size) _) (.inl rfl) _) (.inl rfl) _
  have hjk := hj.pure ka
  obtain ⟨rcs, hrow, _⟩ := hjk.row
  have hjF := hjk.keptS ks (fun k hk => by
    unfold one at hk
    refine ⟨by omega, fun h => ?_, fun h => ?_⟩
    · have := (hrow.lt k h).1; have := hjk.lt; omega
    · have := (hjk.dd k h).1; have := hjk.lt; omega)
  have F : MadeQ w par nodes (.returned (.agg #[.int .i64 par, .slice va nodes.length vc])) (((w1.alloc (.cells #[.int .i64 par, .slice va nodes.length vc] 24)).setCell ⟨w.heap.size, 0, none⟩ (.int .i64 par)).setCell ⟨w.heap.size, 1, none⟩ (.slice va nodes.length vc)) :=
    ⟨_, J, lo, D, rfl, hjF, by omega, (((H.out.1.trans k1).trans ka).new ks (fun i hi hs => by unfold one at hs; omega))⟩
  have FF := Lib.hid (And.intro F hset)
  clear F hset ks hj hjk hjF hrow k1 ka
  go_wp2_with fail
  obtain ⟨WF, hWF⟩ : ∃ WF, (((w1.alloc (.cells #[.int .i64 par, .slice va nodes.length vc] 24)).setCell ⟨w.heap.size, 0, none⟩ (.int .i64 par)).setCell ⟨w.heap.size, 1, none⟩ (.slice va nodes.length vc)) = WF := ⟨_, rfl⟩
  obtain ⟨F, s5⟩ := FF.out
  have s5' : WF.heap[w.heap.size]? = some (.cells #[.int .i64 par, .slice va nodes.length vc] 24 (0, 0)) := by rw [← hWF]; simpa using s5
  rw [hWF] at F ⊢
  have q0 := cells_at s5' (j := 0) rfl
  have q1 := cells_at s5' (j := 1) rfl
  refine bodyPost_ret (v := .agg #[.int .i64 par, .slice va nodes.length vc]) (by simp [results, Tryz.results40, go_sem, q0, q1]) rfl F
def goodB (r : Nat) : Bool := r == 97 || r == 99 || r == 118 || r == 108 || r == 43 || r == 45 || r == 32
theorem goodB_ok {r : Nat} (h : goodB r = true) : goodR r := by
  unfold goodB at h
  unfold goodR
  simp at h
  omega
theorem good_all {l : List (Nat × Nat)} (h : l.all (fun p => goodB p.2) = true) : ∀ p ∈ l, goodR p.2 := fun p hp => goodB_ok (List.all_eq_true.1 h p hp)
abbrev sumsT : ByteArray := ⟨#[112, 97, 114, 32, 50, 10, 115, 32, 115, 111, 117, 114, 99, 101, 10, 114, 32, 114, 101, 100, 117, 99, 101, 32, 115, 32, 58, 32, 97, 99, 99, 32, 43, 32, 118, 97, 108, 10, 116, 32, 115, 105, 110, 107, 32, 114]⟩
def sumsN : List JN := [⟨⟨#[115]⟩, 1, [], .mk 0 0 [], 0⟩, ⟨⟨#[114]⟩, 6, [0], .mk 7 0 [.mk 4 0 [], .mk 3 0 []], 0⟩, ⟨⟨#[116]⟩, 9, [1], .mk 0 0 [], 0⟩]
theorem sums_parse : ParseN sumsT 2 sumsN := by
  refine ⟨by decide, ⟨⟨#[112, 97, 114, 32, 50]⟩, [⟨#[115, 32, 115, 111, 117, 114, 99, 101]⟩, ⟨#[114, 32, 114, 101, 100, 117, 99, 101, 32, 115, 32, 58, 32, 97, 99, 99, 32, 43, 32, 118, 97, 108]⟩, ⟨#[116, 32, 115, 105, 110, 107, 32, 114]⟩], ⟨#[112, 97, 114, 32, 50]⟩, noneS, ⟨#[50]⟩, by kernel_rfl, by kernel_rfl, by decide, by kernel_rfl, by kernel_rfl, by kernel_rfl, ?_⟩, ⟨by decide, by decide⟩, by decide, by kernel_rfl⟩
  have l0 : LineN ([] : List JN) ⟨#[115, 32, 115, 111, 117, 114, 99, 101]⟩ ⟨#[115]⟩ ⟨#[115, 111, 117, 114, 99, 101]⟩ [] 1 none := ⟨by kernel_rfl, by kernel_rfl, by decide, by decide, (fun i hi => by cases hi), by kernel_rfl, by kernel_rfl, by decide, (fun y h => by cases h)⟩
  have l1 : LineN ([⟨⟨#[115]⟩, 1, [], .mk 0 0 [], 0⟩] : List JN) ⟨#[114, 32, 114, 101, 100, 117, 99, 101, 32, 115, 32, 58, 32, 97, 99, 99, 32, 43, 32, 118, 97, 108]⟩ ⟨#[114]⟩ ⟨#[114, 101, 100, 117, 99, 101]⟩ [⟨#[115]⟩] 6 (some (.mk 7 0 [.mk 4 0 [], .mk 3 0 []])) := ⟨by kernel_rfl, by kernel_rfl, by decide, by decide, (fun i hi => by rw [List.mem_singleton.1 hi, show findJ ([⟨⟨#[115]⟩, 1, [], .mk 0 0 [], 0⟩] : List JN) ⟨#[115]⟩ = (0 : Int) from by kernel_rfl]; decide), by kernel_rfl, by kernel_rfl, by decide, (fun y h => by cases h; exact ⟨[97, 99, 99, 32, 43, 32, 118, 97, 108], by kernel_rfl, by decide, good_all (by kernel_rfl), by kernel_rfl, by unfold depOk; intro z hz; simp [Ex.args] at hz; rcases hz with rfl | rfl <;> (unfold depOk; intro z hz; simp [Ex.args] at hz)⟩)⟩
  have l2 : LineN ([⟨⟨#[115]⟩, 1, [], .mk 0 0 [], 0⟩, ⟨⟨#[114]⟩, 6, [0], .mk 7 0 [.mk 4 0 [], .mk 3 0 []], 0⟩] : List JN) ⟨#[116, 32, 115, 105, 110, 107, 32, 114]⟩ ⟨#[116]⟩ ⟨#[115, 105, 110, 107]⟩ [⟨#[114]⟩] 9 none := ⟨by kernel_rfl, by kernel_rfl, by decide, by decide, (fun i hi => by rw [List.mem_singleton.1 hi, show findJ ([⟨⟨#[115]⟩, 1, [], .mk 0 0 [], 0⟩, ⟨⟨#[114]⟩, 6, [0], .mk 7 0 [.mk 4 0 [], .mk 3 0 []], 0⟩] : List JN) ⟨#[114]⟩ = (1 : Int) from by kernel_rfl]; decide), by kernel_rfl, by kernel_rfl, by decide, (fun y h => by cases h)⟩
  refine .cons (by kernel_rfl) l0 (by decide) (by decide) ?_
  have e0 : ([] ++ [lineJN [] ⟨#[115]⟩ [] 1 none] : List JN) = [⟨⟨#[115]⟩, 1, [], .mk 0 0 [], 0⟩] := by kernel_rfl
  rw [e0]
  refine .cons (by kernel_rfl) l1 (by decide) (by decide) ?_
  have e1 : ([⟨⟨#[115]⟩, 1, [], .mk 0 0 [], 0⟩] ++ [lineJN [⟨⟨#[115]⟩, 1, [], .mk 0 0 [], 0⟩] ⟨#[114]⟩ [⟨#[115]⟩] 6 (some (.mk 7 0 [.mk 4 0 [], .mk 3 0 []]))] : List JN) = [⟨⟨#[115]⟩, 1, [], .mk 0 0 [], 0⟩, ⟨⟨#[114]⟩, 6, [0], .mk 7 0 [.mk 4 0 [], .mk 3 0 []], 0⟩] := by kernel_rfl
  rw [e1]
  refine .cons (by kernel_rfl) l2 (by decide) (by decide) ?_
  have e2 : ([⟨⟨#[115]⟩, 1, [], .mk 0 0 [], 0⟩, ⟨⟨#[114]⟩, 6, [0], .mk 7 0 [.mk 4 0 [], .mk 3 0 []], 0⟩] ++ [lineJN [⟨⟨#[115]⟩, 1, [], .mk 0 0 [], 0⟩, ⟨⟨#[114]⟩, 6, [0], .mk 7 0 [.mk 4 0 [], .mk 3 0 []], 0⟩] ⟨#[116]⟩ [⟨#[114]⟩] 9 none] : List JN) = [⟨⟨#[115]⟩, 1, [], .mk 0 0 [], 0⟩, ⟨⟨#[114]⟩, 6, [0], .mk 7 0 [.mk 4 0 [], .mk 3 0 []], 0⟩, ⟨⟨#[116]⟩, 9, [1], .mk 0 0 [], 0⟩] := by kernel_rfl
  rw [e2]
  exact .nil _
abbrev othrT : ByteArray := ⟨#[112, 97, 114, 32, 50, 10, 115, 32, 115, 111, 117, 114, 99, 101, 10, 113, 32, 114, 101, 100, 117, 99, 101, 32, 115, 32, 58, 32, 97, 99, 99, 32, 43, 32, 118, 97, 108, 10, 116, 32, 115, 105, 110, 107, 32, 113]⟩
def othrN : List JN := [⟨⟨#[115]⟩, 1, [], .mk 0 0 [], 0⟩, ⟨⟨#[113]⟩, 6, [0], .mk 7 0 [.mk 4 0 [], .mk 3 0 []], 0⟩, ⟨⟨#[116]⟩, 9, [1], .mk 0 0 [], 0⟩]
theorem othr_parse : ParseN othrT 2 othrN := by
  refine ⟨by decide, ⟨⟨#[112, 97, 114, 32, 50]⟩, [⟨#[115, 32, 115, 111, 117, 114, 99, 101]⟩, ⟨#[113, 32, 114, 101, 100, 117, 99, 101, 32, 115, 32, 58, 32, 97, 99, 99, 32, 43, 32, 118, 97, 108]⟩, ⟨#[116, 32, 115, 105, 110, 107, 32, 113]⟩], ⟨#[112, 97, 114, 32, 50]⟩, noneS, ⟨#[50]⟩, by kernel_rfl, by kernel_rfl, by decide, by kernel_rfl, by kernel_rfl, by kernel_rfl, ?_⟩, ⟨by decide, by decide⟩, by decide, by kernel_rfl⟩
  have l0 : LineN ([] : List JN) ⟨#[115, 32, 115, 111, 117, 114, 99, 101]⟩ ⟨#[115]⟩ ⟨#[115, 111, 117, 114, 99, 101]⟩ [] 1 none := ⟨by kernel_rfl, by kernel_rfl, by decide, by decide, (fun i hi => by cases hi), by kernel_rfl, by kernel_rfl, by decide, (fun y h => by cases h)⟩
  have l1 : LineN ([⟨⟨#[115]⟩, 1, [], .mk 0 0 [], 0⟩] : List JN) ⟨#[113, 32, 114, 101, 100, 117, 99, 101, 32, 115, 32, 58, 32, 97, 99, 99, 32, 43, 32, 118, 97, 108]⟩ ⟨#[113]⟩ ⟨#[114, 101, 100, 117, 99, 101]⟩ [⟨#[115]⟩] 6 (some (.mk 7 0 [.mk 4 0 [], .mk 3 0 []])) := ⟨by kernel_rfl, by kernel_rfl, by decide, by decide, (fun i hi => by rw [List.mem_singleton.1 hi, show findJ ([⟨⟨#[115]⟩, 1, [], .mk 0 0 [], 0⟩] : List JN) ⟨#[115]⟩ = (0 : Int) from by kernel_rfl]; decide), by kernel_rfl, by kernel_rfl, by decide, (fun y h => by cases h; exact ⟨[97, 99, 99, 32, 43, 32, 118, 97, 108], by kernel_rfl, by decide, good_all (by kernel_rfl), by kernel_rfl, by unfold depOk; intro z hz; simp [Ex.args] at hz; rcases hz with rfl | rfl <;> (unfold depOk; intro z hz; simp [Ex.args] at hz)⟩)⟩
  have l2 : LineN ([⟨⟨#[115]⟩, 1, [], .mk 0 0 [], 0⟩, ⟨⟨#[113]⟩, 6, [0], .mk 7 0 [.mk 4 0 [], .mk 3 0 []], 0⟩] : List JN) ⟨#[116, 32, 115, 105, 110, 107, 32, 113]⟩ ⟨#[116]⟩ ⟨#[115, 105, 110, 107]⟩ [⟨#[113]⟩] 9 none := ⟨by kernel_rfl, by kernel_rfl, by decide, by decide, (fun i hi => by rw [List.mem_singleton.1 hi, show findJ ([⟨⟨#[115]⟩, 1, [], .mk 0 0 [], 0⟩, ⟨⟨#[113]⟩, 6, [0], .mk 7 0 [.mk 4 0 [], .mk 3 0 []], 0⟩] : List JN) ⟨#[113]⟩ = (1 : Int) from by kernel_rfl]; decide), by kernel_rfl, by kernel_rfl, by decide, (fun y h => by cases h)⟩
  refine .cons (by kernel_rfl) l0 (by decide) (by decide) ?_
  have e0 : ([] ++ [lineJN [] ⟨#[115]⟩ [] 1 none] : List JN) = [⟨⟨#[115]⟩, 1, [], .mk 0 0 [], 0⟩] := by kernel_rfl
  rw [e0]
  refine .cons (by kernel_rfl) l1 (by decide) (by decide) ?_
  have e1 : ([⟨⟨#[115]⟩, 1, [], .mk 0 0 [], 0⟩] ++ [lineJN [⟨⟨#[115]⟩, 1, [], .mk 0 0 [], 0⟩] ⟨#[113]⟩ [⟨#[115]⟩] 6 (some (.mk 7 0 [.mk 4 0 [], .mk 3 0 []]))] : List JN) = [⟨⟨#[115]⟩, 1, [], .mk 0 0 [], 0⟩, ⟨⟨#[113]⟩, 6, [0], .mk 7 0 [.mk 4 0 [], .mk 3 0 []], 0⟩] := by kernel_rfl
  rw [e1]
  refine .cons (by kernel_rfl) l2 (by decide) (by decide) ?_
  have e2 : ([⟨⟨#[115]⟩, 1, [], .mk 0 0 [], 0⟩, ⟨⟨#[113]⟩, 6, [0], .mk 7 0 [.mk 4 0 [], .mk 3 0 []], 0⟩] ++ [lineJN [⟨⟨#[115]⟩, 1, [], .mk 0 0 [], 0⟩, ⟨⟨#[113]⟩, 6, [0], .mk 7 0 [.mk 4 0 [], .mk 3 0 []], 0⟩] ⟨#[116]⟩ [⟨#[113]⟩] 9 none] : List JN) = [⟨⟨#[115]⟩, 1, [], .mk 0 0 [], 0⟩, ⟨⟨#[113]⟩, 6, [0], .mk 7 0 [.mk 4 0 [], .mk 3 0 []], 0⟩, ⟨⟨#[116]⟩, 9, [1], .mk 0 0 [], 0⟩] := by kernel_rfl
  rw [e2]
  exact .nil _
end Go.Proofs.YtopeleenlcnkkaaGreatDoor
/-
  ideal.New: an ideal without states.
-/
namespace Go.Proofs.YtopeleenlcnkkaaGreatDoor
open Go Go.RowKit
attribute [local irreducible] wpL
theorem LoadQ.grow {w0 w w' : World} {j : Jb} {l : List St} {e : Ending} (h : LoadQ w j l e w') (hk : Kept none' w0 w) : LoadQ w0 j l e w' := by
  unfold LoadQ at h ⊢
  split at h
  · obtain ⟨b, m, pm, h1, h2, h3, h5, h4⟩ := h
    exact ⟨b, m, pm, h1, h2, Nat.le_trans hk.size h3, fun q T hT => Nat.le_trans hk.size (h5 q T hT), hk.trans h4⟩
  · exact ⟨h.1, h.2.1, hk.trans h.2.2⟩
theorem LoadQ.tuple {w w' : World} {j : Jb} {l : List St} {e : Ending} (h : LoadQ w j l e w') : ∃ p er, e = .returned (.tuple #[.pointer p, .int .i64 er]) := by
  unfold LoadQ at h
  split at h
  · obtain ⟨b, m, pm, h1, _⟩ := h
    exact ⟨_, _, h1⟩
  · exact ⟨_, _, h.1⟩
set_option maxRecDepth 100000 in
set_option maxHeartbeats 1000000 in
theorem newI_any (j : Jb) (a : Array Value) (w : World) (h : JbAt w a j) : Calls Tryz.prog 19 #[.agg a] w (LoadQ w j []) := by
  have hJ := h
  obtain ⟨v, rfl, hn, hp⟩ := h
  obtain ⟨na, cap, rfl, h1, h2, h3⟩ := hn.at
  have kA : Kept none' w (w.alloc (.cells #[.int .i64 j.par, .slice na j.nodes.length cap] 24)) := (Kept.refl _ _).alloc _
  have cl := load_any j _ (.slice none 0 0) [] _ (hJ.pure kA) (Reads.nil _ 2) (fun s hs => by cases hs)
  have KA := Lib.hid kA
  clear kA hJ hn hp h3 h2
  go_enter Tryz.func19, Tryz.ntmps19
  go_wp2_with fail
  (with_reducible refine cl.mono ?_)
  clear cl
  intro e w2 hq
  obtain ⟨p, er, rfl⟩ := hq.tuple
  have F := Lib.hid (hq.grow KA.out)
  clear hq
  go_wp2_with fail
  go_ret2
  exact F.out
end Go.Proofs.YtopeleenlcnkkaaGreatDoor
/-
  Feed's memory: tables beside a row that is being made.
-/
namespace Go.Proofs.YtopeleenlcnkkaaGreatDoor
open Go Go.RowKit
/-- The blocks of the tables' maps. -/
def mapsOf (Ts : Tabs) (pm : Nat → Nat × Nat) : Nat → Prop := fun k => ∃ (i : Nat) (T : Tab), Ts[i]? = some (some T) ∧ (pm i).2 = k
/-- A row of n that is being made in block mb: its first ones read as M. -/
def MadeAt (w : World) (mb n : Nat) (M : List (List Rec)) : Prop :=
  ∃ cs, w.ownsRow mb 42 1 (.slice (some ⟨mb, 0, none⟩) n n) n cs ∧ ∀ (i : Nat) (L : List Rec), M[i]? = some L → ∃ v, cs[i]? = some v ∧ Reads w 3 v (recs L) ∧ ∀ b, Value.blk v = some b → mb < b
theorem MadeAt.keptS {S : Nat → Prop} {w w' : World} {mb n : Nat} {M : List (List Rec)} (h : MadeAt w mb n M) (hk : Kept S w w') (hS : ∀ k, S k → k < mb) : MadeAt w' mb n M := by
  obtain ⟨cs, h1, h2⟩ := h
  refine ⟨cs, hk.owns h1 (fun k hk hs => ?_), fun i L hL => ?_⟩
  · have : mb = k := by simpa [Value.ownBlock] using hk
    have := hS k hs
    omega
  · obtain ⟨v, g1, g2, g3⟩ := h2 i L hL
    exact ⟨v, g1, g2.kept hk (fun b hb hs => by have := g3 b hb; have := hS b hs; omega), g3⟩
theorem MadeAt.pure {w w' : World} {mb n : Nat} {M : List (List Rec)} (h : MadeAt w mb n M) (hk : Kept none' w w') : MadeAt w' mb n M := h.keptS hk (fun _ h => h.elim)
theorem MadeAt.cell {w : World} {mb n : Nat} {M : List (List Rec)} (h : MadeAt w mb n M) (hM : M.length ≤ n) {i : Nat} {L : List Rec} (hL : M[i]? = some L) :
    ∃ v, w.cell? ⟨mb, i, none⟩ = some v ∧ Reads w 3 v (recs L) ∧ ∀ b, Value.blk v = some b → mb < b := by
  obtain ⟨cs, h1, h2⟩ := h
  obtain ⟨v, g1, g2, g3⟩ := h2 i L hL
  have hi : i < M.length := (List.getElem?_eq_some_iff.1 hL).1
  exact ⟨v, by rw [h1.cellAt i (by omega)]; exact g1, g2, g3⟩
theorem MadeAt.free {w : World} {mb n : Nat} {M : List (List Rec)} (h : MadeAt w mb n M) {i : Nat} (hi : i < n) : (∃ v, w.cell? ⟨mb, i, none⟩ = some v) ∧ w.frozen? ⟨mb, i, none⟩ = false := by
  obtain ⟨cs, h1, _⟩ := h
  refine ⟨?_, h1.frozenAt i⟩
  have hl : cs.length = n * 1 := h1.1
  have hc := h1.cellAt i (by omega)
  exact ⟨_, hc.trans (List.getElem?_eq_getElem (by omega))⟩
theorem MadeAt.lt {w : World} {mb n : Nat} {M : List (List Rec)} (h : MadeAt w mb n M) : mb < w.heap.size := by
  obtain ⟨cs, h1, _⟩ := h
  exact (h1.lt mb rfl).2
theorem MadeAt.store {w : World} {mb n : Nat} {M : List (List Rec)} (h : MadeAt w mb n M) (hM : M.length < n) {v : Value} {L : List Rec} (hv : Reads w 3 v (recs L)) (hb : ∀ b, Value.blk v = some b → mb < b) :
    MadeAt (w.setCell ⟨mb, M.length, none⟩ v) mb n (M ++ [L]) ∧ Kept (one mb) w (w.setCell ⟨mb, M.length, none⟩ v) := by
  obtain ⟨cs, h1, h2⟩ := h
  have hl : cs.length = n * 1 := h1.1
  have hk : Kept (one mb) w (w.setCell ⟨mb, M.length, none⟩ v) := Kept.setCell (p := ⟨mb, M.length, none⟩) (Kept.refl (one mb) _) (.inl rfl) _
  refine ⟨⟨cs.set M.length v, (h1.stored M.length v).1, fun i U hU => ?_⟩, hk⟩
  by_cases hi : i < M.length
  · rw [List.getElem?_append_left hi] at hU
    obtain ⟨u, g1, g2, g3⟩ := h2 i U hU
    exact ⟨u, by rw [List.getElem?_set_ne (by omega)]; exact g1, g2.kept hk (fun b hb hs => by have := g3 b hb; unfold one at hs; omega), g3⟩
  · have hi2 : i = M.length := by
      have := (List.getElem?_eq_some_iff.1 hU).1
      simp at this; omega
    subst hi2
    rw [List.getElem?_append_right (Nat.le_refl _), Nat.sub_self] at hU
    cases hU
    exact ⟨v, List.getElem?_set_self (by omega), hv.kept hk (fun b hb' hs => by have := hb b hb'; unfold one at hs; omega), hb⟩
theorem JNAt.nod {w : World} {a : Array Value} {d : JN} (h : JNAt w a d) : NodAt w a d.nod := by
  obtain ⟨pi, ci, p, cap, h1, h2, h3, h4, h5, h6, h7, h8⟩ := h
  exact ⟨d.uid, _, p, cap, h1, h2, h5, h6, h7⟩
end Go.Proofs.YtopeleenlcnkkaaGreatDoor
/-
  ideal.Feed: its walk.
-/
namespace Go.Proofs.YtopeleenlcnkkaaGreatDoor
open Go Go.RowKit
attribute [local irreducible] wpL
end Go.Proofs.YtopeleenlcnkkaaGreatDoor
/-
  What each law of the ideals ends in: the document's job, fed twice.
-/
namespace Go.Proofs.YtopeleenlcnkkaaGreatDoor
open Go Go.RowKit
attribute [local irreducible] wpL wpTr H2.wpH
theorem Kept.maps {w0 w w' : World} {Ts : Tabs} {pm : Nat → Nat × Nat} (h : Kept none' w0 w) (hn : NewT w0.heap.size Ts pm) (hk : Kept (mapsOf Ts pm) w w') : Kept none' w0 w' :=
  h.new hk (fun i hi hs => by
    obtain ⟨q, T, hT, rfl⟩ := hs
    have := hn q T hT
    omega)
end Go.Proofs.YtopeleenlcnkkaaGreatDoor
/-
  Heavy: whether what comes in is more than is gone through (laws 12 and 18).
-/
namespace Go.Proofs.YtopeleenlcnkkaaGreatDoor
open Go Go.RowKit
attribute [local irreducible] wpL wpTr H2.wpH
def SaysQ (w : World) (e : Ending) (w' : World) : Prop := ∃ b : Bool, e = .returned (.bool b) ∧ Kept none' w w'
set_option maxRecDepth 100000 in
set_option maxHeartbeats 1000000 in
theorem heavy12_any (j : Jb) (a : Array Value) (w : World) (h : JbAt w a j) : Calls Tryz.prog 39 #[.agg a] w (SaysQ w) := by
  obtain ⟨v, rfl, hn, hp⟩ := h
  obtain ⟨na, cap, rfl, h1, h2, h3⟩ := hn.at
  unfold maxLen at h2
  have kA : Kept none' w (w.alloc (.cells #[.int .i64 j.par, .slice na j.nodes.length cap] 24)) := (Kept.refl _ _).alloc _
  have b1 : (w.alloc (.cells #[.int .i64 j.par, .slice na j.nodes.length cap] 24)).cell? ⟨w.heap.size, 1, none⟩ = some (.slice na j.nodes.length cap) := by simp
  have H3 := Lib.hid h3
  have KA := Lib.hid kA
  clear h3 hn hp kA
  by_cases hl : 40 < j.nodes.length
  · go_enter Tryz.func39, Tryz.ntmps39
    go_wp2_with fail
    go_ret
    exact ⟨true, rfl, KA.out⟩
  · go_enter Tryz.func39, Tryz.ntmps39
    go_wp2_with fail
    obtain ⟨W0, hW0⟩ : ∃ W0, w.alloc (.cells #[.int .i64 j.par, .slice na j.nodes.length cap] 24) = W0 := ⟨_, rfl⟩
    rw [hW0] at KA b1 ⊢
    have B1 := Lib.hid b1
    clear hW0 b1
    go_loopg [3, 13] j.nodes.length (fun g vn vi wr => ∃ (k : Nat) (n : Int), k ≤ j.nodes.length ∧ vi = .int .i64 (k : Int) ∧ vn = .int .i64 n ∧ j.nodes.length - k ≤ g ∧ 0 ≤ n ∧ n ≤ 3000 ∧ Kept none' w wr)
    case atStart => exact ⟨0, 0, by omega, rfl, rfl, by omega, by omega, by omega, KA.out⟩
    case round =>
      obtain ⟨k, n, hkl, rfl, rfl, hg, hn1, hn2, hkp⟩ := hrel
      by_cases hlt : k < j.nodes.length
      · obtain ⟨d, hd⟩ : ∃ d, j.nodes[k]? = some d := ⟨_, List.getElem?_eq_getElem hlt⟩
        obtain ⟨b, off, pi, ci, p, cap', rfl, hc, hj⟩ := H3.out k d hd
        obtain ⟨c0, c1, c2, c3, c4, c5, c6⟩ := hc.kept hkp (fun h => h)
        have kA : Kept none' wr (wr.alloc (.cells (jnC d pi ci p cap') 97)) := (Kept.refl _ _).alloc _
        have hx : ExAt (wr.alloc (.cells (jnC d pi ci p cap') 97)) #[.int .u8 d.x.op, .int .i64 d.x.n, .slice p d.x.args.length cap'] d.x := by
          have hx0 : ExAt w #[.int .u8 d.x.op, .int .i64 d.x.n, .slice p d.x.args.length cap'] d.x := by
            obtain ⟨_, _, _, _, e, hx, _⟩ := hj
            simp only [Array.mk.injEq, List.cons.injEq, Value.slice.injEq, and_true, true_and] at e
            obtain ⟨-, e1, e2⟩ := e
            rw [e1, e2]
            exact hx
          exact ExAt.pure (hkp.trans kA) hx0
        have cz := size_any (SizeOf.sizeOf d.x) d.x _ _ (Nat.le_refl _) hx
        have nB : (wr.alloc (.cells (jnC d pi ci p cap') 97)).heap[wr.heap.size]? = some (.cells (jnC d pi ci p cap') 97 (0, 0)) := heap_alloc_new _ _
        have HC := Lib.hid (And.intro hg (And.intro hkp (And.intro kA (And.intro nB hj))))
        clear hg hkp kA nB hj hc hx hd
        go_wp2_with fail
        (with_reducible refine cz.mono ?_)
        clear cz
        rintro e w2 ⟨z, rfl, hz1, hz2, k2⟩
        have nB2 := k2.heap HC.out.2.2.2.1 (fun h => h)
        have z0 : w2.cell? ⟨wr.heap.size, 0, none⟩ = some (.string d.uid) := cells_at nB2 rfl
        have z2 : w2.cell? ⟨wr.heap.size, 2, none⟩ = some (.slice pi d.ins.length ci) := cells_at nB2 rfl
        have K2 := Lib.hid (HC.out.2.1.trans (HC.out.2.2.1.trans k2))
        have hu : d.uid.size ≤ 2 ^ 63 - 1 := by have := HC.out.2.2.2.2; obtain ⟨_, _, _, _, _, _, _, _, _, _, _, h⟩ := this; unfold maxLen at h; exact h
        clear k2 nB2
        by_cases q1 : 40 < d.ins.length
        · go_wp2_with fail
          go_ret
          exact ⟨true, rfl, K2.out⟩
        · by_cases q2 : 1000 < d.uid.size
          · go_wp2_with fail
            go_ret
            exact ⟨true, rfl, K2.out⟩
          · by_cases q3 : 3000 < n + z
            · go_wp2_with fail
              go_ret
              exact ⟨true, rfl, K2.out⟩
            · go_wp2_with fail
              go_roundg (j.nodes.length - (k + 1))
              case rel => exact ⟨k + 1, n + z, by omega, by go_num, rfl, Nat.le_refl _, by omega, by omega, K2.out⟩
              case measure => have := HC.out.1; omega
      · have HK := Lib.hid hkp
        clear hkp
        go_wp2_with fail
        go_ret
        exact ⟨false, rfl, HK.out⟩
set_option maxRecDepth 100000 in
set_option maxHeartbeats 1000000 in
theorem heavy_any (j : Jb) (a : Array Value) (sv : Value) (l : List St) (rv : Value) (R : List Rec) (w : World) (h : JbAt w a j) (hs : Reads w 2 sv (stsC l)) (hsz : ∀ s ∈ l, s.1.size ≤ maxLen ∧ s.2.size ≤ maxLen) (hr : Reads w 3 rv (recs R)) :
    Calls Tryz.prog 15 #[.agg a, sv, rv] w (SaysQ w) := by
  have hJ := h
  obtain ⟨v, rfl, hn, hp⟩ := h
  obtain ⟨na, cap, rfl, h1, h2, h3⟩ := hn.at
  obtain ⟨sa, scap, rfl, s1, s2, s3⟩ := hs.stAt
  obtain ⟨ra, rcap, rfl, r1, r2, r3⟩ := hr.recAt
  unfold maxLen at h2 s2 r2
  have kA : Kept none' w (w.alloc (.cells #[.int .i64 j.par, .slice na j.nodes.length cap] 24)) := (Kept.refl _ _).alloc _
  have tA : (w.alloc (.cells #[.int .i64 j.par, .slice na j.nodes.length cap] 24)).heap[w.heap.size]? = some (.cells #[.int .i64 j.par, .slice na j.nodes.length cap] 24 (0, 0)) := heap_alloc_new _ _
  have H3 := Lib.hid (And.intro hJ (And.intro s3 hsz))
  have KA := Lib.hid (And.intro kA tA)
  clear h3 hn hp kA hJ s3 hsz hs hr r3 tA
  go_enter Tryz.func15, Tryz.ntmps15
  go_wp2_with fail
  obtain ⟨W0, hW0⟩ : ∃ W0, w.alloc (.cells #[.int .i64 j.par, .slice na j.nodes.length cap] 24) = W0 := ⟨_, rfl⟩
  rw [hW0] at KA ⊢
  clear hW0
  go_loopg [11] l.length (fun g vi wr => ∃ k : Nat, k ≤ l.length ∧ vi = .int .i64 (k : Int) ∧ l.length - k ≤ g ∧ Kept none' W0 wr)
  case atStart => exact ⟨0, by omega, rfl, by omega, Kept.refl _ _⟩
  case round =>
    obtain ⟨k, hkl, rfl, hg, hkp⟩ := hrel
    by_cases hlt : k < l.length
    · obtain ⟨s, hs⟩ : ∃ s, l[k]? = some s := ⟨_, List.getElem?_eq_getElem hlt⟩
      obtain ⟨bs, offs, rfl, hcs⟩ := H3.out.2.1.resolve_left (fun h => by rw [h] at hlt; simp at hlt)
      have kw := KA.out.1.trans hkp
      have y0 := kw.cell (fun h => h) (hcs k s hs).1
      have y1 := kw.cell (fun h => h) (hcs k s hs).2
      obtain ⟨hz0, hz1⟩ := H3.out.2.2 s (List.mem_of_getElem? hs)
      unfold maxLen at hz0 hz1
      have G := Lib.hid (And.intro hg (And.intro hkp (And.intro kw (hkp.alloc (.cells #[.string s.1, .string s.2] 33)))))
      clear hg hkp kw hcs hs
      by_cases q1 : 20000 < s.2.size
      · go_wp2_with fail
        go_ret
        exact ⟨true, rfl, KA.out.1.trans G.out.2.2.2⟩
      · by_cases q2 : 1000 < s.1.size
        · go_wp2_with fail
          go_ret
          exact ⟨true, rfl, KA.out.1.trans G.out.2.2.2⟩
        · go_wp2_with fail
          go_roundg (l.length - (k + 1))
          case rel => exact ⟨k + 1, by omega, by go_num, Nat.le_refl _, G.out.2.2.2⟩
          case measure => have := G.out.1; omega
    · have tw := hkp.heap KA.out.2 (fun h => h)
      have x0 := cells_at tw (j := 0) rfl
      have x1 := cells_at tw (j := 1) rfl
      have hB : w.heap.size < wr.heap.size := (Array.getElem?_eq_some_iff.1 tw).1
      have ch := heavy12_any j _ wr (H3.out.1.pure (KA.out.1.trans hkp))
      have G := Lib.hid (KA.out.1.trans hkp)
      clear hkp tw hg
      go_wp2_with fail
      (with_reducible refine ch.mono ?_)
      clear ch
      rintro e w2 ⟨b, rfl, k2⟩
      have F := Lib.hid (G.out.trans k2)
      clear k2
      by_cases q0 : b = true
      · subst q0
        go_wp2_with fail
        go_ret
        exact ⟨_, rfl, F.out⟩
      · have q0' : b = false := by simpa using q0
        subst q0'
        clear q0
        by_cases q1 : 40 < l.length
        · go_wp2_with fail
          go_ret
          exact ⟨_, rfl, F.out⟩
        · go_wp2_with fail
          go_ret
          exact ⟨_, rfl, F.out⟩
end Go.Proofs.YtopeleenlcnkkaaGreatDoor
