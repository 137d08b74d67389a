/-
  The row's step, with the reach; slices of records that came in.
-/
import Derived.Test.YtopeleenlcnkkaaGreatDoorK06
import Derived.Test.YtopeleenlcnkkaaGreatDoorK12
import Derived.Test.YtopeleenlcnkkaaGreatDoorK16
import Derived.SizedLaws
set_option linter.unusedVariables false
set_option linter.unusedSimpArgs false
namespace Go.Proofs.YtopeleenlcnkkaaGreatDoor
open Go Go.RowKit Go.ChangeShapes Go.WideShapes Go.ChangeAt Go.Deep
/-- A SLICE OF RECORDS THAT CAME IN. -/
theorem open_recs {H : Type} {enc : TypeId × Value → H} {w : World} {fuel n cap : Nat} {a : Option Addr} {x : DataW H × List MemPlace}
    (h : DataW.trod enc Tryz.prog w 0 (fun _ => true) true fuel 42 [.slice a n cap] = some x) : ∃ L : List Rec, L.length = n ∧ Reads w 3 (.slice a n cap) (recs L) ∧ ∀ r ∈ L, RecOk r := by
  obtain ⟨cs, hl, hr, hel⟩ := open_reads (k := 3) Tryz.underlying42 (by kernel_rfl) (by omega) h
  have each : ∀ i, i < n → ∃ r : Rec, RecOk r ∧ (cs.drop (i * 3)).take 3 = [.int .i64 r.pos, .int .i64 r.key, .int .i64 r.val] := by
    intro i hi
    obtain ⟨m, y, hy⟩ := hel i hi
    obtain ⟨v0, v1, v2, hd⟩ : ∃ v0 v1 v2, (cs.drop (i * 3)).take 3 = [v0, v1, v2] := by
      have hlen : ((cs.drop (i * 3)).take 3).length = 3 := by rw [List.length_take, List.length_drop]; omega
      match (cs.drop (i * 3)).take 3, hlen with
      | [v0, v1, v2], _ => exact ⟨v0, v1, v2, rfl⟩
    rw [hd] at hy ⊢
    obtain ⟨xs, f1, _, _, _, hxl, hf⟩ := DataW.trod_struct Tryz.underlying44 hy
    have g0 : DataW.trod enc Tryz.prog w 0 (fun _ => true) true f1 2 ([v0, v1, v2].drop 0 |>.take (Tryz.prog.cellsOf 2)) = xs[0]? := hf 0 _ rfl
    have g1 : DataW.trod enc Tryz.prog w 0 (fun _ => true) true f1 2 ([v0, v1, v2].drop 1 |>.take (Tryz.prog.cellsOf 2)) = xs[1]? := hf 1 _ rfl
    have g2 : DataW.trod enc Tryz.prog w 0 (fun _ => true) true f1 2 ([v0, v1, v2].drop 2 |>.take (Tryz.prog.cellsOf 2)) = xs[2]? := hf 2 _ rfl
    rw [show Tryz.prog.cellsOf 2 = 1 by kernel_rfl] at g0 g1 g2
    simp only [List.drop_succ_cons, List.drop_zero, List.take_succ_cons, List.take_zero] at g0 g1 g2
    match xs, hxl with
    | [x0, x1, x2], _ =>
      obtain ⟨z0, hz0, _, hw0⟩ := DataW.trod_int Tryz.underlying2 g0
      obtain ⟨z1, hz1, _, hw1⟩ := DataW.trod_int Tryz.underlying2 g1
      obtain ⟨z2, hz2, _, hw2⟩ := DataW.trod_int Tryz.underlying2 g2
      injection hz0 with hz0 _
      injection hz1 with hz1 _
      injection hz2 with hz2 _
      subst hz0 hz1 hz2
      exact ⟨⟨z0, z1, z2⟩, ⟨.of_wf hw0, .of_wf hw1, .of_wf hw2⟩, rfl⟩
  obtain ⟨O, hO⟩ := choose_lt each
  refine ⟨(List.range n).map O, by simp, ?_, fun r hr => ?_⟩
  · have : cs = recs ((List.range n).map O) := by
      apply List.ext_getElem?
      intro j
      by_cases hj : j < n * 3
      · have hi : j / 3 < n := by omega
        have h1 := (hO (j / 3) hi).2
        have h2 : cs[j]? = ((cs.drop (j / 3 * 3)).take 3)[j % 3]? := by
          rw [List.getElem?_take, if_pos (Nat.mod_lt _ (by omega)), List.getElem?_drop]
          congr 1; omega
        rw [h2, h1]
        have h3 : ((List.range n).map O)[j / 3]? = some (O (j / 3)) := by rw [List.getElem?_map, List.getElem?_range hi]; rfl
        obtain ⟨e0, e1, e2⟩ := recs_get h3
        have hm : j % 3 = 0 ∨ j % 3 = 1 ∨ j % 3 = 2 := by omega
        rcases hm with hm | hm | hm
        · rw [hm, show (recs ((List.range n).map O))[j]? = (recs ((List.range n).map O))[j / 3 * 3]? by congr 1; omega, e0]; rfl
        · rw [hm, show (recs ((List.range n).map O))[j]? = (recs ((List.range n).map O))[j / 3 * 3 + 1]? by congr 1; omega, e1]; rfl
        · rw [hm, show (recs ((List.range n).map O))[j]? = (recs ((List.range n).map O))[j / 3 * 3 + 2]? by congr 1; omega, e2]; rfl
      · rw [List.getElem?_eq_none (by omega), List.getElem?_eq_none (by rw [recs_length]; simp; omega)]
    rw [← this]; exact hr
  · obtain ⟨i, hi, rfl⟩ := List.mem_map.1 hr
    exact (hO i (List.mem_range.1 hi)).1
end Go.Proofs.YtopeleenlcnkkaaGreatDoor
