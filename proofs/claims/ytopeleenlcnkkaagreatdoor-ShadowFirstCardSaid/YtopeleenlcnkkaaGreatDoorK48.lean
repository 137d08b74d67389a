/-
  States, sides, inputs that came in.
-/
import Derived.Test.YtopeleenlcnkkaaGreatDoorK22
import Derived.Test.YtopeleenlcnkkaaGreatDoorK47
set_option linter.unusedVariables false
set_option linter.unusedSimpArgs false
namespace Go.Proofs.YtopeleenlcnkkaaGreatDoor
open Go Go.RowKit Go.ChangeShapes Go.WideShapes Go.ChangeAt Go.Deep
section
variable {H : Type} {enc : TypeId × Value → H} {w : World}
set_option maxRecDepth 100000 in
theorem open_sts {fuel n cap : Nat} {a : Option Addr} {x : DataW H × List MemPlace} (h : DataW.trod enc Tryz.prog w 0 (fun _ => true) true fuel 25 [.slice a n cap] = some x) :
  ∃ L : List St, L.length = n ∧ Reads w 2 (.slice a n cap) (stsC L) ∧ ∀ s ∈ L, s.1.size ≤ maxLen ∧ s.2.size ≤ maxLen := by
 obtain ⟨cs, hl, hr, hel⟩ := open_reads (k := 2) Tryz.underlying25 (by kernel_rfl) (by omega) h
 have each : ∀ i, i < n → ∃ s : St, (s.1.size ≤ maxLen ∧ s.2.size ≤ maxLen) ∧ (cs.drop (i * 2)).take 2 = [.string s.1, .string s.2] := by
  intro i hi
  obtain ⟨m, y, hy⟩ := hel i hi
  obtain ⟨v0, v1, hd⟩ : ∃ v0 v1, (cs.drop (i * 2)).take 2 = [v0, v1] := by
   have hlen : ((cs.drop (i * 2)).take 2).length = 2 := by rw [List.length_take, List.length_drop]; omega
   match (cs.drop (i * 2)).take 2, hlen with
   | [v0, v1], _ => exact ⟨v0, v1, rfl⟩
  rw [hd] at hy ⊢
  obtain ⟨xs, f1, _, _, _, hxl, hf⟩ := DataW.trod_struct Tryz.underlying33 hy
  have g0 : DataW.trod enc Tryz.prog w 0 (fun _ => true) true f1 9 ([v0, v1].drop 0 |>.take (Tryz.prog.cellsOf 9)) = xs[0]? := hf 0 _ rfl
  have g1 : DataW.trod enc Tryz.prog w 0 (fun _ => true) true f1 9 ([v0, v1].drop 1 |>.take (Tryz.prog.cellsOf 9)) = xs[1]? := hf 1 _ rfl
  rw [show Tryz.prog.cellsOf 9 = 1 by kernel_rfl] at g0 g1
  simp only [List.drop_succ_cons, List.drop_zero, List.take_succ_cons, List.take_zero] at g0 g1
  match xs, hxl with
  | [x0, x1], _ =>
   obtain ⟨s0, hs0, _, hz0⟩ := DataW.trod_string Tryz.underlying9 g0
   obtain ⟨s1, hs1, _, hz1⟩ := DataW.trod_string Tryz.underlying9 g1
   injection hs0 with hs0 _
   injection hs1 with hs1 _
   subst hs0 hs1
   exact ⟨(s0, s1), ⟨hz0, hz1⟩, rfl⟩
 obtain ⟨O, hO⟩ := choose_lt each
 refine ⟨(List.range n).map O, by simp, ?_, fun r hr => ?_⟩
 ·have : cs = stsC ((List.range n).map O) := by
   apply List.ext_getElem?
   intro j
   by_cases hj : j < n * 2
   ·have hi : j / 2 < n := by omega
    have h1 := (hO (j / 2) hi).2
    have h2 : cs[j]? = ((cs.drop (j / 2 * 2)).take 2)[j % 2]? := by
     rw [List.getElem?_take, if_pos (Nat.mod_lt _ (by omega)), List.getElem?_drop]
     congr 1; omega
    rw [h2, h1]
    have h3 : ((List.range n).map O)[j / 2]? = some (O (j / 2)) := by rw [List.getElem?_map, List.getElem?_range hi]; rfl
    obtain ⟨e0, e1⟩ := stsC_get h3
    have hm : j % 2 = 0 ∨ j % 2 = 1 := by omega
    rcases hm with hm | hm
    ·rw [hm, show j = j / 2 * 2 by omega, show j / 2 * 2 / 2 = j / 2 by omega, e0]; rfl
    ·rw [hm, show j = j / 2 * 2 + 1 by omega, show (j / 2 * 2 + 1) / 2 = j / 2 by omega, e1]; rfl
   ·rw [List.getElem?_eq_none (by rw [hl]; omega), List.getElem?_eq_none (by rw [stsC_length]; simp; omega)]
  rw [← this]; exact hr
 ·obtain ⟨i, hi, rfl⟩ := List.mem_map.1 hr
  exact (hO i (List.mem_range.1 hi)).1
set_option maxRecDepth 100000 in
theorem open_side {fuel : Nat} {cs : List Value} {x : DataW H × List MemPlace} (h : DataW.trod enc Tryz.prog w 0 (fun _ => true) true fuel 48 cs = some x) : ∃ (s : Side) (v u : Value), cs.toArray = #[.int .i64 s.1.par, v, u] ∧ SideAt w v u s := by
 obtain ⟨xs, n, rfl, _, hl, hxl, hf⟩ := DataW.trod_struct Tryz.underlying48 h
 rw [show Tryz.prog.cellsOf 48 = 3 by kernel_rfl] at hl
 match cs, hl with
 | [c0, c1, c2], _ =>
  have g0 : DataW.trod enc Tryz.prog w 0 (fun _ => true) true n 24 ([c0, c1, c2].drop 0 |>.take (Tryz.prog.cellsOf 24)) = xs[0]? := hf 0 _ rfl
  have g1 : DataW.trod enc Tryz.prog w 0 (fun _ => true) true n 25 ([c0, c1, c2].drop 2 |>.take (Tryz.prog.cellsOf 25)) = xs[1]? := hf 1 _ rfl
  rw [show Tryz.prog.cellsOf 24 = 2 by kernel_rfl] at g0
  rw [show Tryz.prog.cellsOf 25 = 1 by kernel_rfl] at g1
  simp only [List.drop_succ_cons, List.drop_zero, List.take_succ_cons, List.take_zero] at g0 g1
  match xs, hxl with
  | [x0, x1], _ =>
   obtain ⟨j, hj⟩ := open_job g0
   obtain ⟨a, ln, cap, rfl⟩ : ∃ a n cap, c2 = .slice a n cap := by
    rcases DataW.trod_slice Tryz.underlying25 g1 with ⟨h, _⟩ | ⟨a, len, cap, _, _, _, _, h, _⟩
    ·injection h with h _; exact ⟨_, _, _, h⟩
    ·injection h with h _; exact ⟨_, _, _, h⟩
   obtain ⟨L, _, hr, hL⟩ := open_sts g1
   have hj' := hj
   obtain ⟨v, e, _, _⟩ := hj'
   have e' : #[c0, c1] = #[.int .i64 j.par, v] := e
   injection e' with e'
   injection e' with e0 e'
   injection e' with e1 _
   subst e0 e1
   exact ⟨(j, L), c1, _, rfl, hj, hr, hL⟩
theorem open_ins {fuel n cap : Nat} {a : Option Addr} {x : DataW H × List MemPlace} (h : DataW.trod enc Tryz.prog w 0 (fun _ => true) true fuel 49 [.slice a n cap] = some x) :
  ∃ L : List Rec, L.length = n ∧ Reads w 3 (.slice a n cap) (recs L) ∧ ∀ r ∈ L, RecOk r := by
 obtain ⟨cs, hl, hr, hel⟩ := open_reads (k := 3) Tryz.underlying49 (by kernel_rfl) (by omega) h
 have each : ∀ i, i < n → ∃ r : Rec, RecOk r ∧ (cs.drop (i * 3)).take 3 = [.int .i64 r.pos, .int .i64 r.key, .int .i64 r.val] := by
  intro i hi
  obtain ⟨m, y, hy⟩ := hel i hi
  obtain ⟨v0, v1, v2, hd⟩ : ∃ v0 v1 v2, (cs.drop (i * 3)).take 3 = [v0, v1, v2] := by
   have hlen : ((cs.drop (i * 3)).take 3).length = 3 := by rw [List.length_take, List.length_drop]; omega
   match (cs.drop (i * 3)).take 3, hlen with
   | [v0, v1, v2], _ => exact ⟨v0, v1, v2, rfl⟩
  rw [hd] at hy ⊢
  obtain ⟨xs, f1, _, _, _, hxl, hf⟩ := DataW.trod_struct Tryz.underlying86 hy
  have g0 : DataW.trod enc Tryz.prog w 0 (fun _ => true) true f1 3 ([v0, v1, v2].drop 0 |>.take (Tryz.prog.cellsOf 3)) = xs[0]? := hf 0 _ rfl
  have g1 : DataW.trod enc Tryz.prog w 0 (fun _ => true) true f1 2 ([v0, v1, v2].drop 1 |>.take (Tryz.prog.cellsOf 2)) = xs[1]? := hf 1 _ rfl
  have g2 : DataW.trod enc Tryz.prog w 0 (fun _ => true) true f1 2 ([v0, v1, v2].drop 2 |>.take (Tryz.prog.cellsOf 2)) = xs[2]? := hf 2 _ rfl
  rw [show Tryz.prog.cellsOf 3 = 1 by kernel_rfl] at g0
  rw [show Tryz.prog.cellsOf 2 = 1 by kernel_rfl] at g1 g2
  simp only [List.drop_succ_cons, List.drop_zero, List.take_succ_cons, List.take_zero] at g0 g1 g2
  match xs, hxl with
  | [x0, x1, x2], _ =>
   obtain ⟨z0, hz0, _, hw0⟩ := DataW.trod_int Tryz.underlying3 g0
   obtain ⟨z1, hz1, _, hw1⟩ := DataW.trod_int Tryz.underlying2 g1
   obtain ⟨z2, hz2, _, hw2⟩ := DataW.trod_int Tryz.underlying2 g2
   injection hz0 with hz0 _
   injection hz1 with hz1 _
   injection hz2 with hz2 _
   subst hz0 hz1 hz2
   exact ⟨⟨z0, z1, z2⟩, ⟨.of_wf hw0, .of_wf hw1, .of_wf hw2⟩, rfl⟩
 obtain ⟨O, hO⟩ := choose_lt each
 refine ⟨(List.range n).map O, by simp, ?_, fun r hr => ?_⟩
 ·have : cs = recs ((List.range n).map O) := by
   apply List.ext_getElem?
   intro j
   by_cases hj : j < n * 3
   ·have hi : j / 3 < n := by omega
    have h1 := (hO (j / 3) hi).2
    have h2 : cs[j]? = ((cs.drop (j / 3 * 3)).take 3)[j % 3]? := by
     rw [List.getElem?_take, if_pos (Nat.mod_lt _ (by omega)), List.getElem?_drop]
     congr 1; omega
    rw [h2, h1]
    have h3 : ((List.range n).map O)[j / 3]? = some (O (j / 3)) := by rw [List.getElem?_map, List.getElem?_range hi]; rfl
    obtain ⟨e0, e1, e2⟩ := recs_get h3
    have hm : j % 3 = 0 ∨ j % 3 = 1 ∨ j % 3 = 2 := by omega
    rcases hm with hm | hm | hm
    ·rw [hm, show j = j / 3 * 3 by omega, show j / 3 * 3 / 3 = j / 3 by omega, e0]; rfl
    ·rw [hm, show j = j / 3 * 3 + 1 by omega, show (j / 3 * 3 + 1) / 3 = j / 3 by omega, e1]; rfl
    ·rw [hm, show j = j / 3 * 3 + 2 by omega, show (j / 3 * 3 + 2) / 3 = j / 3 by omega, e2]; rfl
   ·rw [List.getElem?_eq_none (by rw [hl]; omega), List.getElem?_eq_none (by rw [recs_length]; simp; omega)]
  rw [← this]; exact hr
 ·obtain ⟨i, hi, rfl⟩ := List.mem_map.1 hr
  exact (hO i (List.mem_range.1 hi)).1
theorem trodAll_four {P : Program} {base : Nat} {spare : Nat → Bool} {held : Bool} {t t' t'' u : TypeId} {args : Array Value} {ds : List (DataW H)} {ps : List MemPlace} (h : DataW.TrodAll enc P w base spare held [t, t', t'', u] args.toList ds ps) :
  ∃ v v' v'' y d d' d'' f p p' p'' q, args = #[v, v', v'', y] ∧ ds = [d, d', d'', f] ∧ ps = p ++ p' ++ p'' ++ q ∧ DataW.Trod enc P w base spare held t v d p ∧ DataW.Trod enc P w base spare held t' v' d' p' ∧ DataW.Trod enc P w base spare held t'' v'' d'' p'' ∧ DataW.Trod enc P w base spare held u y f q := by
 obtain ⟨v, vs, d, ds', p, q, hargs, rfl, rfl, hd, hrest⟩ := trodAll_cons h
 obtain ⟨v', vs', d', ds'', p', q', rfl, rfl, rfl, hd', hrest'⟩ := trodAll_cons hrest
 obtain ⟨v'', vs'', d'', ds''', p'', q'', rfl, rfl, rfl, hd'', hrest''⟩ := trodAll_cons hrest'
 obtain ⟨y, vs3, f, ds4, p3, q3, rfl, rfl, rfl, hd3, hrest3⟩ := trodAll_cons hrest''
 obtain ⟨rfl, rfl, rfl⟩ := trodAll_nil hrest3
 exact ⟨v, v', v'', y, d, d', d'', f, p, p', p'', p3, by cases args; simp_all, rfl, by simp, hd, hd', hd'', hd3⟩
end
end Go.Proofs.YtopeleenlcnkkaaGreatDoor
