/-
  Jobs that came in; the row's step beside listed variables, with the reach and the world's shape.
-/
import Derived.Test.YtopeleenlcnkkaaGreatDoorM14
import Derived.Test.YtopeleenlcnkkaaGreatDoorM17
import Derived.Deep.DeepHandedRow
import Derived.LaidMore
import Derived.Shelf.Vars
import Derived.Test.YtopeleenlcnkkaaGreatDoorProg
import Derived.Test.YtopeleenlcnkkaaGreatDoorM15
import Derived.Test.YtopeleenlcnkkaaGreatDoorM01
import Derived.Deep.LoopGhost
set_option linter.unusedVariables false
set_option linter.unusedSimpArgs false
namespace Go.Proofs.YtopeleenlcnkkaaGreatDoor
open Go Go.RowKit Go.ChangeShapes Go.WideShapes Go.ChangeAt Go.Deep
section
variable {H : Type} {enc : TypeId × Value → H} {w : World}
set_option maxRecDepth 100000 in
/-- A NODE OF A JOB THAT CAME IN. -/
theorem open_jnode {fuel : Nat} {cs : List Value} {x : DataW H × List MemPlace} (h : DataW.trod enc Tryz.prog w 0 (fun _ => true) true fuel 97 cs = some x) : ∃ d : JN, JNAt w cs.toArray d := by
  obtain ⟨xs, n, rfl, _, hl, hxl, hf⟩ := DataW.trod_struct Tryz.underlying97 h
  rw [show Tryz.prog.cellsOf 97 = 7 by kernel_rfl] at hl
  match cs, hl with
  | [c0, c1, c2, c3, c4, c5, c6], _ =>
    have g0 : DataW.trod enc Tryz.prog w 0 (fun _ => true) true n 9 ([c0, c1, c2, c3, c4, c5, c6].drop 0 |>.take (Tryz.prog.cellsOf 9)) = xs[0]? := hf 0 _ rfl
    have g1 : DataW.trod enc Tryz.prog w 0 (fun _ => true) true n 5 ([c0, c1, c2, c3, c4, c5, c6].drop 1 |>.take (Tryz.prog.cellsOf 5)) = xs[1]? := hf 1 _ rfl
    have g2 : DataW.trod enc Tryz.prog w 0 (fun _ => true) true n 92 ([c0, c1, c2, c3, c4, c5, c6].drop 2 |>.take (Tryz.prog.cellsOf 92)) = xs[2]? := hf 2 _ rfl
    have g3 : DataW.trod enc Tryz.prog w 0 (fun _ => true) true n 95 ([c0, c1, c2, c3, c4, c5, c6].drop 3 |>.take (Tryz.prog.cellsOf 95)) = xs[3]? := hf 3 _ rfl
    have g4 : DataW.trod enc Tryz.prog w 0 (fun _ => true) true n 3 ([c0, c1, c2, c3, c4, c5, c6].drop 6 |>.take (Tryz.prog.cellsOf 3)) = xs[4]? := hf 4 _ rfl
    rw [show Tryz.prog.cellsOf 9 = 1 by kernel_rfl] at g0
    rw [show Tryz.prog.cellsOf 5 = 1 by kernel_rfl] at g1
    rw [show Tryz.prog.cellsOf 92 = 1 by kernel_rfl] at g2
    rw [show Tryz.prog.cellsOf 95 = 3 by kernel_rfl] at g3
    rw [show Tryz.prog.cellsOf 3 = 1 by kernel_rfl] at g4
    simp only [List.drop_succ_cons, List.drop_zero, List.take_succ_cons, List.take_zero] at g0 g1 g2 g3 g4
    match xs, hxl with
    | [x0, x1, x2, x3, x4], _ =>
      obtain ⟨s, hs, _, hsz⟩ := DataW.trod_string Tryz.underlying9 g0
      obtain ⟨z1, hz1, _, hw1⟩ := DataW.trod_int Tryz.underlying5 g1
      obtain ⟨z4, hz4, _, hw4⟩ := DataW.trod_int Tryz.underlying3 g4
      injection hs with hs _
      injection hz1 with hz1 _
      injection hz4 with hz4 _
      subst hs hz1 hz4
      obtain ⟨ai, ni, ci, rfl⟩ : ∃ a n cap, c2 = .slice a n cap := by
        rcases DataW.trod_slice Tryz.underlying92 g2 with ⟨h, _⟩ | ⟨a, len, cap, _, _, _, _, h, _⟩
        · injection h with h _; exact ⟨_, _, _, h⟩
        · injection h with h _; exact ⟨_, _, _, h⟩
      obtain ⟨l, rfl, hr, h64⟩ := open_nums Tryz.underlying92 Tryz.underlying3 (by kernel_rfl) g2
      obtain ⟨ex, hex⟩ := open_expr n _ _ g3
      obtain ⟨p, cap, he, _⟩ := hex.parts
      have he' : [c3, c4, c5].toArray = #[.int .u8 ex.op, .int .i64 ex.n, .slice p ex.args.length cap] := he
      injection he' with he'
      injection he' with e3 he'
      injection he' with e4 he'
      injection he' with e5 he'
      subst e3 e4 e5
      exact ⟨⟨s, z1, l, ex, z4⟩, _, _, p, cap, rfl, hex, hr, h64, (u8_of_wf hw1).1, (u8_of_wf hw1).2, .of_wf hw4, hsz⟩
set_option maxRecDepth 100000 in
/-- A JOB THAT CAME IN. -/
theorem open_job {fuel : Nat} {cs : List Value} {x : DataW H × List MemPlace} (h : DataW.trod enc Tryz.prog w 0 (fun _ => true) true fuel 24 cs = some x) : ∃ j : Jb, JbAt w cs.toArray j := by
  obtain ⟨xs, n, rfl, _, hl, hxl, hf⟩ := DataW.trod_struct Tryz.underlying24 h
  rw [show Tryz.prog.cellsOf 24 = 2 by kernel_rfl] at hl
  match cs, hl with
  | [c0, c1], _ =>
    have g0 : DataW.trod enc Tryz.prog w 0 (fun _ => true) true n 3 ([c0, c1].drop 0 |>.take (Tryz.prog.cellsOf 3)) = xs[0]? := hf 0 _ rfl
    have g1 : DataW.trod enc Tryz.prog w 0 (fun _ => true) true n 22 ([c0, c1].drop 1 |>.take (Tryz.prog.cellsOf 22)) = xs[1]? := hf 1 _ rfl
    rw [show Tryz.prog.cellsOf 3 = 1 by kernel_rfl] at g0
    rw [show Tryz.prog.cellsOf 22 = 1 by kernel_rfl] at g1
    simp only [List.drop_succ_cons, List.drop_zero, List.take_succ_cons, List.take_zero] at g0 g1
    match xs, hxl with
    | [x0, x1], _ =>
      obtain ⟨z0, hz0, _, hw0⟩ := DataW.trod_int Tryz.underlying3 g0
      injection hz0 with hz0 _
      subst hz0
      obtain ⟨a, ln, cap, rfl⟩ : ∃ a n cap, c1 = .slice a n cap := by
        rcases DataW.trod_slice Tryz.underlying22 g1 with ⟨h, _⟩ | ⟨a, len, cap, _, _, _, _, h, _⟩
        · injection h with h _; exact ⟨_, _, _, h⟩
        · injection h with h _; exact ⟨_, _, _, h⟩
      obtain ⟨ks, hl, hr, hel⟩ := open_reads (k := 7) Tryz.underlying22 (by kernel_rfl) (by omega) g1
      have each : ∀ i, i < ln → ∃ d : JN, JNAt w ((ks.drop (i * 7)).take 7).toArray d := fun i hi => by
        obtain ⟨m, y, hy⟩ := hel i hi
        exact open_jnode hy
      obtain ⟨O, hO⟩ := choose_lt each
      refine ⟨⟨z0, (List.range ln).map O⟩, _, rfl, ⟨ks, hr, by simpa using hl, fun i d hd => ?_⟩, .of_wf hw0⟩
      rw [List.getElem?_map] at hd
      obtain ⟨i', hi', rfl⟩ := Option.map_eq_some_iff.1 hd
      obtain ⟨hlt, rfl⟩ := List.getElem?_eq_some_iff.1 hi'
      simp only [List.length_range] at hlt
      simpa using hO i hlt
/-- A NUMBER THAT CAME IN. -/
theorem open_int3 {fuel : Nat} {v : Value} {x : DataW H × List MemPlace} (h : DataW.trod enc Tryz.prog w 0 (fun _ => true) true fuel 3 [v] = some x) : ∃ z : Int, v = .int .i64 z ∧ R64 z := by
  obtain ⟨z, hz, _, hw⟩ := DataW.trod_int Tryz.underlying3 h
  injection hz with hz _
  exact ⟨z, hz, .of_wf hw⟩
end
set_option maxRecDepth 100000 in
/-- THE ROW's STEP beside listed variables: the walk has the reach and the world's shape. -/
theorem lifted_laid {F : Nat} {fn : Func} {s : ChangeSpec} {laid : List (String × DataW Unit)} (hf : Tryz.prog.funcs[F]? = some fn) (hv : s.vars = []) (hvt : s.plain.varTypes Tryz.prog = []) (hr : fn.resultTypes = #[4]) (hp : readB fn.params.toList = true) (hi : Tryz.prog.inits.idxOf? F = none)
    (hs : ∀ (H : Type) (ds : List (DataW H)), ds.length = fn.params.toList.length → s.fn H ds = { results := [.lit (.bool true)], args := ds })
    (walk : ∀ (H : Type) (enc : TypeId × Value → H) (W : World) (base : Nat) (args : Array Value) (ds : List (DataW H)) (p : List MemPlace),
      DataW.TrodAll enc Tryz.prog W 0 (fun _ => true) true fn.params.toList args.toList ds p → (∀ (j : Nat) t v, fn.params[j]? = some t → args[j]? = some v → Value.okWide Tryz.prog W .any base t v) →
      W.noneFrozen p → (DataW.weightsEach Tryz.prog fn.params.toList ds).all (· ≤ reachBytes) = true → W.ShapedOpen Tryz.prog → Calls Tryz.prog F args W (Gives W (.bool true)))
    (os : Os) (started : os.Started) (H : Type) (enc : TypeId × Value → H)
    (witness : ∃ (w : World) (tape : Tape) (i : Input), w.os = os ∧ (w.forCall tape i).Shaped Tryz.prog ∧ i.vars = [] ∧ Input.okWide Tryz.prog (w.forCall tape i) .any w.heap.size F i ∧
      (OpenSpec.ofChange s).preRow enc Tryz.prog fn [] false laid (w.forCall tape i).memory i.args ∧ ({} : Assume).holds Tryz.prog (lone (Frame.enter Tryz.prog F i.args .normal) [] (w.forCall tape i))) :
    ReturnsInHanded {} Tryz.checked os F .any ((OpenSpec.ofChange s).preRow enc Tryz.prog fn [] false laid) (s.post enc Tryz.prog fn false true false false) := by
  refine returnsInHanded_of_row (C := Tryz.checked) (s := OpenSpec.ofChange s) (F := fun _ _ _ => 0) own started hi hf witness ?_
  intro W base args ds gs before hval hW hcnd _ hsz _ hsh _
  have hW' := hW
  obtain ⟨p, q, hA, hV, rfl, hfz, hnd⟩ := hW
  have hv' : (OpenSpec.ofChange s).vars = [] := hv
  rw [hv'] at hV
  obtain ⟨rfl, rfl⟩ := trodVars_none hV
  have hA' : DataW.TrodAll enc Tryz.prog W 0 (fun _ => true) true fn.params.toList args.toList ds p := hA
  have hsz' : (DataW.weightsEach Tryz.prog fn.params.toList ds).all (· ≤ reachBytes) = true := by
    have h1 : (DataW.weightsEach Tryz.prog (fn.params.toList ++ s.plain.varTypes Tryz.prog) (ds ++ [])).all (· ≤ reachBytes) = true := hsz
    rw [hvt, List.append_nil, List.append_nil] at h1
    exact h1
  refine (walk H enc W base args ds p hA' hval (fun b o h => hfz b o (List.mem_append_left _ h)) hsz' hsh).mono fun e W' ⟨he, k⟩ => ?_
  subst he
  have bel := k.below
  obtain ⟨ps', hagain⟩ := again_all bel fn.params.toList hp hA'
  have hlen : ds.length = fn.params.toList.length := (trodAll_length hA').2
  have hfn := hs H (ds ++ []) (by rw [List.append_nil]; exact hlen)
  refine ⟨_, rfl, ds, [], _, [], ps', [], hW', ?_, ?_, ?_, bel.frame _, fun h => by cases h⟩
  · rw [hr]; show DataW.TrodAll _ _ _ _ _ _ _ _ (s.fn H (ds ++ [])).results _; rw [hfn]; exact trodAll_mk1 (shut_bool Tryz.underlying4 _)
  · show DataW.TrodAll _ _ _ _ _ _ _ _ (s.fn H (ds ++ [])).args _; rw [hfn, List.append_nil]; exact hagain
  · have e1 : ((OpenSpec.ofChange s).at fun _ _ _ => 0).vars = [] := hv
    have e2 : (((OpenSpec.ofChange s).at fun _ _ _ => 0).fn H (ds ++ [])) = { results := [.lit (.bool true)], args := ds ++ [] } := hfn
    rw [e2, e1]; rfl
/-- bytealg.MaxLen holds some number. -/
theorem maxLen_at (w : World) (h : w.ShapedOpen Tryz.prog) : ∃ m, w.cell? ⟨0, 0, none⟩ = some (.int .i64 m) :=
  cell_of_shapedOpen_int (t := 3) (zero := #[.int .i64 0]) h (of_decide_eq_true (by kernel_rfl)) (by kernel_rfl) rfl (by kernel_rfl) (by kernel_rfl) Tryz.underlying3
end Go.Proofs.YtopeleenlcnkkaaGreatDoor
/-
  How great an expression is (Size); whether a node, calls and rows of records are more than are gone through (heavy).
-/
namespace Go.Proofs.YtopeleenlcnkkaaGreatDoor
open Go Go.RowKit
attribute [local irreducible] wpL
def SizeQ (w : World) (e : Ending) (w' : World) : Prop := ∃ n : Int, e = .returned (.int .i64 n) ∧ 1 ≤ n ∧ n ≤ 2000 ∧ Kept none' w w'
set_option maxRecDepth 100000 in
set_option maxHeartbeats 1000000 in
theorem size_any : ∀ (N : Nat) (x : Ex) (a : Array Value) (w : World), SizeOf.sizeOf x ≤ N → ExAt w a x → Calls Tryz.prog 70 #[.agg a] w (SizeQ w)
  | 0, x, _, _, h, _ => by cases x; simp at h
  | N + 1, x, a, w, hN, h => by
    obtain ⟨p, cap, rfl, h0, h1, h2, h3, h4, h5⟩ := h.parts
    have sub : ∀ (i : Nat) (y : Ex), x.args[i]? = some y → SizeOf.sizeOf y ≤ N := by
      intro i y hy
      obtain ⟨op, n, args⟩ := x
      have h1 := List.sizeOf_lt_of_mem (List.mem_of_getElem? (show args[i]? = some y from hy))
      simp at hN
      omega
    have IH := Lib.hid (fun y a w hy => size_any N y a w hy)
    have SB := Lib.hid sub
    have H5 := Lib.hid h5
    unfold maxLen at h4
    clear h h5 sub hN
    go_enter Tryz.func70, Tryz.ntmps70
    go_wp2_with fail
    obtain ⟨W0, hW0⟩ : ∃ W0, w.alloc (.cells #[.int .u8 x.op, .int .i64 x.n, .slice p x.args.length cap] 95) = W0 := ⟨_, rfl⟩
    have k0 : Kept none' w W0 := by rw [← hW0]; exact (Kept.refl _ _).alloc _
    rw [hW0]
    have K0 := Lib.hid k0
    clear hW0 k0
    go_loopg [3, 9] x.args.length (fun g vn vi wr => ∃ (k : Nat) (n : Int), k ≤ x.args.length ∧ vi = .int .i64 (k : Int) ∧ vn = .int .i64 n ∧ x.args.length - k ≤ g ∧ 1 ≤ n ∧ n ≤ 4000 ∧ Kept none' w wr)
    case atStart => exact ⟨0, 1, by omega, rfl, rfl, by omega, by omega, by omega, K0.out⟩
    case round =>
      obtain ⟨k, n, hkl, rfl, rfl, hg, hn1, hn2, hkp⟩ := hrel
      by_cases hlt : k < x.args.length
      · obtain ⟨y, hy⟩ : ∃ y, x.args[k]? = some y := ⟨_, List.getElem?_eq_getElem hlt⟩
        obtain ⟨b, off, p', cap', rfl, q0, q1, q2, hy2⟩ := H5.out k y hy
        have r0 := hkp.cell (p := ⟨b, off + k * 3, none⟩) (fun h => h) q0
        have r1 := hkp.cell (p := ⟨b, off + k * 3 + 1, none⟩) (fun h => h) q1
        have r2 := hkp.cell (p := ⟨b, off + k * 3 + 2, none⟩) (fun h => h) q2
        have G := Lib.hid (And.intro hg (And.intro (ExAt.pure hkp hy2) (And.intro hkp (SB.out k y hy))))
        clear q0 q1 q2 hy hy2 hkp hg H5
        by_cases hb : n < 2000
        · go_wp2_with fail
          have ka : Kept none' wr (wr.alloc (.cells #[.int .u8 y.op, .int .i64 y.n, .slice p' y.args.length cap'] 95)) := (Kept.refl _ _).alloc _
          have c := IH.out y _ (wr.alloc (.cells #[.int .u8 y.op, .int .i64 y.n, .slice p' y.args.length cap'] 95)) G.out.2.2.2 (ExAt.pure ka G.out.2.1)
          (with_reducible refine c.mono ?_)
          clear c
          rintro e w2 ⟨m, rfl, hm1, hm2, k2⟩
          have K2 := Lib.hid (G.out.2.2.1.trans (ka.trans k2))
          clear k2 ka
          go_wp2_with fail
          go_roundg (x.args.length - (k + 1))
          case rel => exact ⟨k + 1, n + m, by omega, by go_num, rfl, Nat.le_refl _, by omega, by omega, K2.out⟩
          case measure => have := G.out.1; omega
        · go_wp2_with fail
          go_roundg (x.args.length - (k + 1))
          case rel => exact ⟨k + 1, n, by omega, by go_num, rfl, Nat.le_refl _, by omega, by omega, G.out.2.2.1.alloc _⟩
          case measure => have := G.out.1; omega
      · have HK := Lib.hid hkp
        clear hkp
        by_cases hb : n ≤ 2000
        · have e : min n 2000 = n := by omega
          go_wp2_with fail
          go_ret
          exact ⟨n, rfl, by omega, by omega, HK.out⟩
        · have e : min n 2000 = 2000 := by omega
          go_wp2_with fail
          go_ret
          exact ⟨2000, rfl, by omega, by omega, HK.out⟩
end Go.Proofs.YtopeleenlcnkkaaGreatDoor
/-
  names: letters, names, of any text.
-/
namespace Go.Proofs.YtopeleenlcnkkaaGreatDoor
open Go Go.RowKit
theorem rbool' {a b : Bool} (h : a = b) : Ending.returned (.bool a) = .returned (.bool b) := by rw [h]
theorem letterB_iff (r : Nat) : letterB r = true ↔ (97 ≤ (r : Int) ∧ (r : Int) ≤ 122) ∨ (65 ≤ (r : Int) ∧ (r : Int) ≤ 90) ∨ (191 < (r : Int) ∧ (r : Int) ≠ 65533) := by
  unfold letterB
  simp only [Bool.or_eq_true, Bool.and_eq_true, decide_eq_true_eq, bne_iff_ne, ne_eq]
  omega
theorem laterB_iff (r : Nat) : laterB r = true ↔ letterB r = true ∨ (48 ≤ (r : Int) ∧ (r : Int) ≤ 57) ∨ (r : Int) = 45 := by
  unfold laterB
  simp only [Bool.or_eq_true, Bool.and_eq_true, decide_eq_true_eq, beq_iff_eq]
  have e : r = 45 ↔ (r : Int) = 45 := by omega
  have e1 : 48 ≤ r ∧ r ≤ 57 ↔ 48 ≤ (r : Int) ∧ (r : Int) ≤ 57 := by omega
  rw [or_assoc, e, e1]
theorem name_end {s : ByteArray} (hd : ∀ q ∈ runes s, laterB q.2 = true) (hh : ∀ q, (runes s).head? = some q → letterB q.2 = true) :
    nameOk s = (decide (0 < ((runes s).length : Int)) && decide (((runes s).length : Int) ≤ 24)) := by
  unfold nameOk
  cases e : runes s with
  | nil => rfl
  | cons p l =>
    rw [e] at hd hh
    show (letterB p.2 && (p :: l).all (fun q => laterB q.2) && decide ((p :: l).length ≤ 24)) = _
    rw [hh p rfl, List.all_eq_true.2 hd, Bool.true_and, Bool.true_and, decide_eq_true (show 0 < ((p :: l).length : Int) by simp), Bool.true_and]
    exact decide_eq_decide.2 (by omega)
theorem name_no {s : ByteArray} {done left : List (Nat × Nat)} {p : Nat × Nat} (h : runes s = done ++ p :: left) (hp : (done = [] ∧ letterB p.2 = false) ∨ laterB p.2 = false) : nameOk s = false := by
  unfold nameOk
  rw [h]
  rcases hp with ⟨rfl, hp⟩ | hp
  · rw [List.nil_append, nameL, hp]; rfl
  · have : ∀ l : List (Nat × Nat), p ∈ l → nameL l = false := by
      intro l hl
      cases l with
      | nil => rfl
      | cons q l =>
        have : (q :: l).all (fun q => laterB q.2) = false := List.all_eq_false.2 ⟨p, hl, by simp [hp]⟩
        rw [nameL, this]; simp
    exact this _ (by simp)
set_option maxRecDepth 100000 in
theorem letter_any (r : Nat) (w : World) : Calls Tryz.prog 124 #[.int .i32 (r : Int)] w fun e w' => e = .returned (.bool (letterB r)) ∧ w = w' := by
  go_enter Tryz.func124, Tryz.ntmps124
  go_wp2
  all_goals
    go_ret
    refine ⟨rbool' ?_, rfl⟩
    rw [Bool.eq_iff_iff, letterB_iff]
    simp only [Bool.or_eq_true, decide_eq_true_eq, bne_iff_ne, ne_eq, Bool.false_eq_true, true_iff, false_iff]
    omega
set_option maxRecDepth 100000 in
theorem later_any (r : Nat) (w : World) : Calls Tryz.prog 125 #[.int .i32 (r : Int)] w fun e w' => e = .returned (.bool (laterB r)) ∧ w = w' := by
  have hr := laterB_iff r
  go_enter Tryz.func125, Tryz.ntmps125
  go_wp2_with (go_at_call 124; refine (letter_any _ _).mono ?_; rintro e w' ⟨rfl, rfl⟩)
  all_goals
    go_ret
    refine ⟨rbool' ?_, rfl⟩
    rw [Bool.eq_iff_iff, hr]
    simp only [Bool.or_eq_true, decide_eq_true_eq, beq_iff_eq, Bool.false_eq_true, true_or, false_or, true_and, *]
    try omega
set_option maxRecDepth 100000 in
set_option maxHeartbeats 1000000 in
theorem name_any (s : ByteArray) (hs : s.size ≤ maxLen) (w : World) : Calls Tryz.prog 101 #[.string s] w fun e w' => e = .returned (.bool (nameOk s)) ∧ Kept none' w w' := by
  obtain ⟨w0, hrun, hit, hk0, hs0⟩ := run_range_str (P := Tryz.prog) w 9 s Tryz.underlying9
  have hlen := runes_length s
  have H := Lib.hid (And.intro hit (And.intro hk0 hs0))
  clear hit hk0 hs0
  unfold maxLen at hs
  go_enter Tryz.func101, Tryz.ntmps101
  go_wp2
  go_loopg [3] (runes s).length (fun k i wr => ∃ left done, RunAt wr w.heap.size s left ∧ runes s = done ++ left ∧ left.length = k ∧ i = .int .i64 ((done.length : Nat) : Int) ∧ (∀ q ∈ done, laterB q.2 = true) ∧ (∀ q, done.head? = some q → letterB q.2 = true) ∧ Kept none' w wr)
  case atStart => exact ⟨runes s, [], H.out.1, rfl, rfl, rfl, by simp, by simp, H.out.2.1⟩
  case round =>
    obtain ⟨left, done, hit, hall, hk, rfl, hd, hh, hk1⟩ := hrel
    have A := Lib.hid (And.intro hall (And.intro hd (And.intro hh (And.intro hk hk1))))
    clear hall hd hh hk hk1
    rcases hit.next (P := Tryz.prog) 0 with ⟨rfl, hrun⟩ | ⟨p, left', w2, hp, hrun, hit2, hk2, hs2⟩
    · clear hit
      obtain ⟨h1, h2, h3, h4, h5⟩ := A.out
      rw [List.append_nil] at h1
      subst h1
      have F := Lib.hid (name_end h2 h3)
      clear h2 h3 A
      go_wp2
      all_goals
        go_ret
        refine ⟨rbool' ?_, h5⟩
        rw [F.out, Bool.eq_iff_iff]
        simp only [Bool.and_eq_true, decide_eq_true_eq, Bool.false_eq_true, false_iff, iff_and_self, *]
        try omega
    · clear hit
      have hk3 : Kept none' w w2 := A.out.2.2.2.2.new hk2 (fun i hi e => by unfold one at e; omega)
      have hl : runes s = done ++ p :: left' := by rw [A.out.1, hp]
      have hstep : laterB p.2 = true → (done = [] → letterB p.2 = true) → (∀ q ∈ done ++ [p], laterB q.2 = true) ∧ (∀ q, (done ++ [p]).head? = some q → letterB q.2 = true) := fun g1 g2 => by
        refine ⟨fun q hq => ?_, fun q hq => ?_⟩
        · rcases List.mem_append.1 hq with hq | hq
          · exact A.out.2.1 q hq
          · rw [List.mem_singleton.1 hq]; exact g1
        · cases done with
          | nil => simp at hq; subst hq; exact g2 rfl
          | cons x d => exact A.out.2.2.1 q (by simpa using hq)
      have hm : left'.length < gk := by have := A.out.2.2.2.1; rw [hp] at this; simp at this; omega
      have G := Lib.hid (And.intro hit2 (And.intro hk3 (And.intro hl (And.intro hstep hm))))
      clear hit2 hk3 hl hstep hm hp hk2 hs2 A H hlen
      go_wp2_with (first | (go_at_call 124; refine (letter_any _ _).mono ?_; rintro e w' ⟨rfl, rfl⟩) | (go_at_call 125; refine (later_any _ _).mono ?_; rintro e w' ⟨rfl, rfl⟩))
      · rename_i h1 h2 h3
        go_ret
        exact ⟨rbool' (name_no G.out.2.2.1 (.inr (by simpa using h3))).symm, G.out.2.1⟩
      · rename_i h1 h2 h3
        go_roundg left'.length
        case rel =>
          obtain ⟨g1, g2⟩ := G.out.2.2.2.1 (by simpa using h3) (fun _ => h2)
          exact ⟨left', done ++ [p], G.out.1, by rw [G.out.2.2.1]; simp, rfl, by subst h1; rfl, g1, g2, G.out.2.1⟩
        case measure => exact G.out.2.2.2.2
      · rename_i h1 h2
        go_ret
        exact ⟨rbool' (name_no G.out.2.2.1 (.inl ⟨h1, by simpa using h2⟩)).symm, G.out.2.1⟩
      · rename_i h1 h3
        go_ret
        exact ⟨rbool' (name_no G.out.2.2.1 (.inr (by simpa using h3))).symm, G.out.2.1⟩
      · rename_i h1 h3
        have hlt : done.length < 9223372036854775807 := by
          have := runes_length s
          rw [G.out.2.2.1] at this
          simp at this
          omega
        go_roundg left'.length
        case rel =>
          obtain ⟨g1, g2⟩ := G.out.2.2.2.1 (by simpa using h3) (fun h => absurd h h1)
          exact ⟨left', done ++ [p], G.out.1, by rw [G.out.2.2.1]; simp, rfl, by rw [show wrap64 ((done.length : Int) + 1) = ((done.length + 1 : Nat) : Int) by unfold wrap64; omega, List.length_append]; rfl, g1, g2, G.out.2.1⟩
        case measure => exact G.out.2.2.2.2
end Go.Proofs.YtopeleenlcnkkaaGreatDoor
