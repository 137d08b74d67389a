/-
  Expressions, nodes, rows of records that came in.
-/
import Derived.Test.YtaalpijohdlabaaRow2
import Derived.Test.YtaalpijohdlabaaGts
namespace Go.Proofs.Ytaalpijohdlabaa
open Go Go.RowKit Go.ChangeShapes Go.WideShapes Go.ChangeAt Go.Deep
theorem u8_of_wf {n : Int} (h : (Lit.int .u8 n).wf = true) : 0 ≤ n ∧ n ≤ 255 := by
  simp [Lit.wf, IntKind.min, IntKind.max, IntKind.signed, IntKind.bits] at h
  omega
section
variable {H : Type} {enc : TypeId × Value → H} {P : Program} {w : World}
/-- A slice that came in, with its data. -/
theorem open_readsF {t e : TypeId} {k fuel n cap : Nat} {a : Option Addr} {x : DataW H × List MemPlace} (ht : P.underlying t = some (.slice e)) (hk : P.cellsOf e = k) (hk0 : 0 < k)
    (h : DataW.trod enc P w 0 (fun _ => true) true fuel t [.slice a n cap] = some x) :
    ∃ (f : Nat) (cs : List Value) (ds : List (DataW H)), fuel = f + 1 ∧ cs.length = n * k ∧ Reads w k (.slice a n cap) cs ∧ ds.length = n ∧ ((∃ rest, x.1 = .slice ds rest) ∨ n = 0) ∧
      ∀ i, i < n → ∃ d p, ds[i]? = some d ∧ DataW.trod enc P w 0 (fun _ => true) true f e ((cs.drop (i * k)).take k) = some (d, p) := by
  obtain ⟨cs, hl, hr, _⟩ := open_reads ht hk hk0 h
  rcases DataW.trod_slice ht h with ⟨h0, hx⟩ | ⟨a', len, cap', elems, rest, f, rfl, h0, rfl, hb, hle, hm, hel, hbind, _, _⟩
  · injection h0 with h0 _
    injection h0 with h1 h2 h3
    subst h1 h2 h3
    cases fuel with
    | zero => simp [DataW.trod] at h
    | succ f => exact ⟨f, cs, [], rfl, hl, hr, rfl, .inr rfl, fun i hi => by omega⟩
  · injection h0 with h0 _
    injection h0 with h1 h2 h3
    subst h1 h2 h3
    refine ⟨f, cs, elems.map (·.1), rfl, hl, hr, by simpa using hel, .inl ⟨_, rfl⟩, fun i hi => ?_⟩
    have h1 := hbind i hi
    rw [hk] at h1
    obtain ⟨y, hy⟩ : ∃ y, elems[i]? = some y := ⟨_, List.getElem?_eq_getElem (by omega)⟩
    rw [hy] at h1
    obtain ⟨ci, hci, hti⟩ := Option.bind_eq_some_iff.1 h1
    obtain ⟨_, hlen, hcell⟩ := World.cells?_some hci
    refine ⟨y.1, y.2, by rw [List.getElem?_map, hy]; rfl, ?_⟩
    have e1 : (cs.drop (i * k)).take k = ci := by
      obtain ⟨a2, n2, cap2, e, _, _, _, hcl⟩ := hr
      cases e
      have hin : i * k + k ≤ n * k := by rw [← Nat.succ_mul]; exact Nat.mul_le_mul_right k hi
      rcases hcl with hcl | ⟨b, off, e, hcl⟩
      · rw [hcl] at hl
        simp at hl
        omega
      · cases e
        apply List.ext_getElem?
        intro j
        by_cases hj : j < k
        · rw [List.getElem?_take, if_pos hj, List.getElem?_drop]
          have h3 := hcell j hj
          rw [add_add, Addr.add_lit] at h3
          have h4 := hcl (i * k + j) (cs[i * k + j]'(by omega)) (by rw [List.getElem?_eq_getElem])
          rw [h4] at h3
          rw [List.getElem?_eq_getElem (by omega)]
          exact h3
        · rw [List.getElem?_take, if_neg hj, List.getElem?_eq_none (by omega)]
    rw [e1]; exact hti
end
section
variable {H : Type} {enc : TypeId × Value → H} {w : World}
set_option maxRecDepth 100000 in
/-- AN EXPRESSION THAT CAME IN. -/
theorem open_expr (fuel : Nat) : ∀ (cs : List Value) (x : DataW H × List MemPlace), DataW.trod enc Try.prog w 0 (fun _ => true) true fuel 52 cs = some x → ∃ ex : Ex, ExAt w cs.toArray ex := by
  induction fuel using Nat.strongRecOn with
  | ind fuel ih =>
    intro cs x h
    obtain ⟨xs, n, rfl, _, hl, hxl, hf⟩ := DataW.trod_struct Try.underlying52 h
    rw [show Try.prog.cellsOf 52 = 3 by kernel_rfl] at hl
    match cs, hl with
    | [c0, c1, c2], _ =>
      have g0 : DataW.trod enc Try.prog w 0 (fun _ => true) true n 5 ([c0, c1, c2].drop 0 |>.take (Try.prog.cellsOf 5)) = xs[0]? := hf 0 _ rfl
      have g1 : DataW.trod enc Try.prog w 0 (fun _ => true) true n 2 ([c0, c1, c2].drop 1 |>.take (Try.prog.cellsOf 2)) = xs[1]? := hf 1 _ rfl
      have g2 : DataW.trod enc Try.prog w 0 (fun _ => true) true n 50 ([c0, c1, c2].drop 2 |>.take (Try.prog.cellsOf 50)) = xs[2]? := hf 2 _ rfl
      rw [show Try.prog.cellsOf 5 = 1 by kernel_rfl] at g0
      rw [show Try.prog.cellsOf 2 = 1 by kernel_rfl] at g1
      rw [show Try.prog.cellsOf 50 = 1 by kernel_rfl] at g2
      simp only [List.drop_succ_cons, List.drop_zero, List.take_succ_cons, List.take_zero] at g0 g1 g2
      match xs, hxl with
      | [x0, x1, x2], _ =>
        obtain ⟨z0, hz0, _, hw0⟩ := DataW.trod_int Try.underlying5 g0
        obtain ⟨z1, hz1, _, hw1⟩ := DataW.trod_int Try.underlying2 g1
        injection hz0 with hz0 _
        injection hz1 with hz1 _
        subst hz0 hz1
        obtain ⟨sa, sn, sc, hs⟩ : ∃ sa sn sc, c2 = .slice sa sn sc := by
          rcases DataW.trod_slice Try.underlying50 g2 with ⟨e, _⟩ | ⟨_, _, _, _, _, _, _, e, _⟩
          · injection e with e _; exact ⟨_, _, _, e⟩
          · injection e with e _; exact ⟨_, _, _, e⟩
        subst hs
        obtain ⟨f, es, ds, rfl, hel, hre, _, _, heach⟩ := open_readsF (k := 3) Try.underlying50 (by kernel_rfl) (by omega) g2
        have each : ∀ i, i < sn → ∃ ex : Ex, ExAt w ((es.drop (i * 3)).take 3).toArray ex := by
          intro i hi
          obtain ⟨d, p, _, hd⟩ := heach i hi
          exact ih f (by omega) _ _ hd
        obtain ⟨X, hX⟩ := choose_lt each
        refine ⟨.mk z0 z1 ((List.range sn).map X), .mk (u8_of_wf hw0).1 (u8_of_wf hw0).2 (.of_wf hw1) hre (by simpa using hel) (fun i y hy => ?_)⟩
        rw [List.getElem?_map] at hy
        obtain ⟨i', hi', rfl⟩ := Option.map_eq_some_iff.1 hy
        obtain ⟨hlt, rfl⟩ := List.getElem?_eq_some_iff.1 hi'
        simp only [List.length_range] at hlt
        simpa using hX i hlt
set_option maxRecDepth 100000 in
/-- A NODE THAT CAME IN. -/
theorem open_node {fuel : Nat} {cs : List Value} {x : DataW H × List MemPlace} (h : DataW.trod enc Try.prog w 0 (fun _ => true) true fuel 54 cs = some x) : ∃ nd : Nod, NodAt w cs.toArray nd := by
  obtain ⟨xs, n, rfl, _, hl, hxl, hf⟩ := DataW.trod_struct Try.underlying54 h
  rw [show Try.prog.cellsOf 54 = 7 by kernel_rfl] at hl
  match cs, hl with
  | [c0, c1, c2, c3, c4, c5, c6], _ =>
    have g0 : DataW.trod enc Try.prog w 0 (fun _ => true) true n 9 ([c0, c1, c2, c3, c4, c5, c6].drop 0 |>.take (Try.prog.cellsOf 9)) = xs[0]? := hf 0 _ rfl
    have g1 : DataW.trod enc Try.prog w 0 (fun _ => true) true n 5 ([c0, c1, c2, c3, c4, c5, c6].drop 1 |>.take (Try.prog.cellsOf 5)) = xs[1]? := hf 1 _ rfl
    have g3 : DataW.trod enc Try.prog w 0 (fun _ => true) true n 52 ([c0, c1, c2, c3, c4, c5, c6].drop 3 |>.take (Try.prog.cellsOf 52)) = xs[3]? := hf 3 _ rfl
    have g4 : DataW.trod enc Try.prog w 0 (fun _ => true) true n 3 ([c0, c1, c2, c3, c4, c5, c6].drop 6 |>.take (Try.prog.cellsOf 3)) = xs[4]? := hf 4 _ rfl
    rw [show Try.prog.cellsOf 9 = 1 by kernel_rfl] at g0
    rw [show Try.prog.cellsOf 5 = 1 by kernel_rfl] at g1
    rw [show Try.prog.cellsOf 52 = 3 by kernel_rfl] at g3
    rw [show Try.prog.cellsOf 3 = 1 by kernel_rfl] at g4
    simp only [List.drop_succ_cons, List.drop_zero, List.take_succ_cons, List.take_zero] at g0 g1 g3 g4
    match xs, hxl with
    | [x0, x1, x2, x3, x4], _ =>
      obtain ⟨s, hs, _, _⟩ := DataW.trod_string Try.underlying9 g0
      obtain ⟨z1, hz1, _, hw1⟩ := DataW.trod_int Try.underlying5 g1
      obtain ⟨z4, hz4, _, hw4⟩ := DataW.trod_int Try.underlying3 g4
      injection hs with hs _
      injection hz1 with hz1 _
      injection hz4 with hz4 _
      subst hs hz1 hz4
      obtain ⟨ex, hex⟩ := open_expr n _ _ g3
      obtain ⟨p, cap, he, _⟩ := hex.parts
      have he' : [c3, c4, c5].toArray = #[.int .u8 ex.op, .int .i64 ex.n, .slice p ex.args.length cap] := he
      injection he' with he'
      injection he' with e3 he'
      injection he' with e4 he'
      injection he' with e5 he'
      subst e3 e4 e5
      exact ⟨⟨z1, ex, z4⟩, s, c2, p, cap, rfl, hex, (u8_of_wf hw1).1, (u8_of_wf hw1).2, .of_wf hw4⟩
end
end Go.Proofs.Ytaalpijohdlabaa
