/-
  slices.Equal, slices.Index, slices.Contains over records.
-/
import Derived.Test.YtopeleenlcnkkaaGreatDoorM10
import Derived.Test.YtopeleenlcnkkaaGreatDoorM08
import Derived.Test.YtopeleenlcnkkaaGreatDoorM13
import Derived.Laws.EntriesVeiled
import Derived.Test.YtopeleenlcnkkaaGreatDoorM02
import Derived.Test.YtopeleenlcnkkaaGreatDoorM05
set_option linter.unusedVariables false
set_option linter.unusedSimpArgs false
namespace Go.Proofs.YtopeleenlcnkkaaGreatDoor
open Go Go.RowKit
attribute [local irreducible] wpL wpH
end Go.Proofs.YtopeleenlcnkkaaGreatDoor
/-
  What a node makes of records: Do.
-/
namespace Go.Proofs.YtopeleenlcnkkaaGreatDoor
open Go Go.RowKit Go.Shelf
attribute [local irreducible] wpL
theorem DoSt.fin {w W : World} {Bn Bi Bo Bg base : Nat} {na : Array Value} {nd : Nod} {v : Value} {L out : List Rec} {S : Nat → Prop} (h : DoSt S w W Bn Bi Bo Bg base na nd v L out) :
    ∃ a cap, W.cell? ⟨Bo, 0, none⟩ = some (.slice a out.length cap) ∧ Reads W 3 (.slice a out.length cap) (recs out) ∧ ∀ b, Value.blk (.slice a out.length cap) = some b → w.heap.size ≤ b := by
  obtain ⟨u, h1, h2, h3⟩ := h.out
  obtain ⟨a, cap, rfl⟩ := owns_slice h2
  exact ⟨a, cap, cells_at h1 rfl, Reads.of_owns h2, fun b hb => by have := (owns_blk h2 hb).1; have := h.lo; have := h.hi; omega⟩

end Go.Proofs.YtopeleenlcnkkaaGreatDoor
/-
  What a node makes of records: Do, with a table.
-/
namespace Go.Proofs.YtopeleenlcnkkaaGreatDoor
open Go Go.RowKit Go.Shelf
attribute [local irreducible] wpL
abbrev AnyB : Nat → Prop := fun _ => True
theorem TabAt.any {w : World} {M : Nat → Prop} {b m : Nat} {T : Tab} (h : TabAt w M b m T) : TabAt w AnyB b m T := h.mono (fun _ _ _ => trivial)
end Go.Proofs.YtopeleenlcnkkaaGreatDoor
/-
  'works' of layer 17: a node of two, and what it makes.
-/
namespace Go.Proofs.YtopeleenlcnkkaaGreatDoor
open Go Go.RowKit
attribute [local irreducible] wpL
def ex2 (op a b : Int) : Ex := .mk op 0 [.mk a 0 [], .mk b 0 []]
theorem ExAt.leaf (w : World) (a : Int) (h0 : 0 ≤ a) (h1 : a ≤ 255) : ExAt w #[.int .u8 a, .int .i64 0, .slice none 0 0] (.mk a 0 []) :=
  .mk h0 h1 zero_r64 (Reads.nil w 3) rfl (fun i x h => by cases h)
theorem ExAt.two {w : World} {op a b : Int} {v : Value} (ho : 0 ≤ op ∧ op ≤ 255) (ha : 0 ≤ a ∧ a ≤ 255) (hb : 0 ≤ b ∧ b ≤ 255) (hr : Reads w 3 v [.int .u8 a, .int .i64 0, .slice none 0 0, .int .u8 b, .int .i64 0, .slice none 0 0]) :
    ExAt w #[.int .u8 op, .int .i64 0, v] (ex2 op a b) := by
  refine .mk ho.1 ho.2 zero_r64 hr rfl (fun i x h => ?_)
  match i, h with
  | 0, h => cases h; exact ExAt.leaf w a ha.1 ha.2
  | 1, h => cases h; exact ExAt.leaf w b hb.1 hb.2
end Go.Proofs.YtopeleenlcnkkaaGreatDoor
/-
  OperMerged: its walk.
-/
namespace Go.Proofs.YtopeleenlcnkkaaGreatDoor
open Go Go.RowKit
attribute [local irreducible] wpL
theorem Rows2.two {w : World} {va vb : Value} {A B : List Rec} (ha : Reads w 3 va (recs A)) (hb : Reads w 3 vb (recs B)) : Rows2 (w.alloc (.cells #[va, vb] 42)) (.slice (some ⟨w.heap.size, 0, none⟩) 2 2) [A, B] := by
  refine ⟨[va, vb], rfl, Reads.lit w [va, vb] 42 1 2 rfl (by unfold maxLen; omega), fun i u L h1 h2 => ?_⟩
  match i, h1, h2 with
  | 0, h1, h2 => cases h1; cases h2; exact ha.pure ((Kept.refl none' w).alloc _)
  | 1, h1, h2 => cases h1; cases h2; exact hb.pure ((Kept.refl none' w).alloc _)
theorem Rows2.one {w : World} {va : Value} {A : List Rec} (ha : Reads w 3 va (recs A)) : Rows2 (w.alloc (.cells #[va] 42)) (.slice (some ⟨w.heap.size, 0, none⟩) 1 1) [A] := by
  refine ⟨[va], rfl, Reads.lit w [va] 42 1 1 rfl (by unfold maxLen; omega), fun i u L h1 h2 => ?_⟩
  match i, h1, h2 with
  | 0, h1, h2 => cases h1; cases h2; exact ha.pure ((Kept.refl none' w).alloc _)
end Go.Proofs.YtopeleenlcnkkaaGreatDoor
/-
  Gets: what a node gets of rows of records (oper.Gets).
-/
namespace Go.Proofs.YtopeleenlcnkkaaGreatDoor
open Go Go.RowKit
attribute [local irreducible] wpL
theorem Tryz.info42 : ∃ i z, Tryz.prog.info? 42 = some i ∧ i.zero = some z ∧ i.size = 1 ∧ i.bytes = 24 ∧ z.cells.size = 1 := by
  have h : (Tryz.prog.info? 42).map (fun i => (i.zero, i.size, i.bytes)) = some (some (.slice none 0 0), 1, 24) := by kernel_rfl
  obtain ⟨i, h1, h2, h3, h4⟩ := info_parts h
  exact ⟨i, _, h1, h2, h3, h4, rfl⟩
end Go.Proofs.YtopeleenlcnkkaaGreatDoor
/-
  Gets of a union: its walk.
-/
namespace Go.Proofs.YtopeleenlcnkkaaGreatDoor
open Go Go.RowKit
attribute [local irreducible] wpL
/-- The rows that were widened, and the slice that holds them. -/
structure AllAt (w : World) (base : Nat) (va : Value) (vs : List Value) (LL : List (List Rec)) (k : Nat) : Prop where
  own : w.ownsRow base 42 1 va k vs
  len : vs.length = k
  each : ∀ (i : Nat) (u : Value) (L : List Rec), vs[i]? = some u → LL[i]? = some L → w.ownsRow base 44 3 u L.length (recs (L.map (wideR i)))
theorem own_types {w : World} {base base' e e' size size' n n' : Nat} {v v' : Value} {xs xs' : List Value} (h : w.ownsRow base e size v n xs) (h' : w.ownsRow base' e' size' v' n' xs') (hne : e ≠ e') : ∀ k, v.ownBlock = some k → v'.ownBlock = some k → False := by
  intro k hk hk'
  rcases h.2 with ⟨e1, _⟩ | ⟨g, cap, cur, e1, _, hg, _⟩
  · rw [e1] at hk; cases hk
  · rcases h'.2 with ⟨e2, _⟩ | ⟨g', cap', cur', e2, _, hg', _⟩
    · rw [e2] at hk'; cases hk'
    · rw [e1] at hk; rw [e2] at hk'
      simp [Value.ownBlock] at hk hk'
      subst hk hk'
      rw [hg] at hg'
      injection hg' with hg'
      injection hg' with _ hg' _
      exact hne hg'
theorem AllAt.kept {w w' : World} {base : Nat} {va : Value} {vs : List Value} {LL : List (List Rec)} {k : Nat} {S : Nat → Prop} (h : AllAt w base va vs LL k) (hk : Kept S w w') (hS : ∀ j, S j → w.heap.size ≤ j) : AllAt w' base va vs LL k := by
  have no : ∀ {e size n : Nat} {v : Value} {xs : List Value}, w.ownsRow base e size v n xs → ∀ j, v.ownBlock = some j → ¬ S j := fun ho j hj hs => by
    have := (owns_own ho hj).2; have := hS j hs; omega
  exact ⟨hk.owns h.own (no h.own), h.len, fun i u L h1 h2 => hk.owns (h.each i u L h1 h2) (no (h.each i u L h1 h2))⟩
theorem AllAt.lt {w : World} {base : Nat} {va : Value} {vs : List Value} {LL : List (List Rec)} {k : Nat} (h : AllAt w base va vs LL k) : ∀ j, va.ownBlock = some j → j < w.heap.size := fun _ hj => (owns_own h.own hj).2
/-- One more row. -/
theorem AllAt.push {w : World} {base : Nat} {va u : Value} {vs : List Value} {LL : List (List Rec)} {L : List Rec} {k : Nat} (h : AllAt w base va vs LL k) (hu : w.ownsRow base 44 3 u L.length (recs (L.map (wideR k)))) (hL : LL[k]? = some L) (hb : base ≤ w.heap.size) (hk : k ≤ 1000) :
    ∃ va' w', (Builtin.append_ #[105, 105] 105 #[va, .slice (some ⟨w.heap.size, 0, none⟩) 1 1]).run Tryz.prog (w.alloc (.cells #[u] 42)) = .ok va' w' ∧ AllAt w' base va' (vs ++ [u]) LL (k + 1) ∧ Kept (fun j => base ≤ j) w w' := by
  obtain ⟨i, z, hi, hz, hs, hby, hzs⟩ := Tryz.info42
  have kx : Kept none' w (w.alloc (.cells #[u] 42)) := (Kept.refl _ _).alloc _
  obtain ⟨ua, uc, rfl⟩ := owns_slice hu
  have own' := kx.owns h.own (fun _ _ h => h)
  have hu' := kx.owns hu (fun _ _ h => h)
  have hr := Reads.lit w [.slice ua L.length uc] 42 1 1 rfl (by unfold maxLen; omega)
  obtain ⟨v', n', w', g1, g2, g3, g4, g5⟩ := run_append_reads (P := Tryz.prog) base 105 105 42 i z 1 24 Tryz.underlying105 hi hz hs hby hzs (by omega) own' hr (by intro x hx; simp at hx; subst hx; rfl) (by simp; omega) (by unfold maxLen; simp; omega) (Nat.le_trans hb kx.size)
  have hn' : n' = k + 1 := by simp at g3; omega
  subst hn'
  refine ⟨v', w', g1, ⟨g2, by rw [List.length_append, h.len]; rfl, fun j y M h1 h2 => ?_⟩, ?_⟩
  · have kg : Kept (fun j => va.ownBlock = some j) (w.alloc (.cells #[.slice ua L.length uc] 42)) w' := Kept.grown g4 (fun j hj _ => hj)
    have hcase : (∃ y', vs[j]? = some y' ∧ y' = y) ∨ (j = k ∧ y = .slice ua L.length uc) := by
      rw [List.getElem?_append] at h1
      split at h1
      · exact .inl ⟨y, h1, rfl⟩
      · rename_i hlt
        rw [h.len] at h1 hlt
        have : j = k := by
          have := (List.getElem?_eq_some_iff.1 h1).1
          simp at this; omega
        subst this
        simp at h1
        exact .inr ⟨rfl, h1.symm⟩
    rcases hcase with ⟨y', hy, rfl⟩ | ⟨rfl, rfl⟩
    · have ho := kx.owns (h.each j y' M hy h2) (fun _ _ h => h)
      exact kg.owns ho (fun q hq hs => own_types ho own' (by omega) q hq hs)
    · rw [hL] at h2
      cases h2
      exact kg.owns hu' (fun q hq hs => own_types hu' own' (by omega) q hq hs)
  · exact kx.pure.trans (Kept.grown g4 (fun j hj _ => (owns_own h.own hj).1))
end Go.Proofs.YtopeleenlcnkkaaGreatDoor
/-
  The document's Merge: its walk.
-/
namespace Go.Proofs.YtopeleenlcnkkaaGreatDoor
open Go Go.RowKit
attribute [local irreducible] wpL
end Go.Proofs.YtopeleenlcnkkaaGreatDoor
/-
  Expressions, nodes, rows of records that came in.
-/
namespace Go.Proofs.YtopeleenlcnkkaaGreatDoor
open Go Go.RowKit Go.ChangeShapes Go.WideShapes Go.ChangeAt Go.Deep
theorem u8_of_wf {n : Int} (h : (Lit.int .u8 n).wf = true) : 0 ≤ n ∧ n ≤ 255 := by
  simp [Lit.wf, IntKind.min, IntKind.max, IntKind.signed, IntKind.bits] at h
  omega
section
variable {H : Type} {enc : TypeId × Value → H} {P : Program} {w : World}
/-- A slice that came in, with its data. -/
theorem open_readsF {t e : TypeId} {k fuel n cap : Nat} {a : Option Addr} {x : DataW H × List MemPlace} (ht : P.underlying t = some (.slice e)) (hk : P.cellsOf e = k) (hk0 : 0 < k)
    (h : DataW.trod enc P w 0 (fun _ => true) true fuel t [.slice a n cap] = some x) :
    ∃ (f : Nat) (cs : List Value) (ds : List (DataW H)), fuel = f + 1 ∧ cs.length = n * k ∧ Reads w k (.slice a n cap) cs ∧ ds.length = n ∧ ((∃ rest, x.1 = .slice ds rest) ∨ n = 0) ∧
      ∀ i, i < n → ∃ d p, ds[i]? = some d ∧ DataW.trod enc P w 0 (fun _ => true) true f e ((cs.drop (i * k)).take k) = some (d, p) := by
  obtain ⟨cs, hl, hr, _⟩ := open_reads ht hk hk0 h
  rcases DataW.trod_slice ht h with ⟨h0, hx⟩ | ⟨a', len, cap', elems, rest, f, rfl, h0, rfl, hb, hle, hm, hel, hbind, _, _⟩
  · injection h0 with h0 _
    injection h0 with h1 h2 h3
    subst h1 h2 h3
    cases fuel with
    | zero => simp [DataW.trod] at h
    | succ f => exact ⟨f, cs, [], rfl, hl, hr, rfl, .inr rfl, fun i hi => by omega⟩
  · injection h0 with h0 _
    injection h0 with h1 h2 h3
    subst h1 h2 h3
    refine ⟨f, cs, elems.map (·.1), rfl, hl, hr, by simpa using hel, .inl ⟨_, rfl⟩, fun i hi => ?_⟩
    have h1 := hbind i hi
    rw [hk] at h1
    obtain ⟨y, hy⟩ : ∃ y, elems[i]? = some y := ⟨_, List.getElem?_eq_getElem (by omega)⟩
    rw [hy] at h1
    obtain ⟨ci, hci, hti⟩ := Option.bind_eq_some_iff.1 h1
    obtain ⟨_, hlen, hcell⟩ := World.cells?_some hci
    refine ⟨y.1, y.2, by rw [List.getElem?_map, hy]; rfl, ?_⟩
    have e1 : (cs.drop (i * k)).take k = ci := by
      obtain ⟨a2, n2, cap2, e, _, _, _, hcl⟩ := hr
      cases e
      have hin : i * k + k ≤ n * k := by rw [← Nat.succ_mul]; exact Nat.mul_le_mul_right k hi
      rcases hcl with hcl | ⟨b, off, e, hcl⟩
      · rw [hcl] at hl
        simp at hl
        omega
      · cases e
        apply List.ext_getElem?
        intro j
        by_cases hj : j < k
        · rw [List.getElem?_take, if_pos hj, List.getElem?_drop]
          have h3 := hcell j hj
          rw [add_add, Addr.add_lit] at h3
          have h4 := hcl (i * k + j) (cs[i * k + j]'(by omega)) (by rw [List.getElem?_eq_getElem])
          rw [h4] at h3
          rw [List.getElem?_eq_getElem (by omega)]
          exact h3
        · rw [List.getElem?_take, if_neg hj, List.getElem?_eq_none (by omega)]
    rw [e1]; exact hti
end
section
variable {H : Type} {enc : TypeId × Value → H} {w : World}
set_option maxRecDepth 100000 in
/-- AN EXPRESSION THAT CAME IN. -/
theorem open_expr (fuel : Nat) : ∀ (cs : List Value) (x : DataW H × List MemPlace), DataW.trod enc Tryz.prog w 0 (fun _ => true) true fuel 95 cs = some x → ∃ ex : Ex, ExAt w cs.toArray ex := by
  induction fuel using Nat.strongRecOn with
  | ind fuel ih =>
    intro cs x h
    obtain ⟨xs, n, rfl, _, hl, hxl, hf⟩ := DataW.trod_struct Tryz.underlying95 h
    rw [show Tryz.prog.cellsOf 95 = 3 by kernel_rfl] at hl
    match cs, hl with
    | [c0, c1, c2], _ =>
      have g0 : DataW.trod enc Tryz.prog w 0 (fun _ => true) true n 5 ([c0, c1, c2].drop 0 |>.take (Tryz.prog.cellsOf 5)) = xs[0]? := hf 0 _ rfl
      have g1 : DataW.trod enc Tryz.prog w 0 (fun _ => true) true n 2 ([c0, c1, c2].drop 1 |>.take (Tryz.prog.cellsOf 2)) = xs[1]? := hf 1 _ rfl
      have g2 : DataW.trod enc Tryz.prog w 0 (fun _ => true) true n 93 ([c0, c1, c2].drop 2 |>.take (Tryz.prog.cellsOf 93)) = xs[2]? := hf 2 _ rfl
      rw [show Tryz.prog.cellsOf 5 = 1 by kernel_rfl] at g0
      rw [show Tryz.prog.cellsOf 2 = 1 by kernel_rfl] at g1
      rw [show Tryz.prog.cellsOf 93 = 1 by kernel_rfl] at g2
      simp only [List.drop_succ_cons, List.drop_zero, List.take_succ_cons, List.take_zero] at g0 g1 g2
      match xs, hxl with
      | [x0, x1, x2], _ =>
        obtain ⟨z0, hz0, _, hw0⟩ := DataW.trod_int Tryz.underlying5 g0
        obtain ⟨z1, hz1, _, hw1⟩ := DataW.trod_int Tryz.underlying2 g1
        injection hz0 with hz0 _
        injection hz1 with hz1 _
        subst hz0 hz1
        obtain ⟨sa, sn, sc, hs⟩ : ∃ sa sn sc, c2 = .slice sa sn sc := by
          rcases DataW.trod_slice Tryz.underlying93 g2 with ⟨e, _⟩ | ⟨_, _, _, _, _, _, _, e, _⟩
          · injection e with e _; exact ⟨_, _, _, e⟩
          · injection e with e _; exact ⟨_, _, _, e⟩
        subst hs
        obtain ⟨f, es, ds, rfl, hel, hre, _, _, heach⟩ := open_readsF (k := 3) Tryz.underlying93 (by kernel_rfl) (by omega) g2
        have each : ∀ i, i < sn → ∃ ex : Ex, ExAt w ((es.drop (i * 3)).take 3).toArray ex := by
          intro i hi
          obtain ⟨d, p, _, hd⟩ := heach i hi
          exact ih f (by omega) _ _ hd
        obtain ⟨X, hX⟩ := choose_lt each
        refine ⟨.mk z0 z1 ((List.range sn).map X), .mk (u8_of_wf hw0).1 (u8_of_wf hw0).2 (.of_wf hw1) hre (by simpa using hel) (fun i y hy => ?_)⟩
        rw [List.getElem?_map] at hy
        obtain ⟨i', hi', rfl⟩ := Option.map_eq_some_iff.1 hy
        obtain ⟨hlt, rfl⟩ := List.getElem?_eq_some_iff.1 hi'
        simp only [List.length_range] at hlt
        simpa using hX i hlt
end
end Go.Proofs.YtopeleenlcnkkaaGreatDoor
/-
  A slice's first and last elements; strings in a slice.
-/
namespace Go.Proofs.YtopeleenlcnkkaaGreatDoor
open Go Go.RowKit
section
variable {P : Program} {w : World} {a : Option Addr} {n cap k i : Nat} {cs : List Value} {T E : TypeId}
theorem run_slice_to (hT : P.underlying T = some (.slice E)) (hs : (sizeOf E).run P w = .ok k w) (hi : i ≤ n) (hc : n ≤ cap) : (Instr.slice T (.slice a n cap) none (some (.int .i64 (i : Int))) none).run P w = .ok (.slice a i cap) w := by
  have hb : (Instr.sliceBounds true n cap none (some (.int .i64 (i : Int))) none).run P w = .ok (0, i, cap) w := by
    simp [Instr.sliceBounds, Instr.sliceBound, asIntOf]
    intro h; omega
  simp only [Instr.slice, Sem.run_bind, run_underlying hT, Result.andThen_ok, hb, hs, Sem.run_pure]
  cases a with
  | none => simp
  | some a => simp [Addr.add]
theorem Reads.take (h : Reads w k (.slice a n cap) cs) (hi : i ≤ n) : Reads w k (.slice a i cap) (cs.take (i * k)) := by
  obtain ⟨a', n', cap', e, h1, h2, h3, h4⟩ := h
  cases e
  refine ⟨a, i, cap, rfl, by omega, h2, ?_, ?_⟩
  · rw [List.length_take, h3]
    exact Nat.min_eq_left (Nat.mul_le_mul_right k hi)
  · rcases h4 with h4 | ⟨b, off, rfl, h4⟩
    · left; rw [h4]; simp
    · right
      refine ⟨b, off, rfl, fun j x hx => h4 j x ?_⟩
      rw [List.getElem?_take] at hx
      split at hx
      · exact hx
      · cases hx
theorem run_slice_from (hT : P.underlying T = some (.slice E)) (hs : (sizeOf E).run P w = .ok k w) (hi : i ≤ n) (hc : n ≤ cap) :
    (Instr.slice T (.slice a n cap) (some (.int .i64 (i : Int))) none none).run P w = .ok (.slice (if cap = i then a else a.map (·.add (i * k))) (n - i) (cap - i)) w := by
  have hb : (Instr.sliceBounds true n cap (some (.int .i64 (i : Int))) none none).run P w = .ok (i, n, cap) w := by
    simp [Instr.sliceBounds, Instr.sliceBound, asIntOf]
    intro h; omega
  simp only [Instr.slice, Sem.run_bind, run_underlying hT, Result.andThen_ok, hb, hs, Sem.run_pure]
theorem Reads.drop (h : Reads w k (.slice a n cap) cs) (hi : i ≤ n) : Reads w k (.slice (if cap = i then a else a.map (·.add (i * k))) (n - i) (cap - i)) (cs.drop (i * k)) := by
  obtain ⟨a', n', cap', e, h1, h2, h3, h4⟩ := h
  cases e
  refine ⟨_, n - i, cap - i, rfl, by omega, by omega, by rw [List.length_drop, h3, Nat.sub_mul], ?_⟩
  rcases h4 with h4 | ⟨b, off, rfl, h4⟩
  · left; rw [h4]; simp
  · by_cases hc : cap = i
    · left
      exact List.drop_eq_nil_of_le (by rw [h3]; exact Nat.mul_le_mul_right k (by omega))
    · right
      refine ⟨b, off + i * k, by rw [if_neg hc]; simp only [Option.map_some]; rw [Addr.add_lit], fun j x hx => ?_⟩
      rw [Nat.add_assoc]
      rw [List.getElem?_drop] at hx
      exact h4 (i * k + j) x hx
end
def strs (l : List ByteArray) : List Value := l.map Value.string
@[simp] theorem strs_length (l : List ByteArray) : (strs l).length = l.length := by simp [strs]
theorem Reads.atS {w : World} {v : Value} {l : List ByteArray} (h : Reads w 1 v (strs l)) : ∃ a cap, v = .slice a l.length cap ∧ l.length ≤ cap ∧ cap ≤ maxLen ∧ (l = [] ∨ ∃ b off, a = some ⟨b, off, none⟩ ∧ ∀ i x, l[i]? = some x → w.cell? ⟨b, off + i, none⟩ = some (.string x)) := by
  obtain ⟨a, n, cap, rfl, h1, h2, h3, h4⟩ := h
  have hn : n = l.length := by simpa using h3.symm
  subst hn
  refine ⟨a, cap, rfl, h1, h2, ?_⟩
  rcases h4 with h4 | ⟨b, off, rfl, h4⟩
  · left
    have : (strs l).length = 0 := by rw [h4]; rfl
    rw [strs_length] at this
    exact List.eq_nil_of_length_eq_zero this
  · exact .inr ⟨b, off, rfl, fun i x hx => h4 i _ (by simp [strs, hx])⟩
end Go.Proofs.YtopeleenlcnkkaaGreatDoor
/-
  The plain law of a job: how many parts its expressions have, told in two ways.
-/
namespace Go.Proofs.YtopeleenlcnkkaaGreatDoor
mutual
/-- How many expressions one has, itself too. -/
def exSize : Ex → Nat
  | .mk _ _ l => 1 + exSizes l
def exSizes : List Ex → Nat
  | [] => 0
  | x :: l => exSize x + exSizes l
end
mutual
/-- The program's count: what is left. -/
def cntR : Ex → Nat → Nat
  | .mk _ _ l, left => if 0 < left then cntL l (left - 1) else left
def cntL : List Ex → Nat → Nat
  | [], left => left
  | x :: l, left => cntL l (cntR x left)
end
mutual
theorem cntR_eq : ∀ (x : Ex) (left : Nat), cntR x left = left - exSize x
  | .mk o n l, left => by
    unfold cntR exSize
    by_cases h : 0 < left
    · rw [if_pos h, cntL_eq l]; omega
    · rw [if_neg h]; omega
theorem cntL_eq : ∀ (l : List Ex) (left : Nat), cntL l left = left - exSizes l
  | [], left => by unfold cntL exSizes; omega
  | x :: l, left => by
    unfold cntL exSizes
    rw [cntL_eq l, cntR_eq x]
    omega
end
/-- What a kind asks for. -/
def jLeast (k : Int) : Nat := if k = 1 then 0 else if k = 8 then 2 else 1
def jMost (k : Int) : Nat := if k = 1 then 0 else if k = 8 then 3 else 1
def jTy (k : Int) : Int := if k = 3 then 2 else if k = 2 ∨ k = 4 ∨ k = 5 ∨ k = 6 then 1 else 0
def jAcc (k : Int) : Bool := k == 6
def jN (k : Int) : Int := if k = 7 then 16 else 0
/-- The program's rule of a node: of its name, its kind, how many it reads, whether these may be read, whether it has no expression, its expression's type, its number. -/
def mayP (name : Bool) (k : Int) (ins : Nat) (good : Bool) (none : Bool) (ty : Bool → Int → Bool) (n : Int) : Bool :=
  if name = false ∨ k < 1 ∨ 9 < k then false
  else if ins < jLeast k ∨ jMost k < ins ∨ good = false then false
  else if n < min (jN k) 1 ∨ jN k < n then false
  else if jTy k = 0 then none else ty (jAcc k) (jTy k)
end Go.Proofs.YtopeleenlcnkkaaGreatDoor
/-
  The runes of a text, and a walk over them.
-/
namespace Go.Proofs.YtopeleenlcnkkaaGreatDoor
open Go Go.RowKit
/-- The runes of a text from a place on: where each begins, and which it is. -/
def runesFrom (s : ByteArray) : Nat → Nat → List (Nat × Nat)
  | 0, _ => []
  | f + 1, i => if i < s.size then (i, (Utf8.decode s i).1) :: runesFrom s f (i + (Utf8.decode s i).2) else []
def runes (s : ByteArray) : List (Nat × Nat) := runesFrom s s.size 0
theorem decode_wide (s : ByteArray) (pos : Nat) (h : pos < s.size) : 1 ≤ (Utf8.decode s pos).2 := by
  by_cases ha : (s[pos]'h).toNat < 128
  · rw [decode_ascii s pos h ha]; exact Nat.le_refl _
  · exact (decode_high s pos h (by omega)).2
theorem runesFrom_length (s : ByteArray) : ∀ f i, (runesFrom s f i).length ≤ f
  | 0, _ => Nat.zero_le _
  | f + 1, i => by
    unfold runesFrom
    split
    · rw [List.length_cons]; have := runesFrom_length s f (i + (Utf8.decode s i).2); omega
    · exact Nat.zero_le _
theorem runes_length (s : ByteArray) : (runes s).length ≤ s.size := runesFrom_length s _ _
theorem runesFrom_in (s : ByteArray) : ∀ f i p, p ∈ runesFrom s f i → i ≤ p.1 ∧ p.1 < s.size ∧ p.2 ≤ 2147483647
  | 0, _, _, h => by cases h
  | f + 1, i, p, h => by
    unfold runesFrom at h
    split at h
    · rename_i hi
      rcases List.mem_cons.1 h with rfl | h
      · exact ⟨Nat.le_refl _, hi, decode_le s i⟩
      · have := runesFrom_in s f _ p h
        exact ⟨by omega, this.2⟩
    · cases h
theorem runes_in {s : ByteArray} {p : Nat × Nat} (h : p ∈ runes s) : p.1 < s.size ∧ p.2 ≤ 2147483647 := (runesFrom_in s _ _ p h).2
/-- Block r is a walk over s, of whose runes 'left' are still to come. -/
def RunAt (w : World) (r : Nat) (s : ByteArray) (left : List (Nat × Nat)) : Prop :=
  ∃ pos f, w.heap[r]? = some (.stringIter s pos) ∧ s.size ≤ pos + f ∧ runesFrom s f pos = left
theorem RunAt.lt {w : World} {r : Nat} {s : ByteArray} {left : List (Nat × Nat)} (h : RunAt w r s left) : r < w.heap.size := by
  obtain ⟨pos, f, h, _⟩ := h
  exact (Array.getElem?_eq_some_iff.1 h).1
theorem RunAt.kept {w w' : World} {r : Nat} {s : ByteArray} {left : List (Nat × Nat)} {S : Nat → Prop} (h : RunAt w r s left) (hk : Kept S w w') (hr : ¬ S r) : RunAt w' r s left := by
  obtain ⟨pos, f, h1, h2, h3⟩ := h
  exact ⟨pos, f, hk.heap h1 hr, h2, h3⟩
section
variable {P : Program}
theorem run_range_str (w : World) (t : TypeId) (s : ByteArray) (h : P.underlying t = some .string) :
    ∃ w', (Instr.range t (.string s)).run P w = .ok (.pointer (some ⟨w.heap.size, 0, none⟩)) w' ∧ RunAt w' w.heap.size s (runes s) ∧ Kept none' w w' ∧ w'.heap.size = w.heap.size + 1 :=
  ⟨w.iter s 0, run_range_string w t s h, ⟨0, s.size, World.iter_heap w s 0, by omega, rfl⟩, (Kept.refl _ _).alloc _, by simp [World.iter]⟩
theorem RunAt.next {w : World} {r : Nat} {s : ByteArray} {left : List (Nat × Nat)} (h : RunAt w r s left) (ty : TypeId) :
    (left = [] ∧ (Instr.next (.pointer (some ⟨r, 0, none⟩)) true ty).run P w = .ok (.tuple #[.bool false]) w) ∨
    ∃ p left' w', left = p :: left' ∧ (Instr.next (.pointer (some ⟨r, 0, none⟩)) true ty).run P w = .ok (.tuple #[.bool true, .int .i64 p.1, .int .i32 p.2]) w' ∧ RunAt w' r s left' ∧ Kept (one r) w w' ∧ w'.heap.size = w.heap.size := by
  obtain ⟨pos, f, h1, h2, rfl⟩ := h
  have hr : r < w.heap.size := (Array.getElem?_eq_some_iff.1 h1).1
  by_cases hp : pos < s.size
  · right
    cases f with
    | zero => omega
    | succ f =>
      have hw := decode_wide s pos hp
      refine ⟨(pos, (Utf8.decode s pos).1), runesFrom s f (pos + (Utf8.decode s pos).2), { w with heap := w.heap.setIfInBounds r (.stringIter s (pos + (Utf8.decode s pos).2)) }, ?_, ?_, ⟨_, f, ?_, by omega, rfl⟩, ⟨rfl, rfl, rfl, by simp, fun k _ hk => ?_⟩, by simp⟩
      · rw [runesFrom, if_pos hp]
      · simp [Instr.next, getObj, setObj, Sem.run, h1, hp, goInt]
      · simp [hr]
      · rw [setObj_heap _ (fun e => hk e.symm)]
  · left
    refine ⟨?_, ?_⟩
    · cases f with
      | zero => rfl
      | succ f => rw [runesFrom, if_neg hp]
    · simp [Instr.next, getObj, Sem.run, h1, hp]
end
end Go.Proofs.YtopeleenlcnkkaaGreatDoor
