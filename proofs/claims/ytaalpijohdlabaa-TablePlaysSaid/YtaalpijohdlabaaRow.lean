/-
  WHAT THE ROWS SHARE: a slice that came in, of whatever elements, opened as a list of cells; the calls of a table that came in (a slice of structs); the row's step for a law that writes nothing that was there.
-/
import Derived.Test.YtaalpijohdlabaaTab8
import Derived.ProofKit
import Derived.OpenShut
import Derived.ShutString
import Derived.ChangeOld
import Derived.Below
import Derived.Deep.Slices
import Derived.ChangeCalls
namespace Go.Proofs.Ytaalpijohdlabaa
open Go Go.RowKit Go.ChangeShapes Go.WideShapes Go.ChangeAt Go.Deep

theorem R64.of_wf {n : Int} (h : (Lit.int .i64 n).wf = true) : R64 n := by
  have h2 : IntKind.i64.min ≤ n ∧ n ≤ 9223372036854775807 := by simpa [Lit.wf] using h
  exact ⟨by have : IntKind.i64.min = -9223372036854775808 := by decide
            omega, h2.2⟩
theorem spot_of_cell {w : World} {x : Addr} {v : Value} (h : w.cell? x = some v) : x = ⟨x.block, x.off, none⟩ := by
  unfold World.cell? at h
  split at h
  · by_cases hs : x.spot.isSome = true
    · rw [if_pos hs] at h; cases h
    · have : x.spot = none := by simpa using hs
      cases x; simp only at this; rw [this]
  · cases h

section
variable {H : Type} {enc : TypeId × Value → H} {P : Program} {w : World}
/-- A SLICE THAT CAME IN: its cells as one list, and each element's cells read at the element's type. -/
theorem open_reads {t e : TypeId} {k fuel n cap : Nat} {a : Option Addr} {x : DataW H × List MemPlace} (ht : P.underlying t = some (.slice e)) (hk : P.cellsOf e = k) (hk0 : 0 < k)
    (h : DataW.trod enc P w 0 (fun _ => true) true fuel t [.slice a n cap] = some x) :
    ∃ cs : List Value, cs.length = n * k ∧ Reads w k (.slice a n cap) cs ∧ ∀ i, i < n → ∃ m y, DataW.trod enc P w 0 (fun _ => true) true m e ((cs.drop (i * k)).take k) = some y := by
  rcases open_slice ht h with ⟨h0, _⟩ | ⟨a', len, cap', m, f, D, Pl, h0, hb, hl, hm, hmm, rfl, hx⟩
  · injection h0 with h0 _
    injection h0 with h1 h2 h3
    subst h1 h2 h3
    exact ⟨[], by simp, Reads.nil _ _, fun i hi => by omega⟩
  · injection h0 with h0 _
    injection h0 with h1 h2 h3
    subst h1 h2 h3
    simp only [if_true] at hmm
    subst hmm
    have each : ∀ j, j < n * k → ∃ v, w.cell? (a'.add j) = some v := by
      intro j hj
      have hi : j / k < n := (Nat.div_lt_iff_lt_mul hk0).2 hj
      have hr : j % k < k := Nat.mod_lt _ hk0
      obtain ⟨cs', h1, _⟩ := hx (j / k) (by omega)
      rw [hk] at h1
      obtain ⟨_, hlen, hcell⟩ := World.cells?_some h1
      have h2 := hcell (j % k) hr
      rw [add_add, show j / k * k + j % k = j by rw [Nat.mul_comm]; exact Nat.div_add_mod j k] at h2
      rw [h2, List.getElem?_eq_getElem (by omega)]
      exact ⟨_, rfl⟩
    obtain ⟨V, hV⟩ := choose_lt (α := Value) (p := fun j v => w.cell? (a'.add j) = some v) each
    refine ⟨(List.range (n * k)).map V, by simp, ⟨_, _, _, rfl, hl, hm, by simp, ?_⟩, fun i hi => ?_⟩
    · by_cases hz : n * k = 0
      · left; rw [hz]; rfl
      · right
        have e0 := spot_of_cell (hV 0 (by omega))
        rw [Addr.add_zero'] at e0
        refine ⟨a'.block, a'.off, by rw [← e0], fun j x hj => ?_⟩
        rw [List.getElem?_map] at hj
        obtain ⟨j', hj', rfl⟩ := Option.map_eq_some_iff.1 hj
        obtain ⟨hlt, rfl⟩ := List.getElem?_eq_some_iff.1 hj'
        simp only [List.length_range] at hlt
        have := hV j hlt
        rw [e0, Addr.add_lit] at this
        simpa using this
    · obtain ⟨cs', h1, h2⟩ := hx i (by omega)
      rw [hk] at h1
      obtain ⟨_, hlen, hcell⟩ := World.cells?_some h1
      refine ⟨f, (D i, Pl i), ?_⟩
      · rw [show ((((List.range (n * k)).map V).drop (i * k)).take k) = cs' from ?_]
        · exact h2
        · apply List.ext_getElem?
          intro j
          have hin : i * k + k ≤ n * k := by rw [← Nat.succ_mul]; exact Nat.mul_le_mul_right k hi
          by_cases hj : j < k
          · rw [List.getElem?_take, if_pos hj, List.getElem?_drop, List.getElem?_map, List.getElem?_range (by omega)]
            have h3 := hcell j hj
            rw [add_add, hV (i * k + j) (by omega)] at h3
            simpa using h3
          · rw [List.getElem?_take, if_neg hj, List.getElem?_eq_none (by omega)]
/-- A SLICE OF NUMBERS THAT CAME IN. -/
theorem open_nums {t e : TypeId} {fuel n cap : Nat} {a : Option Addr} {x : DataW H × List MemPlace} (ht : P.underlying t = some (.slice e)) (he : P.underlying e = some (.int .i64)) (hk : P.cellsOf e = 1)
    (h : DataW.trod enc P w 0 (fun _ => true) true fuel t [.slice a n cap] = some x) :
    ∃ l : List Int, l.length = n ∧ Reads w 1 (.slice a n cap) (ints l) ∧ ∀ y ∈ l, R64 y := by
  obtain ⟨cs, hl, hr, hel⟩ := open_reads ht hk (by omega) h
  have : ∃ l : List Int, cs = ints l ∧ ∀ y ∈ l, R64 y := by
    rw [Nat.mul_one] at hl
    have hel' : ∀ v ∈ cs, ∃ y, v = .int .i64 y ∧ R64 y := by
      intro v hv
      obtain ⟨i, hi, rfl⟩ := List.mem_iff_getElem.1 hv
      obtain ⟨m, y, hy⟩ := hel i (by omega)
      obtain ⟨z, hz, _, hw⟩ := DataW.trod_int he hy
      rw [Nat.mul_one, List.drop_eq_getElem_cons hi, List.take_succ_cons, List.take_zero] at hz
      injection hz with hz _
      exact ⟨z, hz, .of_wf hw⟩
    clear hl hr hel
    induction cs with
    | nil => exact ⟨[], rfl, by simp⟩
    | cons v cs ih =>
      obtain ⟨y, rfl, hy⟩ := hel' v (by simp)
      obtain ⟨l, rfl, hl⟩ := ih (fun u hu => hel' u (by simp [hu]))
      exact ⟨y :: l, rfl, by simpa using ⟨hy, hl⟩⟩
  obtain ⟨l, rfl, h64⟩ := this
  exact ⟨l, by simpa using hl, hr, h64⟩
end

/-- A call of a table: Kind, Key, and the cell that is put. -/
structure Op where
  kind : Int
  key : Int
  acc : Int
  l : List Int
instance : Inhabited Op := ⟨⟨0, 0, 0, []⟩⟩
structure OpOk (o : Op) : Prop where
  kind : R64 o.kind
  key : R64 o.key
  acc : R64 o.acc
  l : ∀ x ∈ o.l, R64 x
def OpAt (w : World) (b off : Nat) (o : Op) : Prop :=
  w.cell? ⟨b, off, none⟩ = some (.int .i64 o.kind) ∧ w.cell? ⟨b, off + 1, none⟩ = some (.int .i64 o.key) ∧ w.cell? ⟨b, off + 2, none⟩ = some (.int .i64 o.acc) ∧
    ∃ L, w.cell? ⟨b, off + 3, none⟩ = some L ∧ Reads w 1 L (ints o.l)
def OpsAt (w : World) (v : Value) (ops : List Op) : Prop :=
  ∃ a cap, v = .slice a ops.length cap ∧ ops.length ≤ cap ∧ cap ≤ maxLen ∧ (∀ o ∈ ops, OpOk o) ∧
    (ops = [] ∨ ∃ b off, a = some ⟨b, off, none⟩ ∧ ∀ i o, ops[i]? = some o → OpAt w b (off + i * 4) o)
theorem OpAt.pure {w w' : World} {b off : Nat} {o : Op} (h : OpAt w b off o) (hk : Kept none' w w') : OpAt w' b off o := by
  obtain ⟨h0, h1, h2, L, h3, h4⟩ := h
  exact ⟨hk.cell (fun h => h) h0, hk.cell (fun h => h) h1, hk.cell (fun h => h) h2, L, hk.cell (fun h => h) h3, h4.pure hk⟩
theorem OpsAt.pure {w w' : World} {v : Value} {ops : List Op} (h : OpsAt w v ops) (hk : Kept none' w w') : OpsAt w' v ops := by
  obtain ⟨a, cap, rfl, h1, h2, h3, h4⟩ := h
  refine ⟨a, cap, rfl, h1, h2, h3, ?_⟩
  rcases h4 with h4 | ⟨b, off, rfl, h4⟩
  · exact .inl h4
  · exact .inr ⟨b, off, rfl, fun i o ho => (h4 i o ho).pure hk⟩

/-- THE CALLS THAT CAME IN. -/
theorem open_ops {H : Type} {enc : TypeId × Value → H} {w : World} {fuel n cap : Nat} {a : Option Addr} {x : DataW H × List MemPlace}
    (h : DataW.trod enc Try.prog w 0 (fun _ => true) true fuel 33 [.slice a n cap] = some x) : ∃ ops : List Op, OpsAt w (.slice a n cap) ops := by
  obtain ⟨cs, hl, ⟨a', n', cap', hv, hc1, hc2, hl', hr⟩, hel⟩ := open_reads (k := 4) Try.underlying33 (by kernel_rfl) (by omega) h
  injection hv with e1 e2 e3
  subst e1 e2 e3
  have each : ∀ i, i < n → ∃ o : Op, OpOk o ∧ ∀ b off, (∀ i x, cs[i]? = some x → w.cell? ⟨b, off + i, none⟩ = some x) → OpAt w b (off + i * 4) o := by
    intro i hi
    obtain ⟨m, y, hy⟩ := hel i hi
    have hin : i * 4 + 4 ≤ n * 4 := by omega
    obtain ⟨v0, v1, v2, v3, hd⟩ : ∃ v0 v1 v2 v3, (cs.drop (i * 4)).take 4 = [v0, v1, v2, v3] := by
      have hlen : ((cs.drop (i * 4)).take 4).length = 4 := by rw [List.length_take, List.length_drop]; omega
      match (cs.drop (i * 4)).take 4, hlen with
      | [v0, v1, v2, v3], _ => exact ⟨v0, v1, v2, v3, rfl⟩
    rw [hd] at hy
    have get : ∀ j v, [v0, v1, v2, v3][j]? = some v → cs[i * 4 + j]? = some v := by
      intro j v hj
      rw [← hd, List.getElem?_take] at hj
      split at hj
      · rwa [List.getElem?_drop] at hj
      · cases hj
    obtain ⟨xs, f1, _, _, _, _, hf⟩ := DataW.trod_struct Try.underlying37 hy
    have g0 : DataW.trod enc Try.prog w 0 (fun _ => true) true f1 3 ([v0, v1, v2, v3].drop 0 |>.take (Try.prog.cellsOf 3)) = xs[0]? := hf 0 _ rfl
    have g1 : DataW.trod enc Try.prog w 0 (fun _ => true) true f1 2 ([v0, v1, v2, v3].drop 1 |>.take (Try.prog.cellsOf 2)) = xs[1]? := hf 1 _ rfl
    have g2 : DataW.trod enc Try.prog w 0 (fun _ => true) true f1 29 ([v0, v1, v2, v3].drop 2 |>.take (Try.prog.cellsOf 29)) = xs[2]? := hf 2 _ rfl
    rw [show Try.prog.cellsOf 3 = 1 by kernel_rfl] at g0
    rw [show Try.prog.cellsOf 2 = 1 by kernel_rfl] at g1
    rw [show Try.prog.cellsOf 29 = 2 by kernel_rfl] at g2
    simp only [List.drop_succ_cons, List.drop_zero, List.take_succ_cons, List.take_zero] at g0 g1 g2
    have hxl : xs.length = 3 := by assumption
    match xs, hxl with
    | [x0, x1, x2], _ =>
      obtain ⟨z0, hz0, _, hw0⟩ := DataW.trod_int Try.underlying3 g0
      obtain ⟨z1, hz1, _, hw1⟩ := DataW.trod_int Try.underlying2 g1
      obtain ⟨ys, f2, _, _, _, hyl, hg⟩ := DataW.trod_struct Try.underlying29 g2
      have k0 : DataW.trod enc Try.prog w 0 (fun _ => true) true f2 2 ([v2, v3].drop 0 |>.take (Try.prog.cellsOf 2)) = ys[0]? := hg 0 _ rfl
      have k1 : DataW.trod enc Try.prog w 0 (fun _ => true) true f2 22 ([v2, v3].drop 1 |>.take (Try.prog.cellsOf 22)) = ys[1]? := hg 1 _ rfl
      rw [show Try.prog.cellsOf 2 = 1 by kernel_rfl] at k0
      rw [show Try.prog.cellsOf 22 = 1 by kernel_rfl] at k1
      simp only [List.drop_succ_cons, List.drop_zero, List.take_succ_cons, List.take_zero] at k0 k1
      match ys, hyl with
      | [y0, y1], _ =>
        obtain ⟨z2, hz2, _, hw2⟩ := DataW.trod_int Try.underlying2 k0
        obtain ⟨sa, sn, sc, hs⟩ : ∃ sa sn sc, v3 = .slice sa sn sc := by
          rcases open_ints Try.underlying22 Try.underlying2 (by kernel_rfl) k1 with ⟨e, _⟩ | ⟨_, _, _, _, e, _⟩
          · injection e with e _; exact ⟨_, _, _, e⟩
          · injection e with e _; exact ⟨_, _, _, e⟩
        subst hs
        obtain ⟨l, hll, hlr, hl64⟩ := open_nums Try.underlying22 Try.underlying2 (by kernel_rfl) k1
        injection hz0 with hz0 _
        injection hz1 with hz1 _
        injection hz2 with hz2 _
        subst hz0 hz1 hz2
        refine ⟨⟨z0, z1, z2, l⟩, ⟨.of_wf hw0, .of_wf hw1, .of_wf hw2, hl64⟩, fun b off hcell => ⟨?_, ?_, ?_, _, ?_, hlr⟩⟩
        · exact hcell _ _ (get 0 _ rfl)
        · have := hcell _ _ (get 1 _ rfl); rwa [← Nat.add_assoc] at this
        · have := hcell _ _ (get 2 _ rfl); rwa [← Nat.add_assoc] at this
        · have := hcell _ _ (get 3 _ rfl); rwa [← Nat.add_assoc] at this
  obtain ⟨O, hO⟩ := choose_lt each
  have hln : ((List.range n).map O).length = n := by simp
  refine ⟨(List.range n).map O, a, cap, by rw [hln], by rw [hln]; exact hc1, hc2, fun o ho => ?_, ?_⟩
  · obtain ⟨i, hi, rfl⟩ := List.mem_map.1 ho
    exact (hO i (List.mem_range.1 hi)).1
  · rcases hr with rfl | ⟨b, off, rfl, hcell⟩
    · left
      have : n = 0 := by simp only [List.length_nil] at hl; omega
      rw [this]; rfl
    · right
      refine ⟨b, off, rfl, fun i o ho => ?_⟩
      rw [List.getElem?_map] at ho
      obtain ⟨i', hi', rfl⟩ := Option.map_eq_some_iff.1 ho
      obtain ⟨hlt, rfl⟩ := List.getElem?_eq_some_iff.1 hi'
      simp only [List.length_range] at hlt
      simpa using (hO i hlt).2 b off hcell

/-! ### THE ROW's STEP -/
theorem own : ownKnob Try.prog.godebug = none := by kernel_rfl
theorem laidOut : laidOutB Try.prog = true := by kernel_rfl
noncomputable def readB (ts : List TypeId) : Bool := ts.all fun t => Try.prog.readableRec t && decide (t < Try.prog.types.size)
set_option maxRecDepth 100000 in
theorem again_all {H : Type} {enc : TypeId × Value → H} {W W' : World} (hb : Below W.heap.size W W') (ts : List TypeId) : ∀ {vs : List Value} {ds : List (DataW H)} {ps : List MemPlace}, readB ts = true →
    DataW.TrodAll enc Try.prog W 0 (fun _ => true) true ts vs ds ps → ∃ ps', DataW.TrodAll enc Try.prog W' 0 (fun b => decide (b < W.heap.size)) true ts vs ds ps' := by
  induction ts with
  | nil =>
    intro vs ds ps _ h
    obtain ⟨rfl, rfl, rfl⟩ := trodAll_nil h
    exact ⟨[], trodAll_mk0⟩
  | cons t ts ih =>
    intro vs ds ps hr h
    obtain ⟨v, vs', d, ds', p, q, rfl, rfl, rfl, h0, h1⟩ := trodAll_cons h
    unfold readB at hr
    rw [List.all_cons, Bool.and_eq_true, Bool.and_eq_true] at hr
    obtain ⟨ps', h2⟩ := ih hr.2 h1
    have hlt : ∀ x ∈ p, x.block < W.heap.size := by obtain ⟨m, hm⟩ := h0; exact DataW.trod_lt m _ _ _ hm
    exact ⟨_, trodAll_cons_mk (Below.trod laidOut hr.1.1 (of_decide_eq_true hr.1.2) h0 hb hlt) h2⟩
set_option maxRecDepth 100000 in
theorem lifted_all {F : Nat} {fn : Func} {s : ChangeSpec} (hf : Try.prog.funcs[F]? = some fn) (hv : s.vars = []) (hr : fn.resultTypes = #[4]) (hp : readB fn.params.toList = true) (hi : Try.prog.inits.idxOf? F = none)
    (hs : ∀ (H : Type) (ds : List (DataW H)), ds.length = fn.params.toList.length → s.fn H ds = { results := [.lit (.bool true)], args := ds })
    (walk : ∀ (H : Type) (enc : TypeId × Value → H) (W : World) (base : Nat) (args : Array Value) (ds : List (DataW H)) (p : List MemPlace),
      DataW.TrodAll enc Try.prog W 0 (fun _ => true) true fn.params.toList args.toList ds p → (∀ (j : Nat) t v, fn.params[j]? = some t → args[j]? = some v → Value.okWide Try.prog W .any base t v) →
      W.noneFrozen p → Calls Try.prog F args W (Gives W (.bool true)))
    (os : Os) (started : os.Started) (H : Type) (enc : TypeId × Value → H)
    (witness : ∃ (w : World) (tape : Tape) (i : Input), w.os = os ∧ (w.forCall tape i).Shaped Try.prog ∧ i.vars = [] ∧ Input.okWide Try.prog (w.forCall tape i) .any w.heap.size F i ∧
      s.pre6 enc Try.prog fn [] false (w.forCall tape i).memory i.args ∧ ({} : Assume).holds Try.prog (lone (Frame.enter Try.prog F i.args .normal) [] (w.forCall tape i))) :
    ReturnsInHanded {} Try.checked os F .any (s.pre6 enc Try.prog fn [] false) (s.post enc Try.prog fn false true false false) := by
  refine returnsInHanded_of_change (C := Try.checked) own started hi hf witness ?_
  intro W base args ds gs before hval hW hcnd _
  have hW' := hW
  obtain ⟨p, q, hA, hV, rfl, hfz, hnd⟩ := hW
  rw [hv] at hV
  obtain ⟨rfl, rfl⟩ := trodVars_none hV
  have hA' : DataW.TrodAll enc Try.prog W 0 (fun _ => true) true fn.params.toList args.toList ds p := hA
  refine (walk H enc W base args ds p hA' hval (fun b o h => hfz b o (List.mem_append_left _ h))).mono fun e W' ⟨he, k⟩ => ?_
  subst he
  have bel := k.below
  obtain ⟨ps', hagain⟩ := again_all bel fn.params.toList hp hA'
  have hlen : ds.length = fn.params.toList.length := (trodAll_length hA').2
  have hfn := hs H (ds ++ []) (by rw [List.append_nil]; exact hlen)
  refine ⟨_, rfl, ds, [], _, [], ps', [], hW', ?_, ?_, ?_, bel.frame _, fun h => by cases h⟩
  · rw [hr, hfn]; exact trodAll_mk1 (shut_bool Try.underlying4 _)
  · rw [hfn, List.append_nil]; exact hagain
  · rw [hfn, hv]; rfl
end Go.Proofs.Ytaalpijohdlabaa
