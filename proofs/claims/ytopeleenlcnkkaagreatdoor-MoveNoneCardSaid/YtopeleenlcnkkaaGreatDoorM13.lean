/-
  What an expression comes to: the walk of do.
-/
import Derived.Test.YtopeleenlcnkkaaGreatDoorM12
import Derived.Test.YtopeleenlcnkkaaGreatDoorM10
import Derived.Test.YtopeleenlcnkkaaGreatDoorM08
import Derived.SizedLaws
set_option linter.unusedVariables false
set_option linter.unusedSimpArgs false
namespace Go.Proofs.YtopeleenlcnkkaaGreatDoor
open Go Go.RowKit
attribute [local irreducible] wpL
end Go.Proofs.YtopeleenlcnkkaaGreatDoor
/-
  What an expression comes to: Do, Int, Bool.
-/
namespace Go.Proofs.YtopeleenlcnkkaaGreatDoor
open Go Go.RowKit
attribute [local irreducible] wpL
end Go.Proofs.YtopeleenlcnkkaaGreatDoor
/-
  What a node makes of records: the plain law; the row that grows (goes); each.
-/
namespace Go.Proofs.YtopeleenlcnkkaaGreatDoor
open Go Go.RowKit
attribute [local irreducible] wpL
/-- The row that grows stands in block Bo; its records lie in a block of A. -/
def OutAt (w : World) (Bo base : Nat) (A : Nat → Prop) (out : List Rec) : Prop :=
  ∃ v, w.heap[Bo]? = some (.cells #[v] 42 (0, 0)) ∧ w.ownsRow base 44 3 v out.length (recs out) ∧ ∀ k, v.ownBlock = some k → A k
theorem OutAt.kept {w w' : World} {Bo base : Nat} {A S : Nat → Prop} {out : List Rec} (h : OutAt w Bo base A out) (hk : Kept S w w') (h1 : ¬ S Bo) (h2 : ∀ k, A k → ¬ S k) : OutAt w' Bo base A out := by
  obtain ⟨v, a, b, c⟩ := h
  exact ⟨v, hk.heap a h1, hk.owns b (fun k hv => h2 k (c k hv)), c⟩
theorem OutAt.pure {w w' : World} {Bo base : Nat} {A : Nat → Prop} {out : List Rec} (h : OutAt w Bo base A out) (hk : Kept none' w w') : OutAt w' Bo base A out := h.kept hk (fun h => h) (fun _ _ h => h)
def GoesQ (w : World) (Bo base : Nat) (A : Nat → Prop) (out : List Rec) (e : Ending) (w' : World) : Prop :=
  e = .returned (.tuple #[]) ∧ OutAt w' Bo base A out ∧ Kept (fun k => k = Bo ∨ A k) w w'
/-- Where what was appended to stands now: where it stood, or in the newest block. -/
theorem append_where {P : Program} {w w' : World} (base : Nat) (t ty e : TypeId) (i : TypeInfo) (z : Value) (size bytes : Nat) (ht : P.underlying t = some (.slice e)) (hi : P.info? e = some i) (hz : i.zero = some z) (hsize : i.size = size) (hby : i.bytes = bytes)
    (v : Value) (n : Nat) (xs : List Value) (hown : w.ownsRow base e size v n xs) (a : Addr) (m c : Nat) (news : List Value) (hl : news.length = m * size) (hnews : ∀ j u, news[j]? = some u → w.cell? (a.add j) = some u)
    (h1 : ∀ u ∈ news, u.oneCell' = true) (hm : 0 < m) (h63 : n + m ≤ maxLen) (hbytes : (n + m) * bytes ≤ 140737488355328) {v' : Value}
    (hr : (Builtin.append_ #[t, t] ty #[v, .slice (some a) m c]).run P w = .ok v' w') : ∀ k, v'.ownBlock = some k → v.ownBlock = some k ∨ k = w.heap.size := by
  subst hsize hby
  have hsmall : n + m ≤ 9223372036854775807 := by simp only [maxLen] at h63; omega
  intro k hk
  rcases hown.2 with ⟨rfl, rfl⟩ | ⟨g, cap, cur, rfl, hbg, hg, hnc, hcm, hcs, htake⟩
  · have h2 := run_append_nil (P := P) w t ty e i z ht hi hz a m c news hl hnews hm (by omega) (by simp only [Nat.zero_add] at hbytes; omega)
    rw [h2] at hr
    injection hr with hr _
    subst hr
    right; simpa [Value.ownBlock] using hk.symm
  · by_cases hroom : n + m ≤ cap
    · have h2 := run_append_room (P := P) w t ty e i ht hi g n cap cur hg a m c news hl hnews h1 hroom (by rw [hl, hcs, ← Nat.add_mul]; exact Nat.mul_le_mul_right _ hroom)
      rw [h2] at hr
      injection hr with hr _
      subst hr
      left; simpa [Value.ownBlock] using hk
    · have h2 := run_append_grow (P := P) w t ty e i z ht hi hz ⟨g, 0, none⟩ n cap xs hown.1 (hown.cells (g := g) rfl) a m c news hl hnews (by omega) (by omega) (growslice_fits (by omega) hbytes)
      rw [h2] at hr
      injection hr with hr _
      subst hr
      right; simpa [Value.ownBlock] using hk.symm
/-- append, its run known. -/
theorem wpList_append_run {P : Program} {w w' : World} {ops : Array Oper} {rest : List Oper} {o : Oper} {a : Act} {Q : Exit → Act → World → Prop} (hgd : o.guard = none) (s x : Operand) (t : TypeId)
    (ho : o.op = .call { callee := .builtin .append, args := #[s, x], argTypes := #[t, t] }) (v u v' : Value) (hs : a.eval s = v) (hx : a.eval x = u) (hr : (Builtin.append_ #[t, t] o.type #[v, u]).run P w = .ok v' w')
    (h : wpList P ops Q rest (a.put o.dst v') w') : wpList P ops Q (o :: rest) a w :=
  wpList_plain hgd fun K hK => by
    unfold Oper.wp execOp
    simp only [ho, resolve, invoke, builtin, Sem.run_bind, Sem.run_pure, Result.andThen_ok, List.map_toArray, List.map_cons, List.map_nil, hs, hx, hr]
    exact hK _ _ h
set_option maxRecDepth 100000 in
set_option maxHeartbeats 1000000 in
theorem goes_any (r : Rec) (out : List Rec) (Bo base : Nat) (A : Nat → Prop) (w : World) (h : OutAt w Bo base A out) (hb : base ≤ w.heap.size) (hA : ∀ k, w.heap.size ≤ k → A k) (hlen : out.length ≤ 1073741824) :
    Calls Tryz.prog 78 #[.agg #[.int .i64 r.pos, .int .i64 r.key, .int .i64 r.val], .pointer (some ⟨Bo, 0, none⟩)] w (GoesQ w Bo base A (out ++ [r])) := by
  obtain ⟨v, hh, hown, hv⟩ := h
  have hlt := (Array.getElem?_eq_some_iff.1 hh).1
  obtain ⟨W0, hW0⟩ : ∃ W0, (w.alloc (.cells #[.int .i64 r.pos, .int .i64 r.key, .int .i64 r.val] 44)).alloc (.cells #[.int .i64 r.pos, .int .i64 r.key, .int .i64 r.val] 44) = W0 := ⟨_, rfl⟩
  have hk0 : Kept none' w W0 := by rw [← hW0]; exact ((Kept.refl _ _).alloc _).alloc _
  have hsz0 : w.heap.size ≤ W0.heap.size := hk0.size
  have hown0 := hk0.owns hown (fun _ _ h => h)
  have hh0 := hk0.heap hh (fun h => h)
  have c0 : w.cell? ⟨Bo, 0, none⟩ = some v := cells_at hh rfl
  obtain ⟨a, cap, rfl⟩ := owns_slice hown
  obtain ⟨i, z, hi, hz, hs, hby, hzs⟩ := Tryz.info44
  have hrd : Reads W0 3 (.slice (some ⟨w.heap.size + 1, 0, none⟩) 1 1) (recs [r]) := by
    have := Reads.lit (w.alloc (.cells #[.int .i64 r.pos, .int .i64 r.key, .int .i64 r.val] 44)) (recs [r]) 44 3 1 rfl (by unfold maxLen; omega)
    rw [World.size_alloc] at this
    rw [← hW0]; exact this
  obtain ⟨v', n', w', g1, g2, g3, g4, g5⟩ := run_append_reads (P := Tryz.prog) base 42 42 44 i z 3 24 Tryz.underlying42 hi hz hs hby hzs (by omega) hown0 hrd (recs_one [r]) (by rw [recs_length]; simp; omega) (by rw [recs_length]; unfold maxLen; simp; omega) (Nat.le_trans hb hk0.size)
  have hwhere : ∀ k, v'.ownBlock = some k → A k := by
    intro k hk
    obtain ⟨_, _, _, e, _, _, _, hcl⟩ := hrd
    cases e
    rcases hcl with hcl | ⟨b', off', e', hcl⟩
    · cases hcl
    · cases e'
      rcases append_where (P := Tryz.prog) base 42 42 44 i z 3 24 Tryz.underlying42 hi hz hs hby _ _ _ hown0 ⟨w.heap.size + 1, 0, none⟩ 1 1 (recs [r]) rfl (fun j u hj => by rw [Addr.add_lit]; exact hcl j u hj) (recs_one [r]) (by omega) (by unfold maxLen; omega) (by omega) g1 k hk with h | h
      · exact hv k h
      · exact hA k (by omega)
  have hn' : n' = (out ++ [r]).length := by rw [recs_length] at g3; simp at g3 ⊢; omega
  subst hn'
  have hBo : ∀ k, Value.ownBlock (.slice a out.length cap) = some k → k ≠ Bo := by
    intro k hk e
    rcases hown.2 with ⟨e', _⟩ | ⟨g, cap', cur, e', _, hg, _⟩
    · rw [e'] at hk; cases hk
    · rw [e'] at hk
      simp [Value.ownBlock] at hk
      rw [← e, ← hk, hg] at hh
      cases hh
  have kw : Kept (fun k => k = Bo ∨ A k) w w' := hk0.pure.trans (Kept.grown g4 (fun k hk _ => .inr (hv k hk)))
  have hh' : w'.heap[Bo]? = some (.cells #[.slice a out.length cap] 42 (0, 0)) := by
    rw [g4.block Bo (by omega) (fun e => hBo Bo e.symm rfl)]; exact hh0
  have c1 : w'.cell? ⟨Bo, 0, none⟩ = some (.slice a out.length cap) := cells_at hh' rfl
  have f1 := free_at hh' 0
  have F : GoesQ w Bo base A (out ++ [r]) (.returned (.tuple #[])) (w'.setCell ⟨Bo, 0, none⟩ v') := by
    refine ⟨rfl, ⟨v', ?_, ?_, hwhere⟩, kw.setCell (p := ⟨Bo, 0, none⟩) (.inl (.inl rfl)) _⟩
    · have := set_at hh' 0 v'
      simpa using this
    · refine ((Kept.refl (one Bo) w').setCell (p := ⟨Bo, 0, none⟩) (.inl rfl) v').owns (by rw [recs_append]; exact g2) (fun k hk e => ?_)
      unfold one at e
      subst e
      rcases g2.2 with ⟨e', _⟩ | ⟨g, cap', cur, e', _, hg, _⟩
      · rw [e'] at hk; cases hk
      · rw [e'] at hk
        simp [Value.ownBlock] at hk
        rw [hk, hh'] at hg
        cases hg
  have F' := Lib.hid F
  rw [← hW0] at g1
  obtain ⟨va, vc, rfl⟩ := owns_slice g2
  have HG := Lib.hid g1
  clear F g1 hW0 hk0 hown hown0 hh hh0 hrd g2 g3 g4 g5 hwhere hBo kw hh' hv hA
  go_enter Tryz.func78, Tryz.ntmps78
  go_wp2_with (at_builtin; refine wpList_append_run rfl (.tmp 3) (.tmp 5) 42 rfl _ _ _ rfl rfl HG.out ?_)
  go_end0
  have F := F'.out
  rw [List.length_append] at F
  exact F
/-- The cells of a node. -/
def NodAt (w : World) (a : Array Value) (nd : Nod) : Prop :=
  ∃ uid inv p cap, a = #[.string uid, .int .u8 nd.kind, inv, .int .u8 nd.x.op, .int .i64 nd.x.n, .slice p nd.x.args.length cap, .int .i64 nd.n] ∧ ExAt w #[.int .u8 nd.x.op, .int .i64 nd.x.n, .slice p nd.x.args.length cap] nd.x ∧
    0 ≤ nd.kind ∧ nd.kind ≤ 255 ∧ R64 nd.n
theorem NodAt.kept {w w' : World} {S : Nat → Prop} (hk : Kept S w w') (hS : ∀ k, S k → ∀ c E f, w.heap[k]? ≠ some (.cells c E f)) {a : Array Value} {nd : Nod} (h : NodAt w a nd) : NodAt w' a nd := by
  obtain ⟨uid, inv, p, cap, h1, h2, h3⟩ := h
  exact ⟨uid, inv, p, cap, h1, h2.kept hk hS, h3⟩
theorem NodAt.pure {w w' : World} (hk : Kept none' w w') {a : Array Value} {nd : Nod} (h : NodAt w a nd) : NodAt w' a nd := h.kept hk (fun _ h => h.elim)
abbrev recV (r : Rec) : Value := .agg #[.int .i64 r.pos, .int .i64 r.key, .int .i64 r.val]
end Go.Proofs.YtopeleenlcnkkaaGreatDoor
/-
  What a node makes of records: the closures that know no table.
-/
namespace Go.Proofs.YtopeleenlcnkkaaGreatDoor
open Go Go.RowKit
attribute [local irreducible] wpL
theorem OutAt.mono {w : World} {Bo base : Nat} {A A' : Nat → Prop} {out : List Rec} (h : OutAt w Bo base A out) (hA : ∀ k, A k → k < w.heap.size → A' k) : OutAt w Bo base A' out := by
  obtain ⟨v, a, b, c⟩ := h
  exact ⟨v, a, b, fun k hk => hA k (c k hk) (owns_own b hk).2⟩
/-- The state in which the closures of Do are called. -/
structure DoSt (S : Nat → Prop) (w0 w : World) (Bn Bi Bo Bg base : Nat) (na : Array Value) (nd : Nod) (v : Value) (L out : List Rec) : Prop where
  free : ∀ k, S k → k < w0.heap.size ∧ ∀ c E f, w0.heap[k]? ≠ some (.cells c E f)
  kept : Kept S w0 w
  node0 : NodAt w0 na nd
  in0 : Reads w0 3 v (recs L)
  recs0 : ∀ r ∈ L, RecOk r
  node : w.heap[Bn]? = some (.cells na 97 (0, 0))
  ins : w.heap[Bi]? = some (.cells #[v] 42 (0, 0))
  goes : w.heap[Bg]? = some (.cells #[.func (.func 78) #[] #[.pointer (some ⟨Bo, 0, none⟩)]] 156 (0, 0))
  out : OutAt w Bo base (fun k => base ≤ k) out
  lo : w0.heap.size ≤ Bn ∧ w0.heap.size ≤ Bi ∧ w0.heap.size ≤ Bg ∧ w0.heap.size ≤ Bo
  hi : Bn < base ∧ Bi < base ∧ Bg < base ∧ Bo < base ∧ base ≤ w.heap.size
  ne : Bn ≠ Bo ∧ Bi ≠ Bo ∧ Bg ≠ Bo
section
variable {S : Nat → Prop} {w0 w w' : World} {Bn Bi Bo Bg base : Nat} {na : Array Value} {nd : Nod} {v : Value} {L out out' : List Rec}
theorem DoSt.next (h : DoSt S w0 w Bn Bi Bo Bg base na nd v L out) {S' : Nat → Prop} (hk : Kept S' w w') (hS : ∀ k, S' k → k = Bo ∨ base ≤ k ∨ S k) (ho : OutAt w' Bo base (fun k => base ≤ k) out') : DoSt S w0 w' Bn Bi Bo Bg base na nd v L out' := by
  obtain ⟨l1, l2, l3, l4⟩ := h.lo
  obtain ⟨i1, i2, i3, i4, i5⟩ := h.hi
  obtain ⟨n1, n2, n3⟩ := h.ne
  have no : ∀ b, w0.heap.size ≤ b → b < base → b ≠ Bo → ¬ S' b := fun b h1 h2 h3 hs => by
    rcases hS b hs with e | e | e
    · exact h3 e
    · omega
    · have := (h.free b e).1; omega
  exact ⟨h.free, h.kept.new hk (fun i hi hs => by rcases hS i hs with e | e | e; omega; omega; exact e), h.node0, h.in0, h.recs0, hk.heap h.node (no _ l1 i1 n1), hk.heap h.ins (no _ l2 i2 n2), hk.heap h.goes (no _ l3 i3 n3), ho, h.lo,
    ⟨i1, i2, i3, i4, Nat.le_trans i5 hk.size⟩, h.ne⟩
theorem DoSt.alloc (h : DoSt S w0 w Bn Bi Bo Bg base na nd v L out) (o : Obj) : DoSt S w0 (w.alloc o) Bn Bi Bo Bg base na nd v L out :=
  h.next ((Kept.refl none' w).alloc o) (fun _ h => h.elim) (h.out.pure ((Kept.refl none' w).alloc o))
end
end Go.Proofs.YtopeleenlcnkkaaGreatDoor
/-
  What a node makes of records: filter and flat.
-/
namespace Go.Proofs.YtopeleenlcnkkaaGreatDoor
open Go Go.RowKit
attribute [local irreducible] wpL
end Go.Proofs.YtopeleenlcnkkaaGreatDoor
/-
  The row's step, with the reach; slices of records that came in.
-/
namespace Go.Proofs.YtopeleenlcnkkaaGreatDoor
open Go Go.RowKit Go.ChangeShapes Go.WideShapes Go.ChangeAt Go.Deep
end Go.Proofs.YtopeleenlcnkkaaGreatDoor
/-
  What a node makes of records: a table beside the row that grows.
-/
namespace Go.Proofs.YtopeleenlcnkkaaGreatDoor
open Go Go.RowKit
/-- A table beside the row that grows: they share no block, and have none of X. -/
def Sep (Gs : Nat → Prop) (w : World) (Bo base tb tm : Nat) (X : Nat → Prop) (out : List Rec) (T : Tab) : Prop :=
  ∃ A M : Nat → Prop, OutAt w Bo base (fun k => base ≤ k ∧ A k) out ∧ TabAt w M tb tm T ∧ (∀ k, A k → M k → False) ∧ ¬ M Bo ∧ (∀ k, X k → ¬ A k ∧ ¬ M k ∧ k ≠ Bo) ∧ ∀ k, M k → Gs k ∨ Bo < k
section
variable {Gs : Nat → Prop} {w w' : World} {Bo base tb tm : Nat} {X : Nat → Prop} {out : List Rec} {T : Tab}
theorem Sep.pure (h : Sep Gs w Bo base tb tm X out T) (hk : Kept none' w w') : Sep Gs w' Bo base tb tm X out T := by
  obtain ⟨A, M, h1, h2, h3, h4, h5, h6⟩ := h
  exact ⟨A, M, h1.pure hk, h2.pure hk, h3, h4, h5, h6⟩
theorem Sep.ok (h : Sep Gs w Bo base tb tm X out T) : TOk T := by obtain ⟨A, M, h1, h2, h3, h4, h5, h6⟩ := h; exact h2.ok
theorem Sep.row (h : Sep Gs w Bo base tb tm X out T) : OutAt w Bo base (fun k => base ≤ k) out := by obtain ⟨A, M, h1, h2, h3, h4, h5, h6⟩ := h; exact h1.mono (fun k h _ => h.1)
theorem OutAt.lt {A : Nat → Prop} (h : OutAt w Bo base A out) : Bo < w.heap.size := by obtain ⟨v, a, _⟩ := h; exact (Array.getElem?_eq_some_iff.1 a).1
theorem Sep.enter (h : Sep Gs w Bo base tb tm X out T) (hk : Kept none' w w') {Y : Nat → Prop} (hY : ∀ k, Y k → w.heap.size ≤ k) : Sep Gs w' Bo base tb tm Y out T := by
  obtain ⟨A, M, h1, h2, h3, h4, h5, h6⟩ := h
  have hlt := h1.lt
  exact ⟨fun k => A k ∧ k < w.heap.size, fun k => M k ∧ k < w.heap.size, (h1.mono (fun k h hl => ⟨h.1, h.2, hl⟩)).pure hk, (h2.mono (fun k h hl => ⟨h, hl⟩)).pure hk, fun k a b => h3 k a.1 b.1, fun h => h4 h.1,
    fun k hk => ⟨fun h => by have := hY k hk; omega, fun h => by have := hY k hk; omega, by have := hY k hk; omega⟩, fun k h => h6 k h.1⟩
def SepQ (Gs : Nat → Prop) (w : World) (Bo base tb tm : Nat) (X : Nat → Prop) (out : List Rec) (T : Tab) (v : Value) (e : Ending) (w' : World) : Prop := e = .returned v ∧ Sep Gs w' Bo base tb tm X out T ∧ Kept (one tm) w w'
theorem Sep.get (h : Sep Gs w Bo base tb tm X out T) (k : Int) : Calls Tryz.prog 74 #[.pointer (some ⟨tb, 0, none⟩), .int .i64 k] w (GetQ w T k) := by
  obtain ⟨A, M, h1, h2, h3, h4⟩ := h
  exact get_any M tb tm T k w h2
theorem Sep.put (h : Sep Gs w Bo base tb tm X out T) (hX : ∀ k, X k → k < w.heap.size) (k : Int) (c : Cell) (v : Value) (hk : R64 k) (hc1 : R64 c.1) (hc2 : ∀ x ∈ c.2, R64 x) (hlen : c.2.length ≤ 17592186044416) (hr : Reads w 1 v (ints c.2)) :
    Calls Tryz.prog 86 #[.pointer (some ⟨tb, 0, none⟩), .int .i64 k, .agg #[.int .i64 c.1, v]] w (SepQ Gs w Bo base tb tm X out (putT T k c) (.int .i64 (putE T k c.2.length))) := by
  obtain ⟨A, M, h1, h2, h3, h4, h5, h6⟩ := h
  have hm := h2.hm
  have hlt := h1.lt
  refine (put_any (fun j => M j ∨ w.heap.size ≤ j) tb tm T k c v w (h2.mono (fun j h _ => .inl h)) (fun j h => .inr h) hk hc1 hc2 hlen hr).mono ?_
  rintro e w' ⟨rfl, t, k1⟩
  refine ⟨rfl, ⟨fun j => A j ∧ j < w.heap.size, _, ?_, t, ?_, ?_, ?_, ?_⟩, k1⟩
  · refine (h1.mono (A' := fun k => base ≤ k ∧ A k ∧ k < w.heap.size) (fun k h hl => ⟨h.1, h.2, hl⟩)).kept k1 (fun e => h4 (by unfold one at e; rw [e]; exact hm)) (fun k h e => h3 k h.2.1 (by unfold one at e; rw [e]; exact hm))
  · rintro j ⟨a, b⟩ (c | c)
    · exact h3 j a c
    · omega
  · rintro (c | c)
    · exact h4 c
    · omega
  · intro j hj
    refine ⟨fun a => (h5 j hj).1 a.1, ?_, (h5 j hj).2.2⟩
    rintro (a | a)
    · exact (h5 j hj).2.1 a
    · have := hX j hj; omega
  · rintro j (c | c)
    · exact h6 j c
    · right; omega
theorem Sep.drop (h : Sep Gs w Bo base tb tm X out T) (k : Int) : Calls Tryz.prog 88 #[.pointer (some ⟨tb, 0, none⟩), .int .i64 k] w (SepQ Gs w Bo base tb tm X out (tdrop k T) (.bool (tget T k).isSome)) := by
  obtain ⟨A, M, h1, h2, h3, h4, h5, h6⟩ := h
  have hm := h2.hm
  refine (drop_any M tb tm T k w h2).mono ?_
  rintro e w' ⟨rfl, t, k1⟩
  exact ⟨rfl, ⟨A, M, h1.kept k1 (fun e => h4 (by unfold one at e; rw [e]; exact hm)) (fun k h e => h3 k h.2 (by unfold one at e; rw [e]; exact hm)), t, h3, h4, h5, h6⟩, k1⟩
def SepGoesQ (Gs : Nat → Prop) (w : World) (Bo base tb tm : Nat) (out : List Rec) (T : Tab) (e : Ending) (w' : World) : Prop :=
  e = .returned (.tuple #[]) ∧ Sep Gs w' Bo base tb tm none' out T ∧ Kept (fun k => k = Bo ∨ base ≤ k) w w'
theorem Sep.goes (h : Sep Gs w Bo base tb tm X out T) (r : Rec) (hb : base ≤ w.heap.size) (hlen : out.length ≤ 1073741824) :
    Calls Tryz.prog 78 #[recV r, .pointer (some ⟨Bo, 0, none⟩)] w (SepGoesQ Gs w Bo base tb tm (out ++ [r]) T) := by
  obtain ⟨A, M, h1, h2, h3, h4, _, h6⟩ := h
  have hlt := h1.lt
  refine (goes_any r out Bo base (fun k => base ≤ k ∧ (A k ∨ w.heap.size ≤ k)) w (h1.mono (fun k h _ => ⟨h.1, .inl h.2⟩)) hb (fun k hk => ⟨Nat.le_trans hb hk, .inr hk⟩) hlen).mono ?_
  rintro e w' ⟨rfl, o, k1⟩
  have t : TabAt w (fun j => M j ∧ j < w.heap.size) tb tm T := h2.mono (fun j h hl => ⟨h, hl⟩)
  have dis : ∀ k, (k = Bo ∨ base ≤ k ∧ (A k ∨ w.heap.size ≤ k)) → M k ∧ k < w.heap.size → False := by
    rintro k (rfl | ⟨_, a | a⟩) ⟨b, c⟩
    · exact h4 b
    · exact h3 k a b
    · omega
  refine ⟨rfl, ⟨_, _, o, t.kept k1 (fun k hS hM _ _ _ _ => (dis k hS hM).elim) (fun hS => dis _ hS t.hm), ?_, fun h => h4 h.1, fun _ h => h.elim, fun k h => h6 k h.1⟩, k1.mono (fun k _ h => by rcases h with h | h; exact .inl h; exact .inr h.1)⟩
  rintro k (a | a) ⟨b, c⟩
  · exact h3 k a b
  · omega
end
/-- The state in which the closures that know a table are called. -/
structure TbSt (Gs : Nat → Prop) (w0 w : World) (Bn Bi Bo Bg Bp base tb tm : Nat) (na : Array Value) (nd : Nod) (v : Value) (L out : List Rec) (T : Tab) : Prop where
  st : DoSt (one tm) w0 w Bn Bi Bo Bg base na nd v L out
  ptr : w.heap[Bp]? = some (.cells #[.pointer (some ⟨tb, 0, none⟩)] 61 (0, 0))
  lop : w0.heap.size ≤ Bp ∧ Bp < base ∧ Bp ≠ Bo ∧ tm < w0.heap.size
  sep : Sep Gs w Bo base tb tm none' out T
theorem TbSt.next {Gs : Nat → Prop} {w0 w w' : World} {Bn Bi Bo Bg Bp base tb tm : Nat} {na : Array Value} {nd : Nod} {v : Value} {L out out' : List Rec} {T T' : Tab} (h : TbSt Gs w0 w Bn Bi Bo Bg Bp base tb tm na nd v L out T)
    {S' : Nat → Prop} (hk : Kept S' w w') (hS : ∀ k, S' k → k = Bo ∨ base ≤ k ∨ k = tm) (hs : Sep Gs w' Bo base tb tm none' out' T') : TbSt Gs w0 w' Bn Bi Bo Bg Bp base tb tm na nd v L out' T' := by
  obtain ⟨l1, l2, l3, l4⟩ := h.lop
  refine ⟨h.st.next hk (fun k hk => by rcases hS k hk with e | e | e; exact .inl e; exact .inr (.inl e); exact .inr (.inr e)) hs.row, hk.heap h.ptr (fun hk => ?_), h.lop, hs⟩
  rcases hS _ hk with e | e | e <;> omega
theorem TbSt.alloc {Gs : Nat → Prop} {w0 w : World} {Bn Bi Bo Bg Bp base tb tm : Nat} {na : Array Value} {nd : Nod} {v : Value} {L out : List Rec} {T : Tab} (h : TbSt Gs w0 w Bn Bi Bo Bg Bp base tb tm na nd v L out T) (o : Obj) :
    TbSt Gs w0 (w.alloc o) Bn Bi Bo Bg Bp base tb tm na nd v L out T :=
  h.next ((Kept.refl none' w).alloc o) (fun _ h => h.elim) (h.sep.pure ((Kept.refl none' w).alloc o))
end Go.Proofs.YtopeleenlcnkkaaGreatDoor

/-
  What a node makes of records: reduce.
-/
namespace Go.Proofs.YtopeleenlcnkkaaGreatDoor
open Go Go.RowKit
attribute [local irreducible] wpL
end Go.Proofs.YtopeleenlcnkkaaGreatDoor
/-
  What a node makes of records: window.
-/
namespace Go.Proofs.YtopeleenlcnkkaaGreatDoor
open Go Go.RowKit
attribute [local irreducible] wpL
def winB (T : Tab) (key n : Int) (len : Nat) : Prop := putE T key len ≠ 0 ∨ ((len : Nat) : Int) < n
instance (T : Tab) (key n : Int) (len : Nat) : Decidable (winB T key n len) := by unfold winB; exact inferInstance
end Go.Proofs.YtopeleenlcnkkaaGreatDoor
