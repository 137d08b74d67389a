/-
  What a node makes of records: a table beside the row that grows.
-/
import Derived.Test.YtaalpijohdlabaaOpe3
namespace Go.Proofs.Ytaalpijohdlabaa
open Go Go.RowKit
/-- A table beside the row that grows: they share no block, and have none of X. -/
def Sep (w : World) (Bo base tb tm : Nat) (X : Nat → Prop) (out : List Rec) (T : Tab) : Prop :=
  ∃ A M : Nat → Prop, OutAt w Bo base (fun k => base ≤ k ∧ A k) out ∧ TabAt w M tb tm T ∧ (∀ k, A k → M k → False) ∧ ¬ M Bo ∧ ∀ k, X k → ¬ A k ∧ ¬ M k ∧ k ≠ Bo
section
variable {w w' : World} {Bo base tb tm : Nat} {X : Nat → Prop} {out : List Rec} {T : Tab}
theorem Sep.pure (h : Sep w Bo base tb tm X out T) (hk : Kept none' w w') : Sep w' Bo base tb tm X out T := by
  obtain ⟨A, M, h1, h2, h3, h4, h5⟩ := h
  exact ⟨A, M, h1.pure hk, h2.pure hk, h3, h4, h5⟩
theorem Sep.ok (h : Sep w Bo base tb tm X out T) : TOk T := by obtain ⟨A, M, h1, h2, h3, h4, h5⟩ := h; exact h2.ok
theorem Sep.row (h : Sep w Bo base tb tm X out T) : OutAt w Bo base (fun k => base ≤ k) out := by obtain ⟨A, M, h1, h2, h3, h4, h5⟩ := h; exact h1.mono (fun k h _ => h.1)
theorem OutAt.lt {A : Nat → Prop} (h : OutAt w Bo base A out) : Bo < w.heap.size := by obtain ⟨v, a, _⟩ := h; exact (Array.getElem?_eq_some_iff.1 a).1
theorem Sep.enter (h : Sep w Bo base tb tm X out T) (hk : Kept none' w w') {Y : Nat → Prop} (hY : ∀ k, Y k → w.heap.size ≤ k) : Sep w' Bo base tb tm Y out T := by
  obtain ⟨A, M, h1, h2, h3, h4, h5⟩ := h
  have hlt := h1.lt
  exact ⟨fun k => A k ∧ k < w.heap.size, fun k => M k ∧ k < w.heap.size, (h1.mono (fun k h hl => ⟨h.1, h.2, hl⟩)).pure hk, (h2.mono (fun k h hl => ⟨h, hl⟩)).pure hk, fun k a b => h3 k a.1 b.1, fun h => h4 h.1,
    fun k hk => ⟨fun h => by have := hY k hk; omega, fun h => by have := hY k hk; omega, by have := hY k hk; omega⟩⟩
theorem Sep.leave (h : Sep w Bo base tb tm X out T) : Sep w Bo base tb tm none' out T := by
  obtain ⟨A, M, h1, h2, h3, h4, h5⟩ := h
  exact ⟨A, M, h1, h2, h3, h4, fun _ h => h.elim⟩
theorem Sep.foreign (h : Sep w Bo base tb tm X out T) {S : Nat → Prop} (hk : Kept S w w') (hS : ∀ k, S k → X k) : Sep w' Bo base tb tm X out T := by
  obtain ⟨A, M, h1, h2, h3, h4, h5⟩ := h
  exact ⟨A, M, h1.kept hk (fun h => (h5 _ (hS _ h)).2.2 rfl) (fun k h hs => (h5 _ (hS _ hs)).1 h.2), h2.kept hk (fun k hs hM => ((h5 _ (hS _ hs)).2.1 hM).elim) (fun hs => (h5 _ (hS _ hs)).2.1 h2.hm), h3, h4, h5⟩
def SepQ (w : World) (Bo base tb tm : Nat) (X : Nat → Prop) (out : List Rec) (T : Tab) (v : Value) (e : Ending) (w' : World) : Prop := e = .returned v ∧ Sep w' Bo base tb tm X out T ∧ Kept (one tm) w w'
theorem Sep.get (h : Sep w Bo base tb tm X out T) (k : Int) : Calls Try.prog 18 #[.pointer (some ⟨tb, 0, none⟩), .int .i64 k] w (GetQ w T k) := by
  obtain ⟨A, M, h1, h2, h3, h4⟩ := h
  exact get_any M tb tm T k w h2
theorem Sep.put (h : Sep w Bo base tb tm X out T) (hX : ∀ k, X k → k < w.heap.size) (k : Int) (c : Cell) (v : Value) (hk : R64 k) (hc1 : R64 c.1) (hc2 : ∀ x ∈ c.2, R64 x) (hlen : c.2.length ≤ 17592186044416) (hr : Reads w 1 v (ints c.2)) :
    Calls Try.prog 17 #[.pointer (some ⟨tb, 0, none⟩), .int .i64 k, .agg #[.int .i64 c.1, v]] w (SepQ w Bo base tb tm X out (putT T k c) (.int .i64 (putE T k c.2.length))) := by
  obtain ⟨A, M, h1, h2, h3, h4, h5⟩ := h
  have hm := h2.hm
  have hlt := h1.lt
  refine (put_any (fun j => M j ∨ w.heap.size ≤ j) tb tm T k c v w (h2.mono (fun j h _ => .inl h)) (fun j h => .inr h) hk hc1 hc2 hlen hr).mono ?_
  rintro e w' ⟨rfl, t, k1⟩
  refine ⟨rfl, ⟨fun j => A j ∧ j < w.heap.size, _, ?_, t, ?_, ?_, ?_⟩, k1⟩
  · refine (h1.mono (A' := fun k => base ≤ k ∧ A k ∧ k < w.heap.size) (fun k h hl => ⟨h.1, h.2, hl⟩)).kept k1 (fun e => h4 (by unfold one at e; rw [e]; exact hm)) (fun k h e => h3 k h.2.1 (by unfold one at e; rw [e]; exact hm))
  · rintro j ⟨a, b⟩ (c | c)
    · exact h3 j a c
    · omega
  · rintro (c | c)
    · exact h4 c
    · omega
  · intro j hj
    refine ⟨fun a => (h5 j hj).1 a.1, ?_, (h5 j hj).2.2⟩
    rintro (a | a)
    · exact (h5 j hj).2.1 a
    · have := hX j hj; omega
theorem Sep.drop (h : Sep w Bo base tb tm X out T) (k : Int) : Calls Try.prog 20 #[.pointer (some ⟨tb, 0, none⟩), .int .i64 k] w (SepQ w Bo base tb tm X out (tdrop k T) (.bool (tget T k).isSome)) := by
  obtain ⟨A, M, h1, h2, h3, h4, h5⟩ := h
  have hm := h2.hm
  refine (drop_any M tb tm T k w h2).mono ?_
  rintro e w' ⟨rfl, t, k1⟩
  exact ⟨rfl, ⟨A, M, h1.kept k1 (fun e => h4 (by unfold one at e; rw [e]; exact hm)) (fun k h e => h3 k h.2 (by unfold one at e; rw [e]; exact hm)), t, h3, h4, h5⟩, k1⟩
def SepGoesQ (w : World) (Bo base tb tm : Nat) (out : List Rec) (T : Tab) (e : Ending) (w' : World) : Prop :=
  e = .returned (.tuple #[]) ∧ Sep w' Bo base tb tm none' out T ∧ Kept (fun k => k = Bo ∨ base ≤ k) w w'
theorem Sep.goes (h : Sep w Bo base tb tm X out T) (r : Rec) (hb : base ≤ w.heap.size) (hlen : out.length ≤ 1073741824) :
    Calls Try.prog 63 #[recV r, .pointer (some ⟨Bo, 0, none⟩)] w (SepGoesQ w Bo base tb tm (out ++ [r]) T) := by
  obtain ⟨A, M, h1, h2, h3, h4, _⟩ := h
  have hlt := h1.lt
  refine (goes_any r out Bo base (fun k => base ≤ k ∧ (A k ∨ w.heap.size ≤ k)) w (h1.mono (fun k h _ => ⟨h.1, .inl h.2⟩)) hb (fun k hk => ⟨Nat.le_trans hb hk, .inr hk⟩) hlen).mono ?_
  rintro e w' ⟨rfl, o, k1⟩
  have t : TabAt w (fun j => M j ∧ j < w.heap.size) tb tm T := h2.mono (fun j h hl => ⟨h, hl⟩)
  have dis : ∀ k, (k = Bo ∨ base ≤ k ∧ (A k ∨ w.heap.size ≤ k)) → M k ∧ k < w.heap.size → False := by
    rintro k (rfl | ⟨_, a | a⟩) ⟨b, c⟩
    · exact h4 b
    · exact h3 k a b
    · omega
  refine ⟨rfl, ⟨_, _, o, t.kept k1 (fun k hS hM _ _ _ _ => (dis k hS hM).elim) (fun hS => dis _ hS t.hm), ?_, fun h => h4 h.1, fun _ h => h.elim⟩, k1.mono (fun k _ h => by rcases h with h | h; exact .inl h; exact .inr h.1)⟩
  rintro k (a | a) ⟨b, c⟩
  · exact h3 k a b
  · omega
theorem Sep.notCells (h : Sep w Bo base tb tm X out T) : ∀ c E f, w.heap[tm]? ≠ some (.cells c E f) := by
  obtain ⟨A, M, h1, h2, h3, h4⟩ := h
  obtain ⟨l, hl, _⟩ := h2.map
  obtain ⟨L, cl, hL, _⟩ := hl
  intro c E f e
  rw [hL.heap] at e; cases e
end
/-- The state in which the closures that know a table are called. -/
structure TbSt (w0 w : World) (Bn Bi Bo Bg Bp base tb tm : Nat) (na : Array Value) (nd : Nod) (v : Value) (L out : List Rec) (T : Tab) : Prop where
  st : DoSt (one tm) w0 w Bn Bi Bo Bg base na nd v L out
  ptr : w.heap[Bp]? = some (.cells #[.pointer (some ⟨tb, 0, none⟩)] 24 (0, 0))
  lop : w0.heap.size ≤ Bp ∧ Bp < base ∧ Bp ≠ Bo ∧ tm < w0.heap.size
  sep : Sep w Bo base tb tm none' out T
def TbStQ (w0 : World) (Bn Bi Bo Bg Bp base tb tm : Nat) (na : Array Value) (nd : Nod) (v : Value) (L out : List Rec) (T : Tab) (e : Ending) (w' : World) : Prop :=
  e = .returned (.tuple #[]) ∧ TbSt w0 w' Bn Bi Bo Bg Bp base tb tm na nd v L out T
theorem TbSt.next {w0 w w' : World} {Bn Bi Bo Bg Bp base tb tm : Nat} {na : Array Value} {nd : Nod} {v : Value} {L out out' : List Rec} {T T' : Tab} (h : TbSt w0 w Bn Bi Bo Bg Bp base tb tm na nd v L out T)
    {S' : Nat → Prop} (hk : Kept S' w w') (hS : ∀ k, S' k → k = Bo ∨ base ≤ k ∨ k = tm) (hs : Sep w' Bo base tb tm none' out' T') : TbSt w0 w' Bn Bi Bo Bg Bp base tb tm na nd v L out' T' := by
  obtain ⟨l1, l2, l3, l4⟩ := h.lop
  refine ⟨h.st.next hk (fun k hk => by rcases hS k hk with e | e | e; exact .inl e; exact .inr (.inl e); exact .inr (.inr e)) hs.row, hk.heap h.ptr (fun hk => ?_), h.lop, hs⟩
  rcases hS _ hk with e | e | e <;> omega
theorem TbSt.alloc {w0 w : World} {Bn Bi Bo Bg Bp base tb tm : Nat} {na : Array Value} {nd : Nod} {v : Value} {L out : List Rec} {T : Tab} (h : TbSt w0 w Bn Bi Bo Bg Bp base tb tm na nd v L out T) (o : Obj) :
    TbSt w0 (w.alloc o) Bn Bi Bo Bg Bp base tb tm na nd v L out T :=
  h.next ((Kept.refl none' w).alloc o) (fun _ h => h.elim) (h.sep.pure ((Kept.refl none' w).alloc o))
theorem cellOf_ok {T : Tab} (h : TOk T) (k : Int) : COk (cellOf T k) := by
  unfold cellOf
  cases hg : tget T k with
  | none => exact ⟨zero_r64, by simp, by simp⟩
  | some c => exact h.cell _ ((tget_some h.rises).1 hg)
end Go.Proofs.Ytaalpijohdlabaa

