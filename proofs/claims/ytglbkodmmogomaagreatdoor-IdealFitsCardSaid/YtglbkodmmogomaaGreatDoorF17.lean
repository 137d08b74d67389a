/-
  What a node makes of records: a table beside the row that grows.
-/
import Derived.Test.YtglbkodmmogomaaGreatDoorF16
set_option linter.unusedVariables false
set_option linter.unusedSimpArgs false
namespace Go.Proofs.YtglbkodmmogomaaGreatDoor
open Go Go.RowKit
/-- A table beside the row that grows: they share no block, and have none of X. -/
def Sep (Gs : Nat → Prop) (w : World) (Bo base tb tm : Nat) (X : Nat → Prop) (out : List Rec) (T : Tab) : Prop :=
  ∃ A M : Nat → Prop, OutAt w Bo base (fun k => base ≤ k ∧ A k) out ∧ TabAt w M tb tm T ∧ (∀ k, A k → M k → False) ∧ ¬ M Bo ∧ (∀ k, X k → ¬ A k ∧ ¬ M k ∧ k ≠ Bo) ∧ ∀ k, M k → Gs k ∨ Bo < k
section
variable {Gs : Nat → Prop} {w w' : World} {Bo base tb tm : Nat} {X : Nat → Prop} {out : List Rec} {T : Tab}
theorem Sep.pure (h : Sep Gs w Bo base tb tm X out T) (hk : Kept none' w w') : Sep Gs w' Bo base tb tm X out T := by
  obtain ⟨A, M, h1, h2, h3, h4, h5, h6⟩ := h
  exact ⟨A, M, h1.pure hk, h2.pure hk, h3, h4, h5, h6⟩
theorem Sep.ok (h : Sep Gs w Bo base tb tm X out T) : TOk T := by obtain ⟨A, M, h1, h2, h3, h4, h5, h6⟩ := h; exact h2.ok
theorem Sep.row (h : Sep Gs w Bo base tb tm X out T) : OutAt w Bo base (fun k => base ≤ k) out := by obtain ⟨A, M, h1, h2, h3, h4, h5, h6⟩ := h; exact h1.mono (fun k h _ => h.1)
theorem OutAt.lt {A : Nat → Prop} (h : OutAt w Bo base A out) : Bo < w.heap.size := by obtain ⟨v, a, _⟩ := h; exact (Array.getElem?_eq_some_iff.1 a).1
theorem Sep.enter (h : Sep Gs w Bo base tb tm X out T) (hk : Kept none' w w') {Y : Nat → Prop} (hY : ∀ k, Y k → w.heap.size ≤ k) : Sep Gs w' Bo base tb tm Y out T := by
  obtain ⟨A, M, h1, h2, h3, h4, h5, h6⟩ := h
  have hlt := h1.lt
  exact ⟨fun k => A k ∧ k < w.heap.size, fun k => M k ∧ k < w.heap.size, (h1.mono (fun k h hl => ⟨h.1, h.2, hl⟩)).pure hk, (h2.mono (fun k h hl => ⟨h, hl⟩)).pure hk, fun k a b => h3 k a.1 b.1, fun h => h4 h.1,
    fun k hk => ⟨fun h => by have := hY k hk; omega, fun h => by have := hY k hk; omega, by have := hY k hk; omega⟩, fun k h => h6 k h.1⟩
theorem Sep.leave (h : Sep Gs w Bo base tb tm X out T) : Sep Gs w Bo base tb tm none' out T := by
  obtain ⟨A, M, h1, h2, h3, h4, h5, h6⟩ := h
  exact ⟨A, M, h1, h2, h3, h4, fun _ h => h.elim, h6⟩
theorem Sep.foreign (h : Sep Gs w Bo base tb tm X out T) {S : Nat → Prop} (hk : Kept S w w') (hS : ∀ k, S k → X k) : Sep Gs w' Bo base tb tm X out T := by
  obtain ⟨A, M, h1, h2, h3, h4, h5, h6⟩ := h
  exact ⟨A, M, h1.kept hk (fun h => (h5 _ (hS _ h)).2.2 rfl) (fun k h hs => (h5 _ (hS _ hs)).1 h.2), h2.kept hk (fun k hs hM => ((h5 _ (hS _ hs)).2.1 hM).elim) (fun hs => (h5 _ (hS _ hs)).2.1 h2.hm), h3, h4, h5, h6⟩
def SepQ (Gs : Nat → Prop) (w : World) (Bo base tb tm : Nat) (X : Nat → Prop) (out : List Rec) (T : Tab) (v : Value) (e : Ending) (w' : World) : Prop := e = .returned v ∧ Sep Gs w' Bo base tb tm X out T ∧ Kept (one tm) w w'
theorem Sep.get (h : Sep Gs w Bo base tb tm X out T) (k : Int) : Calls Tryz.prog 60 #[.pointer (some ⟨tb, 0, none⟩), .int .i64 k] w (GetQ w T k) := by
  obtain ⟨A, M, h1, h2, h3, h4⟩ := h
  exact get_any M tb tm T k w h2
theorem Sep.put (h : Sep Gs w Bo base tb tm X out T) (hX : ∀ k, X k → k < w.heap.size) (k : Int) (c : Cell) (v : Value) (hk : R64 k) (hc1 : R64 c.1) (hc2 : ∀ x ∈ c.2, R64 x) (hlen : c.2.length ≤ 17592186044416) (hr : Reads w 1 v (ints c.2)) :
    Calls Tryz.prog 112 #[.pointer (some ⟨tb, 0, none⟩), .int .i64 k, .agg #[.int .i64 c.1, v]] w (SepQ Gs w Bo base tb tm X out (putT T k c) (.int .i64 (putE T k c.2.length))) := by
  obtain ⟨A, M, h1, h2, h3, h4, h5, h6⟩ := h
  have hm := h2.hm
  have hlt := h1.lt
  refine (put_any (fun j => M j ∨ w.heap.size ≤ j) tb tm T k c v w (h2.mono (fun j h _ => .inl h)) (fun j h => .inr h) hk hc1 hc2 hlen hr).mono ?_
  rintro e w' ⟨rfl, t, k1⟩
  refine ⟨rfl, ⟨fun j => A j ∧ j < w.heap.size, _, ?_, t, ?_, ?_, ?_, ?_⟩, k1⟩
  · refine (h1.mono (A' := fun k => base ≤ k ∧ A k ∧ k < w.heap.size) (fun k h hl => ⟨h.1, h.2, hl⟩)).kept k1 (fun e => h4 (by unfold one at e; rw [e]; exact hm)) (fun k h e => h3 k h.2.1 (by unfold one at e; rw [e]; exact hm))
  · rintro j ⟨a, b⟩ (c | c)
    · exact h3 j a c
    · omega
  · rintro (c | c)
    · exact h4 c
    · omega
  · intro j hj
    refine ⟨fun a => (h5 j hj).1 a.1, ?_, (h5 j hj).2.2⟩
    rintro (a | a)
    · exact (h5 j hj).2.1 a
    · have := hX j hj; omega
  · rintro j (c | c)
    · exact h6 j c
    · right; omega
theorem Sep.drop (h : Sep Gs w Bo base tb tm X out T) (k : Int) : Calls Tryz.prog 114 #[.pointer (some ⟨tb, 0, none⟩), .int .i64 k] w (SepQ Gs w Bo base tb tm X out (tdrop k T) (.bool (tget T k).isSome)) := by
  obtain ⟨A, M, h1, h2, h3, h4, h5, h6⟩ := h
  have hm := h2.hm
  refine (drop_any M tb tm T k w h2).mono ?_
  rintro e w' ⟨rfl, t, k1⟩
  exact ⟨rfl, ⟨A, M, h1.kept k1 (fun e => h4 (by unfold one at e; rw [e]; exact hm)) (fun k h e => h3 k h.2 (by unfold one at e; rw [e]; exact hm)), t, h3, h4, h5, h6⟩, k1⟩
def SepGoesQ (Gs : Nat → Prop) (w : World) (Bo base tb tm : Nat) (out : List Rec) (T : Tab) (e : Ending) (w' : World) : Prop :=
  e = .returned (.tuple #[]) ∧ Sep Gs w' Bo base tb tm none' out T ∧ Kept (fun k => k = Bo ∨ base ≤ k) w w'
theorem Sep.goes (h : Sep Gs w Bo base tb tm X out T) (r : Rec) (hb : base ≤ w.heap.size) (hlen : out.length ≤ 1073741824) :
    Calls Tryz.prog 104 #[recV r, .pointer (some ⟨Bo, 0, none⟩)] w (SepGoesQ Gs w Bo base tb tm (out ++ [r]) T) := by
  obtain ⟨A, M, h1, h2, h3, h4, _, h6⟩ := h
  have hlt := h1.lt
  refine (goes_any r out Bo base (fun k => base ≤ k ∧ (A k ∨ w.heap.size ≤ k)) w (h1.mono (fun k h _ => ⟨h.1, .inl h.2⟩)) hb (fun k hk => ⟨Nat.le_trans hb hk, .inr hk⟩) hlen).mono ?_
  rintro e w' ⟨rfl, o, k1⟩
  have t : TabAt w (fun j => M j ∧ j < w.heap.size) tb tm T := h2.mono (fun j h hl => ⟨h, hl⟩)
  have dis : ∀ k, (k = Bo ∨ base ≤ k ∧ (A k ∨ w.heap.size ≤ k)) → M k ∧ k < w.heap.size → False := by
    rintro k (rfl | ⟨_, a | a⟩) ⟨b, c⟩
    · exact h4 b
    · exact h3 k a b
    · omega
  refine ⟨rfl, ⟨_, _, o, t.kept k1 (fun k hS hM _ _ _ _ => (dis k hS hM).elim) (fun hS => dis _ hS t.hm), ?_, fun h => h4 h.1, fun _ h => h.elim, fun k h => h6 k h.1⟩, k1.mono (fun k _ h => by rcases h with h | h; exact .inl h; exact .inr h.1)⟩
  rintro k (a | a) ⟨b, c⟩
  · exact h3 k a b
  · omega
theorem Sep.notCells (h : Sep Gs w Bo base tb tm X out T) : ∀ c E f, w.heap[tm]? ≠ some (.cells c E f) := by
  obtain ⟨A, M, h1, h2, h3, h4⟩ := h
  obtain ⟨l, hl, _⟩ := h2.map
  obtain ⟨L, cl, hL, _⟩ := hl
  intro c E f e
  rw [hL.heap] at e; cases e
end
/-- The state in which the closures that know a table are called. -/
structure TbSt (Gs : Nat → Prop) (w0 w : World) (Bn Bi Bo Bg Bp base tb tm : Nat) (na : Array Value) (nd : Nod) (v : Value) (L out : List Rec) (T : Tab) : Prop where
  st : DoSt (one tm) w0 w Bn Bi Bo Bg base na nd v L out
  ptr : w.heap[Bp]? = some (.cells #[.pointer (some ⟨tb, 0, none⟩)] 43 (0, 0))
  lop : w0.heap.size ≤ Bp ∧ Bp < base ∧ Bp ≠ Bo ∧ tm < w0.heap.size
  sep : Sep Gs w Bo base tb tm none' out T
def TbStQ (Gs : Nat → Prop) (w0 : World) (Bn Bi Bo Bg Bp base tb tm : Nat) (na : Array Value) (nd : Nod) (v : Value) (L out : List Rec) (T : Tab) (e : Ending) (w' : World) : Prop :=
  e = .returned (.tuple #[]) ∧ TbSt Gs w0 w' Bn Bi Bo Bg Bp base tb tm na nd v L out T
theorem TbSt.next {Gs : Nat → Prop} {w0 w w' : World} {Bn Bi Bo Bg Bp base tb tm : Nat} {na : Array Value} {nd : Nod} {v : Value} {L out out' : List Rec} {T T' : Tab} (h : TbSt Gs w0 w Bn Bi Bo Bg Bp base tb tm na nd v L out T)
    {S' : Nat → Prop} (hk : Kept S' w w') (hS : ∀ k, S' k → k = Bo ∨ base ≤ k ∨ k = tm) (hs : Sep Gs w' Bo base tb tm none' out' T') : TbSt Gs w0 w' Bn Bi Bo Bg Bp base tb tm na nd v L out' T' := by
  obtain ⟨l1, l2, l3, l4⟩ := h.lop
  refine ⟨h.st.next hk (fun k hk => by rcases hS k hk with e | e | e; exact .inl e; exact .inr (.inl e); exact .inr (.inr e)) hs.row, hk.heap h.ptr (fun hk => ?_), h.lop, hs⟩
  rcases hS _ hk with e | e | e <;> omega
theorem TbSt.alloc {Gs : Nat → Prop} {w0 w : World} {Bn Bi Bo Bg Bp base tb tm : Nat} {na : Array Value} {nd : Nod} {v : Value} {L out : List Rec} {T : Tab} (h : TbSt Gs w0 w Bn Bi Bo Bg Bp base tb tm na nd v L out T) (o : Obj) :
    TbSt Gs w0 (w.alloc o) Bn Bi Bo Bg Bp base tb tm na nd v L out T :=
  h.next ((Kept.refl none' w).alloc o) (fun _ h => h.elim) (h.sep.pure ((Kept.refl none' w).alloc o))
theorem cellOf_ok {T : Tab} (h : TOk T) (k : Int) : COk (cellOf T k) := by
  unfold cellOf
  cases hg : tget T k with
  | none => exact ⟨zero_r64, by simp, by simp⟩
  | some c => exact h.cell _ ((tget_some h.rises).1 hg)
end Go.Proofs.YtglbkodmmogomaaGreatDoor

/-
  What a node makes of records: reduce.
-/
namespace Go.Proofs.YtglbkodmmogomaaGreatDoor
open Go Go.RowKit
attribute [local irreducible] wpL
/-- The pair with the row's end. -/
def redL (T : Tab) (r : Rec) (x : Int) : List Rec := if putE T r.key 0 = 0 then [{ r with val := x }] else []
set_option maxRecDepth 100000 in
set_option maxHeartbeats 2000000 in
theorem clos_reduce {Gs : Nat → Prop} {w0 w : World} {Bn Bi Bo Bg Bp base tb tm : Nat} {na : Array Value} {nd : Nod} {v : Value} {L out : List Rec} {T : Tab} (h : TbSt Gs w0 w Bn Bi Bo Bg Bp base tb tm na nd v L out T) (r : Rec) (hr : RecOk r) (hlen : out.length ≤ 1000000000) :
    Calls Tryz.prog 111 #[recV r, envV (envOf r), .pointer (some ⟨Bp, 0, none⟩), .pointer (some ⟨Bn, 0, none⟩), .pointer (some ⟨Bg, 0, none⟩)] w
      (TbStQ Gs w0 Bn Bi Bo Bg Bp base tb tm na nd v L (out ++ redL T r (exInt nd.x { envOf r with acc := (cellOf T r.key).1 })) (putT T r.key (exInt nd.x { envOf r with acc := (cellOf T r.key).1 }, []))) := by
  obtain ⟨uid, inv, p, cap, hna, hx, hk0, hk1, hn⟩ := h.st.nodAt
  have hnode := h.st.node
  rw [hna] at hnode
  clear hna
  have x0 : w.cell? ⟨Bn, 3, none⟩ = some (.int .u8 nd.x.op) := cells_at hnode rfl
  have x1 : w.cell? ⟨Bn, 4, none⟩ = some (.int .i64 nd.x.n) := cells_at hnode rfl
  have x2 : w.cell? ⟨Bn, 5, none⟩ = some (.slice p nd.x.args.length cap) := cells_at hnode rfl
  have x3 : w.cell? ⟨Bn, 6, none⟩ = some (.int .i64 nd.n) := cells_at hnode rfl
  have g0 : w.cell? ⟨Bg, 0, none⟩ = some (.func (.func 104) #[] #[.pointer (some ⟨Bo, 0, none⟩)]) := cells_at h.st.goes rfl
  have p0 : w.cell? ⟨Bp, 0, none⟩ = some (.pointer (some ⟨tb, 0, none⟩)) := cells_at h.ptr rfl
  obtain ⟨l1, l2, l3, l4⟩ := h.st.lo
  obtain ⟨i1, i2, i3, i4, i5⟩ := h.st.hi
  obtain ⟨lp1, lp2, lp3, lp4⟩ := h.lop
  have hlb : Bn < w.heap.size := by omega
  have hlg : Bg < w.heap.size := by omega
  have hlp : Bp < w.heap.size := by omega
  have H := Lib.hid h
  have HX := Lib.hid hx
  have HR := Lib.hid hr
  clear h hx hr hnode
  go_enter Tryz.func111, Tryz.ntmps111
  go_wp2_with fail
  obtain ⟨W0, hW0⟩ : ∃ W0, (w.alloc (.cells #[.int .i64 r.pos, .int .i64 r.key, .int .i64 r.val] 68)).alloc (.cells #[.int .i64 (envOf r).key, .int .i64 (envOf r).val, .int .i64 (envOf r).acc] 182) = W0 := ⟨_, rfl⟩
  have k0 : Kept none' w W0 := by rw [← hW0]; exact ((Kept.refl _ _).alloc _).alloc _
  have hsz2 : w.heap.size + 2 ≤ W0.heap.size := by rw [← hW0]; simp
  have hB : W0.heap[w.heap.size]? = some (.cells #[.int .i64 r.pos, .int .i64 r.key, .int .i64 r.val] 68 (0, 0)) := by
    rw [← hW0]
    exact ((Kept.refl none' (w.alloc (.cells #[.int .i64 r.pos, .int .i64 r.key, .int .i64 r.val] 68))).alloc _).heap (heap_alloc_new w (.cells #[.int .i64 r.pos, .int .i64 r.key, .int .i64 r.val] 68)) (fun h => h)
  have hE : W0.heap[w.heap.size + 1]? = some (.cells #[.int .i64 (envOf r).key, .int .i64 (envOf r).val, .int .i64 (envOf r).acc] 182 (0, 0)) := by
    rw [← hW0]
    have := heap_alloc_new (w.alloc (.cells #[.int .i64 r.pos, .int .i64 r.key, .int .i64 r.val] 68)) (.cells #[.int .i64 (envOf r).key, .int .i64 (envOf r).val, .int .i64 (envOf r).acc] 182)
    simpa [World.size_alloc] using this
  rw [hW0]
  have c := (H.out.sep.pure k0).get r.key
  (with_reducible refine c.mono ?_)
  clear c
  rintro e W1 ⟨lv, n', rfl, g1, g2, k1⟩
  obtain ⟨la, lc, rfl⟩ := owns_slice g1
  have k2 : Kept none' w W1 := k0.trans k1
  have hB1 := k1.heap hB (fun h => h)
  have hE1 := k1.heap hE (fun h => h)
  have hsz3 : w.heap.size + 2 ≤ W1.heap.size := Nat.le_trans hsz2 k1.size
  have y0 := k2.cell (p := ⟨Bn, 3, none⟩) (fun h => h) x0
  have y1 := k2.cell (p := ⟨Bn, 4, none⟩) (fun h => h) x1
  have y2 := k2.cell (p := ⟨Bn, 5, none⟩) (fun h => h) x2
  have y3 := k2.cell (p := ⟨Bn, 6, none⟩) (fun h => h) x3
  have gg := k2.cell (p := ⟨Bg, 0, none⟩) (fun h => h) g0
  have pp := k2.cell (p := ⟨Bp, 0, none⟩) (fun h => h) p0
  have b0 : W1.cell? ⟨w.heap.size, 0, none⟩ = some (.int .i64 r.pos) := cells_at hB1 rfl
  have b1 : W1.cell? ⟨w.heap.size, 1, none⟩ = some (.int .i64 r.key) := cells_at hB1 rfl
  have b2 : W1.cell? ⟨w.heap.size, 2, none⟩ = some (.int .i64 r.val) := cells_at hB1 rfl
  have e0 : W1.cell? ⟨w.heap.size + 1, 0, none⟩ = some (.int .i64 (envOf r).key) := cells_at hE1 rfl
  have e1 : W1.cell? ⟨w.heap.size + 1, 1, none⟩ = some (.int .i64 (envOf r).val) := cells_at hE1 rfl
  have e2 : W1.cell? ⟨w.heap.size + 1, 2, none⟩ = some (.int .i64 (envOf r).acc) := cells_at hE1 rfl
  have hco := cellOf_ok H.out.sep.ok r.key
  have hcd : (tget T r.key).getD (0, []) = cellOf T r.key := rfl
  rw [hcd] at g1 g2 ⊢
  clear x0 x1 x2 x3 g0 p0 k0 hW0 hB hE
  obtain ⟨acc, hacc⟩ : ∃ acc, (cellOf T r.key).1 = acc := ⟨_, rfl⟩
  have hacc64 : R64 acc := hacc ▸ hco.1
  rw [hacc]
  obtain ⟨env', henv'⟩ : ∃ env' : Env, ({ envOf r with acc := acc } : Env) = env' := ⟨_, rfl⟩
  have eo : EnvOk env' := henv' ▸ ⟨HR.out.key, HR.out.val, hacc64⟩
  have f2 := free_at hE1 2
  have f3 := free_at hB1 2
  have hn1 : Bn ≠ w.heap.size + 1 := by omega
  have hn2 : Bn ≠ W1.heap.size := by omega
  have hn3 : w.heap.size + 1 ≠ W1.heap.size := by omega
  have hl1 : w.heap.size + 1 < W1.heap.size := by omega
  have hl2 : w.heap.size < W1.heap.size := by omega
  have hl3 : Bn < W1.heap.size := by omega
  have K2 := Lib.hid (And.intro k2 (And.intro hB1 hE1))
  have HE' := Lib.hid (And.intro henv' eo)
  have HACC := Lib.hid hacc
  clear g1 g2 k1 k2 hB1 hE1 hacc hco henv' eo hcd
  go_wp2_with fail
  obtain ⟨Wi, hWi⟩ : ∃ Wi, (W1.setCell ⟨w.heap.size + 1, 2, none⟩ (.int .i64 acc)).alloc (.cells #[.int .i64 acc, .slice la n' lc] 109) = Wi := ⟨_, rfl⟩
  rw [hWi]
  have ki : Kept (one (w.heap.size + 1)) W1 Wi := by rw [← hWi]; exact ((Kept.refl (one (w.heap.size + 1)) W1).setCell (p := ⟨w.heap.size + 1, 2, none⟩) (.inl rfl) _).alloc _
  have kwi : Kept none' w Wi := K2.out.1.new ki (fun i hi e => by unfold one at e; omega)
  have c := int_any nd.x _ env' Wi (ExAt.pure kwi HX.out) HE'.out.2
  rw [← HE'.out.1] at c
  refine c.mono ?_
  clear c
  rintro e W2 ⟨rfl, k3⟩
  rw [HE'.out.1]
  have X64 := exInt_r64 HX.out HE'.out.2
  obtain ⟨X, hX⟩ : ∃ X, exInt nd.x env' = X := ⟨_, rfl⟩
  rw [hX] at X64 ⊢
  have hB2 := k3.heap (ki.heap K2.out.2.1 (fun e => by unfold one at e; omega)) (fun h => h)
  have kw2 : Kept none' w W2 := kwi.trans k3
  have q0 : W2.cell? ⟨w.heap.size, 0, none⟩ = some (.int .i64 r.pos) := cells_at hB2 rfl
  have q1 : W2.cell? ⟨w.heap.size, 1, none⟩ = some (.int .i64 r.key) := cells_at hB2 rfl
  have q2 : W2.cell? ⟨w.heap.size, 2, none⟩ = some (.int .i64 r.val) := cells_at hB2 rfl
  have q3 := free_at hB2 2
  have q4 : W2.cell? ⟨Bp, 0, none⟩ = some (.pointer (some ⟨tb, 0, none⟩)) := cells_at (kw2.heap H.out.ptr (fun h => h)) rfl
  have hp1 : Bp ≠ w.heap.size := by omega
  have K4 := Lib.hid (And.intro kw2 (And.intro hB2 X64))
  have HXX := Lib.hid hX
  clear k3 ki kwi hB2 kw2 hWi X64 hX y0 y1 y2 y3 b0 b1 b2 e0 e1 e2 f2 f3 gg pp
  go_wp2_with fail
  have kp : Kept none' w (W2.setCell ⟨w.heap.size, 2, none⟩ (.int .i64 X)) := K4.out.1.setCell (p := ⟨w.heap.size, 2, none⟩) (.inr (Nat.le_refl _)) _
  have c := (H.out.sep.pure kp).put (fun _ h => h.elim) r.key (X, []) (.slice none 0 0) HR.out.key K4.out.2.2 (by simp) (by simp) (Reads.nil _ _)
  refine c.mono ?_
  clear c
  rintro e W3 ⟨rfl, s3, k4⟩
  have hB3 := k4.heap (set_at K4.out.2.1 2 (.int .i64 X)) (fun e => by unfold one at e; omega)
  have t0 : W3.cell? ⟨w.heap.size, 0, none⟩ = some (.int .i64 r.pos) := cells_at hB3 rfl
  have t1 : W3.cell? ⟨w.heap.size, 1, none⟩ = some (.int .i64 r.key) := cells_at hB3 rfl
  have t2 : W3.cell? ⟨w.heap.size, 2, none⟩ = some (.int .i64 X) := cells_at hB3 rfl
  have t3 : W3.cell? ⟨Bg, 0, none⟩ = some (.func (.func 104) #[] #[.pointer (some ⟨Bo, 0, none⟩)]) := cells_at (k4.heap (kp.heap H.out.st.goes (fun h => h)) (fun e => by unfold one at e; omega)) rfl
  have kk : Kept (one tm) w W3 := kp.pure.trans k4
  have S3 := Lib.hid (And.intro s3 kk)
  clear s3 kk k4 kp hB3
  by_cases hp : putE T r.key 0 = 0
  · have HP := Lib.hid hp
    rw [show putE T r.key ((X, ([] : List Int)) : Int × List Int).2.length = 0 from hp]
    clear hp
    go_wp2_with fail
    have c := S3.out.1.goes { r with val := X } (Nat.le_trans i5 S3.out.2.size) (by omega)
    refine c.mono ?_
    clear c
    rintro e W4 ⟨rfl, s4, k5⟩
    have F : TbStQ Gs w0 Bn Bi Bo Bg Bp base tb tm na nd v L (out ++ redL T r X) (putT T r.key (X, [])) (.returned (.tuple #[])) W4 := by
      refine ⟨rfl, H.out.next (S' := fun k => (k = Bo ∨ base ≤ k) ∨ k = tm) ((S3.out.2.mono (fun k _ e => .inr e)).trans (k5.mono (fun k _ h => .inl h))) (fun k h => by rcases h with (h | h) | h; exact .inl h; exact .inr (.inl h); exact .inr (.inr h)) ?_⟩
      unfold redL
      rw [if_pos HP.out]
      exact s4
    have F' := Lib.hid F
    clear F s4 k5
    go_wp2_with fail
    go_end0
    rw [HACC.out, HE'.out.1, HXX.out]
    exact F'.out
  · have F : TbStQ Gs w0 Bn Bi Bo Bg Bp base tb tm na nd v L (out ++ redL T r X) (putT T r.key (X, [])) (.returned (.tuple #[])) W3 := by
      refine ⟨rfl, H.out.next (S' := one tm) S3.out.2 (fun k h => .inr (.inr h)) ?_⟩
      unfold redL
      rw [if_neg hp, List.append_nil]
      exact S3.out.1
    have F' := Lib.hid F
    obtain ⟨E, hE⟩ : ∃ E, putE T r.key ((X, ([] : List Int)) : Int × List Int).2.length = E := ⟨_, rfl⟩
    have hE0 : (E == 0) = false := by
      rw [← hE]
      have : putE T r.key ((X, ([] : List Int)) : Int × List Int).2.length = putE T r.key 0 := rfl
      rw [this]; simp [hp]
    rw [hE]
    clear F hp hE
    go_wp2_with fail
    go_end0
    rw [HACC.out, HE'.out.1, HXX.out]
    exact F'.out
end Go.Proofs.YtglbkodmmogomaaGreatDoor
/-
  What a node makes of records: window.
-/
namespace Go.Proofs.YtglbkodmmogomaaGreatDoor
open Go Go.RowKit
attribute [local irreducible] wpL
def winB (T : Tab) (key n : Int) (len : Nat) : Prop := putE T key len ≠ 0 ∨ ((len : Nat) : Int) < n
instance (T : Tab) (key n : Int) (len : Nat) : Decidable (winB T key n len) := by unfold winB; exact inferInstance
def winL (T : Tab) (r : Rec) (n : Int) (l : List Int) : List Rec := if winB T r.key n l.length then [] else [{ r with val := sumW l }]
def winT (T : Tab) (r : Rec) (n acc : Int) (l : List Int) : Tab := if winB T r.key n l.length then putT T r.key (acc, l) else tdrop r.key (putT T r.key (acc, l))
theorem sumW_snoc {l : List Int} {k : Nat} {x : Int} (h : l[k]? = some x) : sumW (l.take (k + 1)) = wrap64 (sumW (l.take k) + x) := by
  unfold sumW; rw [List.take_add_one, h, List.foldl_append]; rfl
theorem sumW_r64 (l : List Int) : R64 (sumW l) := by
  unfold sumW
  rcases List.eq_nil_or_concat l with rfl | ⟨m, x, rfl⟩
  · exact zero_r64
  · rw [List.concat_eq_append, List.foldl_append]; exact wrap_r64 _
theorem own_ne {w : World} {base e size n t E : Nat} {v : Value} {xs : List Value} {f : Nat × Nat} {cs : Array Value} (h : w.ownsRow base e size v n xs) (ht : w.heap[t]? = some (.cells cs E f)) (hne : E ≠ e) : ∀ k, Value.blk v = some k → k ≠ t := by
  intro k hk ek
  rcases h.2 with ⟨e', _⟩ | ⟨g, cap', cur, e', _, hg, _⟩
  · rw [e'] at hk; simp [Value.blk] at hk
  · rw [e'] at hk
    by_cases hn : n = 0
    · simp [Value.blk, hn] at hk
    · simp [Value.blk, hn] at hk
      subst ek
      rw [← hk, hg] at ht
      injection ht with ht
      injection ht with _ ht _
      exact hne ht.symm
theorem ints_append (l m : List Int) : ints (l ++ m) = ints l ++ ints m := by unfold ints; rw [List.map_append]
set_option maxRecDepth 100000 in
set_option maxHeartbeats 2000000 in
theorem clos_window {Gs : Nat → Prop} {w0 w : World} {Bn Bi Bo Bg Bp base tb tm : Nat} {na : Array Value} {nd : Nod} {v : Value} {L out : List Rec} {T : Tab} (h : TbSt Gs w0 w Bn Bi Bo Bg Bp base tb tm na nd v L out T) (r : Rec) (hr : RecOk r) (hlen : out.length ≤ 1000000000) :
    Calls Tryz.prog 113 #[recV r, envV (envOf r), .pointer (some ⟨Bp, 0, none⟩), .pointer (some ⟨Bn, 0, none⟩), .pointer (some ⟨Bg, 0, none⟩)] w
      (TbStQ Gs w0 Bn Bi Bo Bg Bp base tb tm na nd v L (out ++ winL T r nd.n ((cellOf T r.key).2 ++ [r.val])) (winT T r nd.n (cellOf T r.key).1 ((cellOf T r.key).2 ++ [r.val]))) := by
  obtain ⟨uid, inv, p, cap, hna, hx, hk0, hk1, hn⟩ := h.st.nodAt
  have hnode := h.st.node
  rw [hna] at hnode
  clear hna
  have x0 : w.cell? ⟨Bn, 3, none⟩ = some (.int .u8 nd.x.op) := cells_at hnode rfl
  have x1 : w.cell? ⟨Bn, 4, none⟩ = some (.int .i64 nd.x.n) := cells_at hnode rfl
  have x2 : w.cell? ⟨Bn, 5, none⟩ = some (.slice p nd.x.args.length cap) := cells_at hnode rfl
  have x3 : w.cell? ⟨Bn, 6, none⟩ = some (.int .i64 nd.n) := cells_at hnode rfl
  have g0 : w.cell? ⟨Bg, 0, none⟩ = some (.func (.func 104) #[] #[.pointer (some ⟨Bo, 0, none⟩)]) := cells_at h.st.goes rfl
  have p0 : w.cell? ⟨Bp, 0, none⟩ = some (.pointer (some ⟨tb, 0, none⟩)) := cells_at h.ptr rfl
  obtain ⟨l1, l2, l3, l4⟩ := h.st.lo
  obtain ⟨i1, i2, i3, i4, i5⟩ := h.st.hi
  obtain ⟨lp1, lp2, lp3, lp4⟩ := h.lop
  have hlb : Bn < w.heap.size := by omega
  have hlg : Bg < w.heap.size := by omega
  have hlp : Bp < w.heap.size := by omega
  have H := Lib.hid h
  have HX := Lib.hid hx
  have HR := Lib.hid hr
  clear h hx hr hnode
  go_enter Tryz.func113, Tryz.ntmps113
  go_wp2_with fail
  obtain ⟨W0, hW0⟩ : ∃ W0, (w.alloc (.cells #[.int .i64 r.pos, .int .i64 r.key, .int .i64 r.val] 68)).alloc (.cells #[.int .i64 (envOf r).key, .int .i64 (envOf r).val, .int .i64 (envOf r).acc] 182) = W0 := ⟨_, rfl⟩
  have k0 : Kept none' w W0 := by rw [← hW0]; exact ((Kept.refl _ _).alloc _).alloc _
  have hsz2 : w.heap.size + 2 ≤ W0.heap.size := by rw [← hW0]; simp
  have hB : W0.heap[w.heap.size]? = some (.cells #[.int .i64 r.pos, .int .i64 r.key, .int .i64 r.val] 68 (0, 0)) := by
    rw [← hW0]
    exact ((Kept.refl none' (w.alloc (.cells #[.int .i64 r.pos, .int .i64 r.key, .int .i64 r.val] 68))).alloc _).heap (heap_alloc_new w (.cells #[.int .i64 r.pos, .int .i64 r.key, .int .i64 r.val] 68)) (fun h => h)
  have hE : W0.heap[w.heap.size + 1]? = some (.cells #[.int .i64 (envOf r).key, .int .i64 (envOf r).val, .int .i64 (envOf r).acc] 182 (0, 0)) := by
    rw [← hW0]
    have := heap_alloc_new (w.alloc (.cells #[.int .i64 r.pos, .int .i64 r.key, .int .i64 r.val] 68)) (.cells #[.int .i64 (envOf r).key, .int .i64 (envOf r).val, .int .i64 (envOf r).acc] 182)
    simpa [World.size_alloc] using this
  rw [hW0]
  have c := (H.out.sep.pure k0).get r.key
  (with_reducible refine c.mono ?_)
  clear c
  rintro e W1 ⟨lv, n', rfl, g1, g2, k1⟩
  obtain ⟨la, lc, rfl⟩ := owns_slice g1
  have k2 : Kept none' w W1 := k0.trans k1
  have hB1 := k1.heap hB (fun h => h)
  have hE1 := k1.heap hE (fun h => h)
  have hsz3 : w.heap.size + 2 ≤ W1.heap.size := Nat.le_trans hsz2 k1.size
  have y0 := k2.cell (p := ⟨Bn, 3, none⟩) (fun h => h) x0
  have y1 := k2.cell (p := ⟨Bn, 4, none⟩) (fun h => h) x1
  have y2 := k2.cell (p := ⟨Bn, 5, none⟩) (fun h => h) x2
  have y3 := k2.cell (p := ⟨Bn, 6, none⟩) (fun h => h) x3
  have gg := k2.cell (p := ⟨Bg, 0, none⟩) (fun h => h) g0
  have pp := k2.cell (p := ⟨Bp, 0, none⟩) (fun h => h) p0
  have b0 : W1.cell? ⟨w.heap.size, 0, none⟩ = some (.int .i64 r.pos) := cells_at hB1 rfl
  have b1 : W1.cell? ⟨w.heap.size, 1, none⟩ = some (.int .i64 r.key) := cells_at hB1 rfl
  have b2 : W1.cell? ⟨w.heap.size, 2, none⟩ = some (.int .i64 r.val) := cells_at hB1 rfl
  have e0 : W1.cell? ⟨w.heap.size + 1, 0, none⟩ = some (.int .i64 (envOf r).key) := cells_at hE1 rfl
  have e1 : W1.cell? ⟨w.heap.size + 1, 1, none⟩ = some (.int .i64 (envOf r).val) := cells_at hE1 rfl
  have e2 : W1.cell? ⟨w.heap.size + 1, 2, none⟩ = some (.int .i64 (envOf r).acc) := cells_at hE1 rfl
  have hco := cellOf_ok H.out.sep.ok r.key
  have hlw := g1.lt
  have hcd : (tget T r.key).getD (0, []) = cellOf T r.key := rfl
  rw [hcd] at g1 g2 ⊢
  clear x0 x1 x2 x3 g0 p0 k0 hW0 hB hE
  obtain ⟨acc, hacc⟩ : ∃ acc, (cellOf T r.key).1 = acc := ⟨_, rfl⟩
  obtain ⟨old, hold⟩ : ∃ old, (cellOf T r.key).2 = old := ⟨_, rfl⟩
  have hacc64 : R64 acc := hacc ▸ hco.1
  have hold64 : ∀ x ∈ old, R64 x := hold ▸ hco.2.1
  have hold16 : old.length ≤ 16 := hold ▸ hco.2.2
  rw [hold] at g1
  rw [hacc]
  obtain ⟨l, hl⟩ : ∃ l, old ++ [r.val] = l := ⟨_, rfl⟩
  have hl17 : l.length ≤ 17 := by rw [← hl]; simp; omega
  have hl64 : ∀ x ∈ l, R64 x := by
    intro x hx
    rw [← hl] at hx
    rcases List.mem_append.1 hx with hx | hx
    · exact hold64 x hx
    · simp at hx; subst hx; exact HR.out.val
  obtain ⟨i, z, hi, hz, hs, hby, hzs⟩ : ∃ i z, Tryz.prog.info? 2 = some i ∧ i.zero = some z ∧ i.size = 1 ∧ i.bytes = 8 ∧ z.cells.size = 1 := by
    obtain ⟨i, h1, h2, h3, h4⟩ := info_parts Tryz.info2
    exact ⟨i, _, h1, h2, h3, h4, rfl⟩
  obtain ⟨Wa, hWa⟩ : ∃ Wa, (W1.alloc (.cells #[.int .i64 acc, .slice la n' lc] 109)).alloc (.cells #[.int .i64 r.val] 2) = Wa := ⟨_, rfl⟩
  have ka : Kept none' W1 Wa := by rw [← hWa]; exact ((Kept.refl _ _).alloc _).alloc _
  have hC : Wa.heap[W1.heap.size]? = some (.cells #[.int .i64 acc, .slice la n' lc] 109 (0, 0)) := by
    rw [← hWa]
    exact ((Kept.refl none' (W1.alloc (.cells #[.int .i64 acc, .slice la n' lc] 109))).alloc _).heap (heap_alloc_new W1 (.cells #[.int .i64 acc, .slice la n' lc] 109)) (fun h => h)
  have hrd : Reads Wa 1 (.slice (some ⟨W1.heap.size + 1, 0, none⟩) 1 1) (ints [r.val]) := by
    have := Reads.lit (W1.alloc (.cells #[.int .i64 acc, .slice la n' lc] 109)) (ints [r.val]) 2 1 1 rfl (by unfold maxLen; omega)
    rw [World.size_alloc] at this
    rw [← hWa]; exact this
  have g1a := ka.owns g1 (fun _ _ h => h)
  have hn17 : n' ≤ 16 := by have := g1.1; simp at this; omega
  obtain ⟨v', n2, w', a1, a2, a3, a4, a5⟩ := run_append_reads (P := Tryz.prog) _ 97 97 2 i z 1 8 Tryz.underlying97 hi hz hs hby hzs (by omega) g1a hrd (ints_one [r.val]) (by simp; omega) (by unfold maxLen; simp; omega) (Nat.le_trans k1.size ka.size)
  rw [← ints_append, hl] at a2
  obtain ⟨va, vc, rfl⟩ := owns_slice a2
  have hn2 : n2 = l.length := by have := a2.1; simp at this; omega
  subst hn2
  have hown : ∀ k, (Value.slice la n' lc).ownBlock = some k → W0.heap.size ≤ k ∧ k < W1.heap.size := fun k hk => hlw k hk
  have kw' : Kept none' w w' := k2.new (ka.pure.trans (Kept.grown (S := fun k => W0.heap.size ≤ k ∧ k < W1.heap.size) a4 (fun k hk _ => hown k hk))) (fun i hi h => by omega)
  have hB2 : w'.heap[w.heap.size]? = _ := (a4.block w.heap.size (by have := ka.size; omega) (fun e => by have := hown _ e.symm; omega)).trans (ka.heap hB1 (fun h => h))
  have hC2 : w'.heap[W1.heap.size]? = _ := (a4.block W1.heap.size (by have := (Array.getElem?_eq_some_iff.1 hC).1; omega) (fun e => by have := hown _ e.symm; omega)).trans hC
  have hrow := Reads.of_owns a2
  have hrne := own_ne a2 hC2 (by omega)
  have hrne2 := own_ne a2 hB2 (by omega)
  have A1 := Lib.hid a1
  rw [← hWa] at A1
  have hc1 : w'.cell? ⟨W1.heap.size, 1, none⟩ = some (.slice la n' lc) := cells_at hC2 rfl
  have hc0 : w'.cell? ⟨W1.heap.size, 0, none⟩ = some (.int .i64 acc) := cells_at hC2 rfl
  have fc1 := free_at hC2 1
  have hq0 : w'.cell? ⟨w.heap.size, 0, none⟩ = some (.int .i64 r.pos) := cells_at hB2 rfl
  have hq1 : w'.cell? ⟨w.heap.size, 1, none⟩ = some (.int .i64 r.key) := cells_at hB2 rfl
  have hq2 : w'.cell? ⟨w.heap.size, 2, none⟩ = some (.int .i64 r.val) := cells_at hB2 rfl
  have hp0 : w'.cell? ⟨Bp, 0, none⟩ = some (.pointer (some ⟨tb, 0, none⟩)) := cells_at (kw'.heap H.out.ptr (fun h => h)) rfl
  have hpne : Bp ≠ W1.heap.size := by omega
  have hsne : w.heap.size ≠ W1.heap.size := by omega
  have kst : Kept (one W1.heap.size) w' (w'.setCell ⟨W1.heap.size, 1, none⟩ (.slice va l.length vc)) := (Kept.refl (one W1.heap.size) w').setCell (p := ⟨W1.heap.size, 1, none⟩) (.inl rfl) _
  have hC3 := set_at hC2 1 (.slice va l.length vc)
  have hB3 := kst.heap hB2 (fun e => by unfold one at e; omega)
  have hrow3 := hrow.kept kst (fun b hb e => hrne b hb e)
  have kw3 : Kept none' w (w'.setCell ⟨W1.heap.size, 1, none⟩ (.slice va l.length vc)) := kw'.new kst (fun i hi e => by unfold one at e; omega)
  have K3 := Lib.hid (And.intro kw3 (And.intro hB3 (And.intro hC3 (And.intro hrow3 (And.intro hrne hrne2)))))
  have HL := Lib.hid (And.intro hl64 (And.intro hacc64 hl17))
  have HEQ := Lib.hid (And.intro hacc (And.intro hold hl))
  clear a1 a2 a3 a4 a5 hC hrd g1a hn17 hown kw' hB2 hC2 hrow hrne hrne2 kst hC3 hB3 hrow3 kw3 hl64 hacc64 hl17 hacc hold hl hold64 hold16 hco hcd g1 g2 hlw hWa ka hi hz hs hby hzs k1 k2 hB1 hE1 e0 e1 e2 gg y0 y1 y2 b0 b1 y3
  have hlt1 : w.heap.size < W1.heap.size := by omega
  go_wp2_with (at_builtin; refine wpList_append_run rfl (.tmp 19) (.tmp 22) 97 rfl _ _ _ rfl rfl A1.out ?_)
  obtain ⟨Wp, hWp⟩ : ∃ Wp, w'.setCell ⟨W1.heap.size, 1, none⟩ (.slice va l.length vc) = Wp := ⟨_, rfl⟩
  rw [hWp] at K3 ⊢
  have c := (H.out.sep.enter K3.out.1 (Y := one w.heap.size) (fun k e => by unfold one at e; omega)).put (fun k e => by unfold one at e; have := (Array.getElem?_eq_some_iff.1 K3.out.2.1).1; omega) r.key (acc, l) (.slice va l.length vc) HR.out.key HL.out.2.1 HL.out.1 (by have := HL.out.2.2; simp; omega) K3.out.2.2.2.1
  (with_reducible refine c.mono ?_)
  clear c
  rintro e W3 ⟨rfl, s3, k4⟩
  have kW3 : Kept (one tm) w W3 := K3.out.1.pure.trans k4
  have hB4 := k4.heap K3.out.2.1 (fun e => by unfold one at e; omega)
  have hC4 := k4.heap K3.out.2.2.1 (fun e => by unfold one at e; omega)
  have t0 : W3.cell? ⟨w.heap.size, 0, none⟩ = some (.int .i64 r.pos) := cells_at hB4 rfl
  have t1 : W3.cell? ⟨w.heap.size, 1, none⟩ = some (.int .i64 r.key) := cells_at hB4 rfl
  have t2 : W3.cell? ⟨w.heap.size, 2, none⟩ = some (.int .i64 r.val) := cells_at hB4 rfl
  have t3 : W3.cell? ⟨W1.heap.size, 1, none⟩ = some (.slice va l.length vc) := cells_at hC4 rfl
  obtain ⟨uid, inv, p', cap', hna, _, _, _, _⟩ := H.out.st.nodAt
  have hnode := H.out.st.node
  rw [hna] at hnode
  have t4 : W3.cell? ⟨Bn, 6, none⟩ = some (.int .i64 nd.n) := cells_at (kW3.heap hnode (fun e => by unfold one at e; omega)) rfl
  have t5 : W3.cell? ⟨Bp, 0, none⟩ = some (.pointer (some ⟨tb, 0, none⟩)) := cells_at (kW3.heap H.out.ptr (fun e => by unfold one at e; omega)) rfl
  have S3 := Lib.hid (And.intro s3 (And.intro kW3 (And.intro hB4 (And.intro hC4 k4))))
  have HWp := Lib.hid hWp
  clear s3 kW3 hB4 hC4 k4 hna hnode hc0 hc1 fc1 hq0 hq1 hq2 hp0 hWp b2
  have fin0 : winB T r.key nd.n l.length → TbStQ Gs w0 Bn Bi Bo Bg Bp base tb tm na nd v L (out ++ winL T r nd.n l) (winT T r nd.n acc l) (.returned (.tuple #[])) W3 := by
    intro hw
    refine ⟨rfl, H.out.next (S' := one tm) S3.out.2.1 (fun k h => .inr (.inr h)) ?_⟩
    unfold winL winT
    rw [if_pos hw, if_pos hw, List.append_nil]
    exact S3.out.1.leave
  have F0 := Lib.hid fin0
  clear fin0
  by_cases hp : putE T r.key l.length = 0
  · rw [show putE T r.key ((acc, l) : Int × List Int).2.length = 0 from hp]
    by_cases hn0 : ((l.length : Nat) : Int) < nd.n
    · have hn1 : decide (((l.length : Nat) : Int) < nd.n) = true := decide_eq_true hn0
      have F := Lib.hid (F0.out (.inr hn0))
      clear F0 hp
      go_wp2_with fail
      go_end0
      rw [HEQ.out.1, HEQ.out.2.1, HEQ.out.2.2]
      exact F.out
    · have hn1 : decide (((l.length : Nat) : Int) < nd.n) = false := decide_eq_false hn0
      have hnb : ¬ winB T r.key nd.n l.length := by rintro (h | h); exact h hp; exact hn0 h
      have HNB := Lib.hid hnb
      clear hnb F0 hp
      go_wp2_with fail
      have c := S3.out.1.drop r.key
      (with_reducible refine c.mono ?_)
      clear c
      rintro e W4 ⟨rfl, s4, k5⟩
      have kW4 : Kept (one tm) w W4 := S3.out.2.1.trans k5
      have hB5 := k5.heap S3.out.2.2.1 (fun e => by unfold one at e; omega)
      have hC5 := k5.heap S3.out.2.2.2.1 (fun e => by unfold one at e; omega)
      have hrow5 : Reads W4 1 (.slice va l.length vc) (ints l) := K3.out.2.2.2.1.kept (S3.out.2.2.2.2.trans k5) (fun b hb e => by
        unfold one at e
        obtain ⟨c, E, f, hc⟩ := K3.out.2.2.2.1.isCells (by omega) hb
        rw [e] at hc
        exact (H.out.sep.pure K3.out.1).notCells _ _ _ hc)
      obtain ⟨ra, rc, re, rc1, rc2, rcell⟩ := hrow5.at
      have hfz := free_at hB5 2
      have hs2 : W4.cell? ⟨w.heap.size, 2, none⟩ = some (.int .i64 r.val) := cells_at hB5 rfl
      have hs5 : W4.cell? ⟨W1.heap.size, 1, none⟩ = some (.slice va l.length vc) := cells_at hC5 rfl
      have kz : Kept (one w.heap.size) W4 (W4.setCell ⟨w.heap.size, 2, none⟩ (.int .i64 0)) := (Kept.refl (one w.heap.size) W4).setCell (p := ⟨w.heap.size, 2, none⟩) (.inl rfl) _
      have hz5 := set_at hB5 2 (.int .i64 0)
      have G := Lib.hid (And.intro s4 (And.intro kW4 (And.intro hrow5 (And.intro kz hz5))))
      have HRC := Lib.hid (And.intro re rcell)
      clear s4 kW4 hB5 hC5 hrow5 k5 kz hz5 re rcell t0 t1 t2 t3 t4 t5
      go_wp2_with fail
      obtain ⟨W5, hW5⟩ : ∃ W5, W4.setCell ⟨w.heap.size, 2, none⟩ (.int .i64 0) = W5 := ⟨_, rfl⟩
      rw [hW5] at G ⊢
      clear hW5 hfz hs2 hs5
      go_loopg [47] l.length (fun g vi wr => ∃ k : Nat, k ≤ l.length ∧ vi = .int .i64 (k : Int) ∧ l.length - k ≤ g ∧ wr.heap[w.heap.size]? = some (.cells #[.int .i64 r.pos, .int .i64 r.key, .int .i64 (sumW (l.take k))] 68 (0, 0)) ∧ Kept (one w.heap.size) W4 wr)
      case atStart => exact ⟨0, by omega, rfl, by omega, by simpa [sumW] using G.out.2.2.2.2, G.out.2.2.2.1⟩
      case round =>
        obtain ⟨k, hkl, rfl, hg, hrow, hkp⟩ := hrel
        have u0 : wr.cell? ⟨w.heap.size, 0, none⟩ = some (.int .i64 r.pos) := cells_at hrow rfl
        have u1 : wr.cell? ⟨w.heap.size, 1, none⟩ = some (.int .i64 r.key) := cells_at hrow rfl
        have u2 : wr.cell? ⟨w.heap.size, 2, none⟩ = some (.int .i64 (sumW (l.take k))) := cells_at hrow rfl
        have u3 := free_at hrow 2
        have hrd : Reads wr 1 (.slice va l.length vc) (ints l) := G.out.2.2.1.kept hkp (fun b hb e => K3.out.2.2.2.2.2 b hb e)
        by_cases hlt : k < l.length
        · obtain ⟨x, hx⟩ : ∃ x, l[k]? = some x := ⟨_, List.getElem?_eq_getElem hlt⟩
          obtain ⟨ra', rc', re', _, _, rcell'⟩ := hrd.at
          cases re'
          obtain ⟨b, off, rfl, hcl⟩ := rcell'.resolve_left (fun h => by rw [h] at hx; cases hx)
          have hxc := hcl k x hx
          have hst := set_at hrow 2 (.int .i64 (sumW (l.take (k + 1))))
          rw [sumW_snoc hx] at hst
          have ks2 : Kept (one w.heap.size) W4 (wr.setCell ⟨w.heap.size, 2, none⟩ (.int .i64 (wrap64 (sumW (l.take k) + x)))) := hkp.setCell (p := ⟨w.heap.size, 2, none⟩) (.inl rfl) _
          have Z := Lib.hid (And.intro hg (And.intro hst (And.intro ks2 (sumW_snoc hx))))
          have s64 := sumW_r64 (l.take k)
          obtain ⟨sm1, sm2⟩ := s64
          obtain ⟨sk, hsk⟩ : ∃ sk, sumW (l.take k) = sk := ⟨_, rfl⟩
          rw [hsk] at u2 sm1 sm2 Z
          have hk17 : k < 17 := by have := HL.out.2.2; omega
          have x64 := HL.out.1 x (List.mem_of_getElem? hx)
          clear hsk hst ks2 hcl rcell' hrd hrow hkp hg hx u0 u1
          go_wp2_with fail
          go_roundg (l.length - (k + 1))
          case rel => exact ⟨k + 1, by omega, by go_num, Nat.le_refl _, by rw [Z.out.2.2.2]; exact Z.out.2.1, Z.out.2.2.1⟩
          case measure => have := Z.out.1; omega
        · have hkk : k = l.length := by omega
          subst hkk
          rw [List.take_of_length_le (Nat.le_refl _)] at u2
          have u4 : wr.cell? ⟨Bg, 0, none⟩ = some (.func (.func 104) #[] #[.pointer (some ⟨Bo, 0, none⟩)]) := cells_at (hkp.heap (G.out.2.1.heap H.out.st.goes (fun e => by unfold one at e; omega)) (fun e => by unfold one at e; omega)) rfl
          have kall : Kept (one tm) w wr := G.out.2.1.new hkp (fun i hi e => by unfold one at e; omega)
          have sall : Sep Gs wr Bo base tb tm none' out (tdrop r.key (putT T r.key (acc, l))) := (G.out.1.foreign hkp (fun k e => e)).leave
          have Z := Lib.hid (And.intro kall sall)
          clear kall sall hrd hrow hkp hg
          go_wp2_with fail
          have c := Z.out.2.goes { r with val := sumW l } (Nat.le_trans i5 Z.out.1.size) (by omega)
          refine c.mono ?_
          clear c
          rintro e W6 ⟨rfl, s6, k6⟩
          have F : TbStQ Gs w0 Bn Bi Bo Bg Bp base tb tm na nd v L (out ++ winL T r nd.n l) (winT T r nd.n acc l) (.returned (.tuple #[])) W6 := by
            refine ⟨rfl, H.out.next (S' := fun k => (k = Bo ∨ base ≤ k) ∨ k = tm) ((Z.out.1.mono (fun k _ e => .inr e)).trans (k6.mono (fun k _ h => .inl h))) (fun k h => by rcases h with (h | h) | h; exact .inl h; exact .inr (.inl h); exact .inr (.inr h)) ?_⟩
            unfold winL winT
            rw [if_neg HNB.out, if_neg HNB.out]
            exact s6
          have F' := Lib.hid F
          clear F s6 k6
          go_wp2_with fail
          go_end0
          rw [HEQ.out.1, HEQ.out.2.1, HEQ.out.2.2]
          exact F'.out
  · have F := Lib.hid (F0.out (.inl hp))
    obtain ⟨E, hE⟩ : ∃ E, putE T r.key ((acc, l) : Int × List Int).2.length = E := ⟨_, rfl⟩
    have hE0 : (E != 0) = true := by
      rw [← hE]
      have : putE T r.key ((acc, l) : Int × List Int).2.length = putE T r.key l.length := rfl
      rw [this]; simp [hp]
    rw [hE]
    clear F0 hp hE
    go_wp2_with fail
    go_end0
    rw [HEQ.out.1, HEQ.out.2.1, HEQ.out.2.2]
    exact F.out
end Go.Proofs.YtglbkodmmogomaaGreatDoor
