/-
  What a node makes of records: the closures that know no table.
-/
import Derived.Test.YtaalpijohdlabaaOpe1
namespace Go.Proofs.Ytaalpijohdlabaa
open Go Go.RowKit
attribute [local irreducible] wpL
structure RecOk (r : Rec) : Prop where
  pos : R64 r.pos
  key : R64 r.key
  val : R64 r.val
theorem envOf_ok {r : Rec} (h : RecOk r) : EnvOk (envOf r) := ⟨h.key, h.val, zero_r64⟩
theorem OutAt.mono {w : World} {Bo base : Nat} {A A' : Nat → Prop} {out : List Rec} (h : OutAt w Bo base A out) (hA : ∀ k, A k → k < w.heap.size → A' k) : OutAt w Bo base A' out := by
  obtain ⟨v, a, b, c⟩ := h
  exact ⟨v, a, b, fun k hk => hA k (c k hk) (owns_own b hk).2⟩
/-- The state in which the closures of Do are called. -/
structure DoSt (S : Nat → Prop) (w0 w : World) (Bn Bi Bo Bg base : Nat) (na : Array Value) (nd : Nod) (v : Value) (L out : List Rec) : Prop where
  free : ∀ k, S k → k < w0.heap.size ∧ ∀ c E f, w0.heap[k]? ≠ some (.cells c E f)
  kept : Kept S w0 w
  node0 : NodAt w0 na nd
  in0 : Reads w0 3 v (recs L)
  recs0 : ∀ r ∈ L, RecOk r
  node : w.heap[Bn]? = some (.cells na 54 (0, 0))
  ins : w.heap[Bi]? = some (.cells #[v] 42 (0, 0))
  goes : w.heap[Bg]? = some (.cells #[.func (.func 63) #[] #[.pointer (some ⟨Bo, 0, none⟩)]] 104 (0, 0))
  out : OutAt w Bo base (fun k => base ≤ k) out
  lo : w0.heap.size ≤ Bn ∧ w0.heap.size ≤ Bi ∧ w0.heap.size ≤ Bg ∧ w0.heap.size ≤ Bo
  hi : Bn < base ∧ Bi < base ∧ Bg < base ∧ Bo < base ∧ base ≤ w.heap.size
  ne : Bn ≠ Bo ∧ Bi ≠ Bo ∧ Bg ≠ Bo
section
variable {S : Nat → Prop} {w0 w w' : World} {Bn Bi Bo Bg base : Nat} {na : Array Value} {nd : Nod} {v : Value} {L out out' : List Rec}
theorem DoSt.nodAt (h : DoSt S w0 w Bn Bi Bo Bg base na nd v L out) : NodAt w na nd := h.node0.kept h.kept (fun k hk => (h.free k hk).2)
theorem DoSt.reads (h : DoSt S w0 w Bn Bi Bo Bg base na nd v L out) : Reads w 3 v (recs L) :=
  h.in0.kept h.kept (fun b hb hs => by obtain ⟨c, E, f, hc⟩ := h.in0.isCells (by omega) hb; exact (h.free b hs).2 c E f hc)
theorem DoSt.next (h : DoSt S w0 w Bn Bi Bo Bg base na nd v L out) {S' : Nat → Prop} (hk : Kept S' w w') (hS : ∀ k, S' k → k = Bo ∨ base ≤ k ∨ S k) (ho : OutAt w' Bo base (fun k => base ≤ k) out') : DoSt S w0 w' Bn Bi Bo Bg base na nd v L out' := by
  obtain ⟨l1, l2, l3, l4⟩ := h.lo
  obtain ⟨i1, i2, i3, i4, i5⟩ := h.hi
  obtain ⟨n1, n2, n3⟩ := h.ne
  have no : ∀ b, w0.heap.size ≤ b → b < base → b ≠ Bo → ¬ S' b := fun b h1 h2 h3 hs => by
    rcases hS b hs with e | e | e
    · exact h3 e
    · omega
    · have := (h.free b e).1; omega
  exact ⟨h.free, h.kept.new hk (fun i hi hs => by rcases hS i hs with e | e | e; omega; omega; exact e), h.node0, h.in0, h.recs0, hk.heap h.node (no _ l1 i1 n1), hk.heap h.ins (no _ l2 i2 n2), hk.heap h.goes (no _ l3 i3 n3), ho, h.lo,
    ⟨i1, i2, i3, i4, Nat.le_trans i5 hk.size⟩, h.ne⟩
theorem DoSt.alloc (h : DoSt S w0 w Bn Bi Bo Bg base na nd v L out) (o : Obj) : DoSt S w0 (w.alloc o) Bn Bi Bo Bg base na nd v L out :=
  h.next ((Kept.refl none' w).alloc o) (fun _ h => h.elim) (h.out.pure ((Kept.refl none' w).alloc o))
end
def DoStQ (S : Nat → Prop) (w0 : World) (Bn Bi Bo Bg base : Nat) (na : Array Value) (nd : Nod) (v : Value) (L out : List Rec) (e : Ending) (w' : World) : Prop :=
  e = .returned (.tuple #[]) ∧ DoSt S w0 w' Bn Bi Bo Bg base na nd v L out

set_option maxRecDepth 100000 in
set_option maxHeartbeats 1000000 in
theorem clos_map {S : Nat → Prop} {w0 w : World} {Bn Bi Bo Bg base : Nat} {na : Array Value} {nd : Nod} {v : Value} {L out : List Rec} (h : DoSt S w0 w Bn Bi Bo Bg base na nd v L out) (r : Rec) (hr : RecOk r) (hlen : out.length ≤ 1073741824) :
    Calls Try.prog 64 #[recV r, envV (envOf r), .pointer (some ⟨Bn, 0, none⟩), .pointer (some ⟨Bg, 0, none⟩)] w (DoStQ S w0 Bn Bi Bo Bg base na nd v L (out ++ [{ r with val := exInt nd.x (envOf r) }])) := by
  obtain ⟨uid, inv, p, cap, hna, hx, hk0, hk1, hn⟩ := h.nodAt
  have hnode := h.node
  rw [hna] at hnode
  clear hna
  have x0 : w.cell? ⟨Bn, 3, none⟩ = some (.int .u8 nd.x.op) := cells_at hnode rfl
  have x1 : w.cell? ⟨Bn, 4, none⟩ = some (.int .i64 nd.x.n) := cells_at hnode rfl
  have x2 : w.cell? ⟨Bn, 5, none⟩ = some (.slice p nd.x.args.length cap) := cells_at hnode rfl
  have g0 : w.cell? ⟨Bg, 0, none⟩ = some (.func (.func 63) #[] #[.pointer (some ⟨Bo, 0, none⟩)]) := cells_at h.goes rfl
  obtain ⟨l1, l2, l3, l4⟩ := h.lo
  obtain ⟨i1, i2, i3, i4, i5⟩ := h.hi
  have hlb : Bn < w.heap.size := by omega
  have hlg : Bg < w.heap.size := by omega
  have H := Lib.hid h
  have HX := Lib.hid hx
  have HR := Lib.hid hr
  clear h hx hr hnode
  go_enter Try.func64, Try.ntmps64
  go_wp2_with fail
  obtain ⟨W0, hW0⟩ : ∃ W0, (w.alloc (.cells #[.int .i64 r.pos, .int .i64 r.key, .int .i64 r.val] 46)).alloc (.cells #[.int .i64 (envOf r).key, .int .i64 (envOf r).val, .int .i64 (envOf r).acc] 102) = W0 := ⟨_, rfl⟩
  have k0 : Kept none' w W0 := by rw [← hW0]; exact ((Kept.refl _ _).alloc _).alloc _
  have hB : W0.heap[w.heap.size]? = some (.cells #[.int .i64 r.pos, .int .i64 r.key, .int .i64 r.val] 46 (0, 0)) := by
    rw [← hW0]
    exact ((Kept.refl none' (w.alloc (.cells #[.int .i64 r.pos, .int .i64 r.key, .int .i64 r.val] 46))).alloc _).heap (heap_alloc_new w (.cells #[.int .i64 r.pos, .int .i64 r.key, .int .i64 r.val] 46)) (fun h => h)
  rw [hW0]
  have c := int_any nd.x _ (envOf r) W0 (ExAt.pure k0 HX.out) (envOf_ok HR.out)
  refine c.mono ?_
  clear c
  rintro e W1 ⟨rfl, k1⟩
  have k2 : Kept none' w W1 := k0.trans k1
  have hB1 := k1.heap hB (fun h => h)
  have b0 : W1.cell? ⟨w.heap.size, 0, none⟩ = some (.int .i64 r.pos) := cells_at hB1 rfl
  have b1 : W1.cell? ⟨w.heap.size, 1, none⟩ = some (.int .i64 r.key) := cells_at hB1 rfl
  have b2 : W1.cell? ⟨w.heap.size, 2, none⟩ = some (.int .i64 r.val) := cells_at hB1 rfl
  have f2 := free_at hB1 2
  have g1 := k2.cell (p := ⟨Bg, 0, none⟩) (fun h => h) g0
  have hbg : Bg ≠ w.heap.size := by omega
  obtain ⟨X, hX⟩ : ∃ X, exInt nd.x (envOf r) = X := ⟨_, rfl⟩
  have ks : Kept (one w.heap.size) W1 (W1.setCell ⟨w.heap.size, 2, none⟩ (.int .i64 X)) := (Kept.refl (one w.heap.size) W1).setCell (p := ⟨w.heap.size, 2, none⟩) (.inl rfl) _
  have hout : OutAt (W1.setCell ⟨w.heap.size, 2, none⟩ (.int .i64 X)) Bo base (fun k => base ≤ k) out :=
    ((((H.out.out.mono (A' := fun k => base ≤ k ∧ k < w.heap.size) (fun k h1 h2 => ⟨h1, h2⟩)).pure k2).kept ks (fun e => by unfold one at e; omega) (fun k h e => by unfold one at e; omega)).mono (fun k h _ => h.1))
  have G := Lib.hid (And.intro k2 (And.intro ks hout))
  have hsz : base ≤ (W1.setCell ⟨w.heap.size, 2, none⟩ (.int .i64 X)).heap.size := Nat.le_trans i5 (Nat.le_trans k2.size ks.size)
  have HSZ := Lib.hid hsz
  clear k0 k1 k2 hB hB1 hW0 x0 x1 x2 g0 ks hout hsz
  rw [hX]
  have HX' := Lib.hid hX
  clear hX
  go_wp2_with fail
  have c := goes_any { r with val := X } out Bo base (fun k => base ≤ k) _ G.out.2.2 HSZ.out (fun k hk => Nat.le_trans HSZ.out hk) hlen
  refine c.mono ?_
  clear c
  rintro e W2 ⟨rfl, o2, k3⟩
  have F : DoStQ S w0 Bn Bi Bo Bg base na nd v L (out ++ [{ r with val := exInt nd.x (envOf r) }]) (.returned (.tuple #[])) W2 := by
    rw [HX'.out]
    refine ⟨rfl, H.out.next (S' := fun k => k = Bo ∨ base ≤ k) (G.out.1.pure.trans ((G.out.2.1.mono (fun k _ e => by unfold one at e; right; omega)).trans k3)) (fun k h => by rcases h with h | h; exact .inl h; exact .inr (.inl h)) o2⟩
  have F' := Lib.hid F
  clear F o2 k3
  go_wp2_with fail
  go_end0
  exact F'.out
set_option maxRecDepth 100000 in
set_option maxHeartbeats 1000000 in
theorem clos_key {S : Nat → Prop} {w0 w : World} {Bn Bi Bo Bg base : Nat} {na : Array Value} {nd : Nod} {v : Value} {L out : List Rec} (h : DoSt S w0 w Bn Bi Bo Bg base na nd v L out) (r : Rec) (hr : RecOk r) (hlen : out.length ≤ 1073741824) :
    Calls Try.prog 66 #[recV r, envV (envOf r), .pointer (some ⟨Bn, 0, none⟩), .pointer (some ⟨Bg, 0, none⟩)] w (DoStQ S w0 Bn Bi Bo Bg base na nd v L (out ++ [{ r with key := exInt nd.x (envOf r) }])) := by
  obtain ⟨uid, inv, p, cap, hna, hx, hk0, hk1, hn⟩ := h.nodAt
  have hnode := h.node
  rw [hna] at hnode
  clear hna
  have x0 : w.cell? ⟨Bn, 3, none⟩ = some (.int .u8 nd.x.op) := cells_at hnode rfl
  have x1 : w.cell? ⟨Bn, 4, none⟩ = some (.int .i64 nd.x.n) := cells_at hnode rfl
  have x2 : w.cell? ⟨Bn, 5, none⟩ = some (.slice p nd.x.args.length cap) := cells_at hnode rfl
  have g0 : w.cell? ⟨Bg, 0, none⟩ = some (.func (.func 63) #[] #[.pointer (some ⟨Bo, 0, none⟩)]) := cells_at h.goes rfl
  obtain ⟨l1, l2, l3, l4⟩ := h.lo
  obtain ⟨i1, i2, i3, i4, i5⟩ := h.hi
  have hlb : Bn < w.heap.size := by omega
  have hlg : Bg < w.heap.size := by omega
  have H := Lib.hid h
  have HX := Lib.hid hx
  have HR := Lib.hid hr
  clear h hx hr hnode
  go_enter Try.func66, Try.ntmps66
  go_wp2_with fail
  obtain ⟨W0, hW0⟩ : ∃ W0, (w.alloc (.cells #[.int .i64 r.pos, .int .i64 r.key, .int .i64 r.val] 46)).alloc (.cells #[.int .i64 (envOf r).key, .int .i64 (envOf r).val, .int .i64 (envOf r).acc] 102) = W0 := ⟨_, rfl⟩
  have k0 : Kept none' w W0 := by rw [← hW0]; exact ((Kept.refl _ _).alloc _).alloc _
  have hB : W0.heap[w.heap.size]? = some (.cells #[.int .i64 r.pos, .int .i64 r.key, .int .i64 r.val] 46 (0, 0)) := by
    rw [← hW0]
    exact ((Kept.refl none' (w.alloc (.cells #[.int .i64 r.pos, .int .i64 r.key, .int .i64 r.val] 46))).alloc _).heap (heap_alloc_new w (.cells #[.int .i64 r.pos, .int .i64 r.key, .int .i64 r.val] 46)) (fun h => h)
  rw [hW0]
  have c := int_any nd.x _ (envOf r) W0 (ExAt.pure k0 HX.out) (envOf_ok HR.out)
  refine c.mono ?_
  clear c
  rintro e W1 ⟨rfl, k1⟩
  have k2 : Kept none' w W1 := k0.trans k1
  have hB1 := k1.heap hB (fun h => h)
  have b0 : W1.cell? ⟨w.heap.size, 0, none⟩ = some (.int .i64 r.pos) := cells_at hB1 rfl
  have b1 : W1.cell? ⟨w.heap.size, 1, none⟩ = some (.int .i64 r.key) := cells_at hB1 rfl
  have b2 : W1.cell? ⟨w.heap.size, 2, none⟩ = some (.int .i64 r.val) := cells_at hB1 rfl
  have f2 := free_at hB1 1
  have g1 := k2.cell (p := ⟨Bg, 0, none⟩) (fun h => h) g0
  have hbg : Bg ≠ w.heap.size := by omega
  obtain ⟨X, hX⟩ : ∃ X, exInt nd.x (envOf r) = X := ⟨_, rfl⟩
  have ks : Kept (one w.heap.size) W1 (W1.setCell ⟨w.heap.size, 1, none⟩ (.int .i64 X)) := (Kept.refl (one w.heap.size) W1).setCell (p := ⟨w.heap.size, 1, none⟩) (.inl rfl) _
  have hout : OutAt (W1.setCell ⟨w.heap.size, 1, none⟩ (.int .i64 X)) Bo base (fun k => base ≤ k) out :=
    ((((H.out.out.mono (A' := fun k => base ≤ k ∧ k < w.heap.size) (fun k h1 h2 => ⟨h1, h2⟩)).pure k2).kept ks (fun e => by unfold one at e; omega) (fun k h e => by unfold one at e; omega)).mono (fun k h _ => h.1))
  have G := Lib.hid (And.intro k2 (And.intro ks hout))
  have hsz : base ≤ (W1.setCell ⟨w.heap.size, 1, none⟩ (.int .i64 X)).heap.size := Nat.le_trans i5 (Nat.le_trans k2.size ks.size)
  have HSZ := Lib.hid hsz
  clear k0 k1 k2 hB hB1 hW0 x0 x1 x2 g0 ks hout hsz
  rw [hX]
  have HX' := Lib.hid hX
  clear hX
  go_wp2_with fail
  have c := goes_any { r with key := X } out Bo base (fun k => base ≤ k) _ G.out.2.2 HSZ.out (fun k hk => Nat.le_trans HSZ.out hk) hlen
  refine c.mono ?_
  clear c
  rintro e W2 ⟨rfl, o2, k3⟩
  have F : DoStQ S w0 Bn Bi Bo Bg base na nd v L (out ++ [{ r with key := exInt nd.x (envOf r) }]) (.returned (.tuple #[])) W2 := by
    rw [HX'.out]
    refine ⟨rfl, H.out.next (S' := fun k => k = Bo ∨ base ≤ k) (G.out.1.pure.trans ((G.out.2.1.mono (fun k _ e => by unfold one at e; right; omega)).trans k3)) (fun k h => by rcases h with h | h; exact .inl h; exact .inr (.inl h)) o2⟩
  have F' := Lib.hid F
  clear F o2 k3
  go_wp2_with fail
  go_end0
  exact F'.out
end Go.Proofs.Ytaalpijohdlabaa
