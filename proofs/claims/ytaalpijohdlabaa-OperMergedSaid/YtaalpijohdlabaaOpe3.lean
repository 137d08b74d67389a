/-
  What a node makes of records: filter and flat.
-/
import Derived.Test.YtaalpijohdlabaaOpe2
namespace Go.Proofs.Ytaalpijohdlabaa
open Go Go.RowKit
attribute [local irreducible] wpL
def fltL (b : Bool) (r : Rec) : List Rec := if b then [r] else []
theorem flatL_succ (r : Rec) (k : Nat) : flatL r (k + 1) = flatL r k ++ [⟨wrap64 (wrap64 (8 * r.pos) + (k : Int)), r.key, wrap64 (r.val + (k : Int))⟩] := by
  unfold flatL; rw [List.range_succ, List.map_append]; rfl
theorem flatL_length (r : Rec) (k : Nat) : (flatL r k).length = k := by simp [flatL]

set_option maxRecDepth 100000 in
set_option maxHeartbeats 1000000 in
theorem clos_filter {S : Nat → Prop} {w0 w : World} {Bn Bi Bo Bg base : Nat} {na : Array Value} {nd : Nod} {v : Value} {L out : List Rec} (h : DoSt S w0 w Bn Bi Bo Bg base na nd v L out) (r : Rec) (hr : RecOk r) (hlen : out.length ≤ 1000000000) :
    Calls Try.prog 67 #[recV r, envV (envOf r), .pointer (some ⟨Bn, 0, none⟩), .pointer (some ⟨Bg, 0, none⟩)] w (DoStQ S w0 Bn Bi Bo Bg base na nd v L (out ++ fltL (exBool nd.x (envOf r)) r)) := by
  obtain ⟨uid, inv, p, cap, hna, hx, hk0, hk1, hn⟩ := h.nodAt
  have hnode := h.node
  rw [hna] at hnode
  clear hna
  have x0 : w.cell? ⟨Bn, 3, none⟩ = some (.int .u8 nd.x.op) := cells_at hnode rfl
  have x1 : w.cell? ⟨Bn, 4, none⟩ = some (.int .i64 nd.x.n) := cells_at hnode rfl
  have x2 : w.cell? ⟨Bn, 5, none⟩ = some (.slice p nd.x.args.length cap) := cells_at hnode rfl
  have g0 : w.cell? ⟨Bg, 0, none⟩ = some (.func (.func 63) #[] #[.pointer (some ⟨Bo, 0, none⟩)]) := cells_at h.goes rfl
  obtain ⟨l1, l2, l3, l4⟩ := h.lo
  obtain ⟨i1, i2, i3, i4, i5⟩ := h.hi
  have hlb : Bn < w.heap.size := by omega
  have hlg : Bg < w.heap.size := by omega
  have H := Lib.hid h
  have HX := Lib.hid hx
  have HR := Lib.hid hr
  clear h hx hr hnode
  go_enter Try.func67, Try.ntmps67
  go_wp2_with fail
  obtain ⟨W0, hW0⟩ : ∃ W0, (w.alloc (.cells #[.int .i64 r.pos, .int .i64 r.key, .int .i64 r.val] 46)).alloc (.cells #[.int .i64 (envOf r).key, .int .i64 (envOf r).val, .int .i64 (envOf r).acc] 102) = W0 := ⟨_, rfl⟩
  have k0 : Kept none' w W0 := by rw [← hW0]; exact ((Kept.refl _ _).alloc _).alloc _
  have hsz2 : w.heap.size + 1 < W0.heap.size := by rw [← hW0]; simp
  have hB : W0.heap[w.heap.size]? = some (.cells #[.int .i64 r.pos, .int .i64 r.key, .int .i64 r.val] 46 (0, 0)) := by
    rw [← hW0]
    exact ((Kept.refl none' (w.alloc (.cells #[.int .i64 r.pos, .int .i64 r.key, .int .i64 r.val] 46))).alloc _).heap (heap_alloc_new w (.cells #[.int .i64 r.pos, .int .i64 r.key, .int .i64 r.val] 46)) (fun h => h)
  rw [hW0]
  have c := bool_any nd.x _ (envOf r) W0 (ExAt.pure k0 HX.out) (envOf_ok HR.out)
  refine c.mono ?_
  clear c
  rintro e W1 ⟨rfl, k1⟩
  have k2 : Kept none' w W1 := k0.trans k1
  have hB1 := k1.heap hB (fun h => h)
  have b0 : W1.cell? ⟨w.heap.size, 0, none⟩ = some (.int .i64 r.pos) := cells_at hB1 rfl
  have b1 : W1.cell? ⟨w.heap.size, 1, none⟩ = some (.int .i64 r.key) := cells_at hB1 rfl
  have b2 : W1.cell? ⟨w.heap.size, 2, none⟩ = some (.int .i64 r.val) := cells_at hB1 rfl
  have g1 := k2.cell (p := ⟨Bg, 0, none⟩) (fun h => h) g0
  have hbg : Bg ≠ w.heap.size := by omega
  have hout := H.out.out.pure k2
  have hsz : base ≤ W1.heap.size := Nat.le_trans i5 k2.size
  have G := Lib.hid (And.intro k2 hout)
  clear k0 k1 k2 hB hB1 hW0 x0 x1 x2 g0 hout hsz2
  cases hb : exBool nd.x (envOf r) with
  | false =>
    have F : DoStQ S w0 Bn Bi Bo Bg base na nd v L (out ++ fltL false r) (.returned (.tuple #[])) W1 := by
      refine ⟨rfl, H.out.next (S' := none') G.out.1 (fun k h => h.elim) ?_⟩
      show OutAt W1 Bo base (fun k => base ≤ k) (out ++ [])
      rw [List.append_nil]; exact G.out.2
    have F' := Lib.hid F
    have HBB := Lib.hid hb
    clear F hb
    go_wp2_with fail
    go_end0
    rw [HBB.out]
    exact F'.out
  | true =>
    have HBB := Lib.hid hb
    clear hb
    go_wp2_with fail
    have c := goes_any r out Bo base (fun k => base ≤ k) W1 G.out.2 hsz (fun k hk => Nat.le_trans hsz hk) (by omega)
    refine c.mono ?_
    clear c
    rintro e W2 ⟨rfl, o2, k3⟩
    have F : DoStQ S w0 Bn Bi Bo Bg base na nd v L (out ++ fltL true r) (.returned (.tuple #[])) W2 := by
      exact ⟨rfl, H.out.next (S' := fun k => k = Bo ∨ base ≤ k) (G.out.1.pure.trans k3) (fun k h => by rcases h with h | h; exact .inl h; exact .inr (.inl h)) o2⟩
    have F' := Lib.hid F
    clear F o2 k3
    go_wp2_with fail
    go_end0
    rw [HBB.out]
    exact F'.out
set_option maxRecDepth 100000 in
set_option maxHeartbeats 1000000 in
theorem clos_flat {S : Nat → Prop} {w0 w : World} {Bn Bi Bo Bg base : Nat} {na : Array Value} {nd : Nod} {v : Value} {L out : List Rec} (h : DoSt S w0 w Bn Bi Bo Bg base na nd v L out) (r : Rec) (hr : RecOk r) (hlen : out.length ≤ 1000000000) :
    Calls Try.prog 69 #[recV r, envV (envOf r), .pointer (some ⟨Bn, 0, none⟩), .pointer (some ⟨Bg, 0, none⟩)] w (DoStQ S w0 Bn Bi Bo Bg base na nd v L (out ++ flatL r (flatN (exInt nd.x (envOf r))))) := by
  obtain ⟨uid, inv, p, cap, hna, hx, hk0, hk1, hn⟩ := h.nodAt
  have hnode := h.node
  rw [hna] at hnode
  clear hna
  have x0 : w.cell? ⟨Bn, 3, none⟩ = some (.int .u8 nd.x.op) := cells_at hnode rfl
  have x1 : w.cell? ⟨Bn, 4, none⟩ = some (.int .i64 nd.x.n) := cells_at hnode rfl
  have x2 : w.cell? ⟨Bn, 5, none⟩ = some (.slice p nd.x.args.length cap) := cells_at hnode rfl
  have g0 : w.cell? ⟨Bg, 0, none⟩ = some (.func (.func 63) #[] #[.pointer (some ⟨Bo, 0, none⟩)]) := cells_at h.goes rfl
  obtain ⟨l1, l2, l3, l4⟩ := h.lo
  obtain ⟨i1, i2, i3, i4, i5⟩ := h.hi
  have hlb : Bn < w.heap.size := by omega
  have hlg : Bg < w.heap.size := by omega
  have H := Lib.hid h
  have HX := Lib.hid hx
  have HR := Lib.hid hr
  clear h hx hr hnode
  go_enter Try.func69, Try.ntmps69
  go_wp2_with fail
  obtain ⟨W0, hW0⟩ : ∃ W0, (w.alloc (.cells #[.int .i64 r.pos, .int .i64 r.key, .int .i64 r.val] 46)).alloc (.cells #[.int .i64 (envOf r).key, .int .i64 (envOf r).val, .int .i64 (envOf r).acc] 102) = W0 := ⟨_, rfl⟩
  have k0 : Kept none' w W0 := by rw [← hW0]; exact ((Kept.refl _ _).alloc _).alloc _
  have hsz2 : w.heap.size + 1 < W0.heap.size := by rw [← hW0]; simp
  have hB : W0.heap[w.heap.size]? = some (.cells #[.int .i64 r.pos, .int .i64 r.key, .int .i64 r.val] 46 (0, 0)) := by
    rw [← hW0]
    exact ((Kept.refl none' (w.alloc (.cells #[.int .i64 r.pos, .int .i64 r.key, .int .i64 r.val] 46))).alloc _).heap (heap_alloc_new w (.cells #[.int .i64 r.pos, .int .i64 r.key, .int .i64 r.val] 46)) (fun h => h)
  rw [hW0]
  have c := int_any nd.x _ (envOf r) W0 (ExAt.pure k0 HX.out) (envOf_ok HR.out)
  refine c.mono ?_
  clear c
  rintro e W1 ⟨rfl, k1⟩
  have k2 : Kept none' w W1 := k0.trans k1
  have hB1 := k1.heap hB (fun h => h)
  have b0 : W1.cell? ⟨w.heap.size, 0, none⟩ = some (.int .i64 r.pos) := cells_at hB1 rfl
  have b1 : W1.cell? ⟨w.heap.size, 1, none⟩ = some (.int .i64 r.key) := cells_at hB1 rfl
  have b2 : W1.cell? ⟨w.heap.size, 2, none⟩ = some (.int .i64 r.val) := cells_at hB1 rfl
  have g1 := k2.cell (p := ⟨Bg, 0, none⟩) (fun h => h) g0
  have hbg : Bg ≠ w.heap.size := by omega
  have hout : OutAt W1 Bo base (fun k => base ≤ k ∧ k ≠ w.heap.size) out :=
    ((H.out.out.mono (A' := fun k => base ≤ k ∧ k < w.heap.size) (fun k h1 h2 => ⟨h1, h2⟩)).pure k2).mono (fun k h _ => ⟨h.1, by omega⟩)
  have hsz : base ≤ W1.heap.size ∧ w.heap.size < W1.heap.size := ⟨Nat.le_trans i5 k2.size, by have := k1.size; omega⟩
  have hX64 := exInt_r64 HX.out (envOf_ok HR.out)
  obtain ⟨X, hX⟩ : ∃ X, exInt nd.x (envOf r) = X := ⟨_, rfl⟩
  rw [hX] at hX64 ⊢
  have HXX := Lib.hid hX
  obtain ⟨hX1, hX2⟩ := hX64
  have G := Lib.hid (And.intro k2 (And.intro hout (And.intro hsz hB1)))
  clear k0 k1 k2 hB hB1 hW0 x0 x1 x2 g0 hout hsz b0 b1 b2 g1 hX
  have hfN : flatN X ≤ 4 := by unfold flatN; omega
  have hFN := Lib.hid (show flatN X = (min X 4).toNat from rfl)
  go_wp2_with fail
  go_loopg [12] (flatN X) (fun g vi wr => ∃ k : Nat, k ≤ flatN X ∧ vi = .int .i64 (k : Int) ∧ flatN X - k ≤ g ∧ OutAt wr Bo base (fun k => base ≤ k ∧ k ≠ w.heap.size) (out ++ flatL r k) ∧ Kept (fun k => k = Bo ∨ (base ≤ k ∧ k ≠ w.heap.size)) W1 wr)
  case atStart => exact ⟨0, by omega, rfl, by omega, by simpa [flatL] using G.out.2.1, Kept.refl _ _⟩
  case round =>
    obtain ⟨k, hkl, rfl, hg, ho, hkp⟩ := hrel
    have hB2 := hkp.heap G.out.2.2.2 (fun h => by rcases h with h | h; omega; exact h.2 rfl)
    have b0 : wr.cell? ⟨w.heap.size, 0, none⟩ = some (.int .i64 r.pos) := cells_at hB2 rfl
    have b1 : wr.cell? ⟨w.heap.size, 1, none⟩ = some (.int .i64 r.key) := cells_at hB2 rfl
    have b2 : wr.cell? ⟨w.heap.size, 2, none⟩ = some (.int .i64 r.val) := cells_at hB2 rfl
    have g1 : wr.cell? ⟨Bg, 0, none⟩ = some (.func (.func 63) #[] #[.pointer (some ⟨Bo, 0, none⟩)]) := cells_at (hkp.heap (G.out.1.heap H.out.goes (fun h => h)) (fun h => by have := H.out.ne; rcases h with h | h; exact this.2.2 h; omega)) rfl
    have hszr := hkp.size
    have A := Lib.hid (And.intro hg (And.intro ho (And.intro hkp hszr)))
    clear hg ho hkp hB2 hszr
    by_cases hlt : k < flatN X
    · have hlt2 : (k : Int) < min X 4 := by have := hFN.out; omega
      have hlt3 : decide ((k : Int) < min X 4) = true := decide_eq_true hlt2
      have hk4 : k ≤ 4 := by omega
      go_wp2_with fail
      have c := goes_any ⟨wrap64 (wrap64 (8 * r.pos) + (k : Int)), r.key, wrap64 (r.val + (k : Int))⟩ (out ++ flatL r k) Bo base (fun k => base ≤ k ∧ k ≠ w.heap.size) wr A.out.2.1 (Nat.le_trans G.out.2.2.1.1 A.out.2.2.2) (fun k hk => ⟨Nat.le_trans G.out.2.2.1.1 (Nat.le_trans A.out.2.2.2 hk), by have := G.out.2.2.1.2; have := A.out.2.2.2; omega⟩) (by rw [List.length_append, flatL_length]; omega)
      refine c.mono ?_
      clear c
      rintro e W2 ⟨rfl, o2, k3⟩
      rw [List.append_assoc, ← flatL_succ] at o2
      go_wp2_with fail
      go_roundg (flatN X - (k + 1))
      case rel => exact ⟨k + 1, by omega, by go_num, Nat.le_refl _, o2, A.out.2.2.1.trans k3⟩
      case measure => have := A.out.1; omega
    · have hlt2 : ¬ (k : Int) < min X 4 := by have := hFN.out; omega
      have hlt3 : decide ((k : Int) < min X 4) = false := decide_eq_false hlt2
      have hkl : k = flatN X := by omega
      go_wp2_with fail
      go_end0
      rw [HXX.out, ← hkl]
      exact ⟨rfl, H.out.next (S' := fun k => k = Bo ∨ (base ≤ k ∧ k ≠ w.heap.size)) (G.out.1.pure.trans A.out.2.2.1) (fun k h => by rcases h with h | h; exact .inl h; exact .inr (.inl h.1)) (A.out.2.1.mono (fun k h _ => h.1))⟩
end Go.Proofs.Ytaalpijohdlabaa
