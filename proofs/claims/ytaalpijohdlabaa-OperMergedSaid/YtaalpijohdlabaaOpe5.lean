/-
  What a node makes of records: reduce.
-/
import Derived.Test.YtaalpijohdlabaaOpe4
namespace Go.Proofs.Ytaalpijohdlabaa
open Go Go.RowKit
attribute [local irreducible] wpL
/-- The pair with the row's end. -/
def redL (T : Tab) (r : Rec) (x : Int) : List Rec := if putE T r.key 0 = 0 then [{ r with val := x }] else []
set_option maxRecDepth 100000 in
set_option maxHeartbeats 2000000 in
theorem clos_reduce {w0 w : World} {Bn Bi Bo Bg Bp base tb tm : Nat} {na : Array Value} {nd : Nod} {v : Value} {L out : List Rec} {T : Tab} (h : TbSt w0 w Bn Bi Bo Bg Bp base tb tm na nd v L out T) (r : Rec) (hr : RecOk r) (hlen : out.length ≤ 1000000000) :
    Calls Try.prog 70 #[recV r, envV (envOf r), .pointer (some ⟨Bp, 0, none⟩), .pointer (some ⟨Bn, 0, none⟩), .pointer (some ⟨Bg, 0, none⟩)] w
      (TbStQ w0 Bn Bi Bo Bg Bp base tb tm na nd v L (out ++ redL T r (exInt nd.x { envOf r with acc := (cellOf T r.key).1 })) (putT T r.key (exInt nd.x { envOf r with acc := (cellOf T r.key).1 }, []))) := by
  obtain ⟨uid, inv, p, cap, hna, hx, hk0, hk1, hn⟩ := h.st.nodAt
  have hnode := h.st.node
  rw [hna] at hnode
  clear hna
  have x0 : w.cell? ⟨Bn, 3, none⟩ = some (.int .u8 nd.x.op) := cells_at hnode rfl
  have x1 : w.cell? ⟨Bn, 4, none⟩ = some (.int .i64 nd.x.n) := cells_at hnode rfl
  have x2 : w.cell? ⟨Bn, 5, none⟩ = some (.slice p nd.x.args.length cap) := cells_at hnode rfl
  have x3 : w.cell? ⟨Bn, 6, none⟩ = some (.int .i64 nd.n) := cells_at hnode rfl
  have g0 : w.cell? ⟨Bg, 0, none⟩ = some (.func (.func 63) #[] #[.pointer (some ⟨Bo, 0, none⟩)]) := cells_at h.st.goes rfl
  have p0 : w.cell? ⟨Bp, 0, none⟩ = some (.pointer (some ⟨tb, 0, none⟩)) := cells_at h.ptr rfl
  obtain ⟨l1, l2, l3, l4⟩ := h.st.lo
  obtain ⟨i1, i2, i3, i4, i5⟩ := h.st.hi
  obtain ⟨lp1, lp2, lp3, lp4⟩ := h.lop
  have hlb : Bn < w.heap.size := by omega
  have hlg : Bg < w.heap.size := by omega
  have hlp : Bp < w.heap.size := by omega
  have H := Lib.hid h
  have HX := Lib.hid hx
  have HR := Lib.hid hr
  clear h hx hr hnode
  go_enter Try.func70, Try.ntmps70
  go_wp2_with fail
  obtain ⟨W0, hW0⟩ : ∃ W0, (w.alloc (.cells #[.int .i64 r.pos, .int .i64 r.key, .int .i64 r.val] 46)).alloc (.cells #[.int .i64 (envOf r).key, .int .i64 (envOf r).val, .int .i64 (envOf r).acc] 102) = W0 := ⟨_, rfl⟩
  have k0 : Kept none' w W0 := by rw [← hW0]; exact ((Kept.refl _ _).alloc _).alloc _
  have hsz2 : w.heap.size + 2 ≤ W0.heap.size := by rw [← hW0]; simp
  have hB : W0.heap[w.heap.size]? = some (.cells #[.int .i64 r.pos, .int .i64 r.key, .int .i64 r.val] 46 (0, 0)) := by
    rw [← hW0]
    exact ((Kept.refl none' (w.alloc (.cells #[.int .i64 r.pos, .int .i64 r.key, .int .i64 r.val] 46))).alloc _).heap (heap_alloc_new w (.cells #[.int .i64 r.pos, .int .i64 r.key, .int .i64 r.val] 46)) (fun h => h)
  have hE : W0.heap[w.heap.size + 1]? = some (.cells #[.int .i64 (envOf r).key, .int .i64 (envOf r).val, .int .i64 (envOf r).acc] 102 (0, 0)) := by
    rw [← hW0]
    have := heap_alloc_new (w.alloc (.cells #[.int .i64 r.pos, .int .i64 r.key, .int .i64 r.val] 46)) (.cells #[.int .i64 (envOf r).key, .int .i64 (envOf r).val, .int .i64 (envOf r).acc] 102)
    simpa [World.size_alloc] using this
  rw [hW0]
  have c := (H.out.sep.pure k0).get r.key
  (with_reducible refine c.mono ?_)
  clear c
  rintro e W1 ⟨lv, n', rfl, g1, g2, k1⟩
  obtain ⟨la, lc, rfl⟩ := owns_slice g1
  have k2 : Kept none' w W1 := k0.trans k1
  have hB1 := k1.heap hB (fun h => h)
  have hE1 := k1.heap hE (fun h => h)
  have hsz3 : w.heap.size + 2 ≤ W1.heap.size := Nat.le_trans hsz2 k1.size
  have y0 := k2.cell (p := ⟨Bn, 3, none⟩) (fun h => h) x0
  have y1 := k2.cell (p := ⟨Bn, 4, none⟩) (fun h => h) x1
  have y2 := k2.cell (p := ⟨Bn, 5, none⟩) (fun h => h) x2
  have y3 := k2.cell (p := ⟨Bn, 6, none⟩) (fun h => h) x3
  have gg := k2.cell (p := ⟨Bg, 0, none⟩) (fun h => h) g0
  have pp := k2.cell (p := ⟨Bp, 0, none⟩) (fun h => h) p0
  have b0 : W1.cell? ⟨w.heap.size, 0, none⟩ = some (.int .i64 r.pos) := cells_at hB1 rfl
  have b1 : W1.cell? ⟨w.heap.size, 1, none⟩ = some (.int .i64 r.key) := cells_at hB1 rfl
  have b2 : W1.cell? ⟨w.heap.size, 2, none⟩ = some (.int .i64 r.val) := cells_at hB1 rfl
  have e0 : W1.cell? ⟨w.heap.size + 1, 0, none⟩ = some (.int .i64 (envOf r).key) := cells_at hE1 rfl
  have e1 : W1.cell? ⟨w.heap.size + 1, 1, none⟩ = some (.int .i64 (envOf r).val) := cells_at hE1 rfl
  have e2 : W1.cell? ⟨w.heap.size + 1, 2, none⟩ = some (.int .i64 (envOf r).acc) := cells_at hE1 rfl
  have hco := cellOf_ok H.out.sep.ok r.key
  have hcd : (tget T r.key).getD (0, []) = cellOf T r.key := rfl
  rw [hcd] at g1 g2 ⊢
  clear x0 x1 x2 x3 g0 p0 k0 hW0 hB hE
  obtain ⟨acc, hacc⟩ : ∃ acc, (cellOf T r.key).1 = acc := ⟨_, rfl⟩
  have hacc64 : R64 acc := hacc ▸ hco.1
  rw [hacc]
  obtain ⟨env', henv'⟩ : ∃ env' : Env, ({ envOf r with acc := acc } : Env) = env' := ⟨_, rfl⟩
  have eo : EnvOk env' := henv' ▸ ⟨HR.out.key, HR.out.val, hacc64⟩
  have f2 := free_at hE1 2
  have f3 := free_at hB1 2
  have hn1 : Bn ≠ w.heap.size + 1 := by omega
  have hn2 : Bn ≠ W1.heap.size := by omega
  have hn3 : w.heap.size + 1 ≠ W1.heap.size := by omega
  have hl1 : w.heap.size + 1 < W1.heap.size := by omega
  have hl2 : w.heap.size < W1.heap.size := by omega
  have hl3 : Bn < W1.heap.size := by omega
  have K2 := Lib.hid (And.intro k2 (And.intro hB1 hE1))
  have HE' := Lib.hid (And.intro henv' eo)
  have HACC := Lib.hid hacc
  clear g1 g2 k1 k2 hB1 hE1 hacc hco henv' eo hcd
  go_wp2_with fail
  obtain ⟨Wi, hWi⟩ : ∃ Wi, (W1.setCell ⟨w.heap.size + 1, 2, none⟩ (.int .i64 acc)).alloc (.cells #[.int .i64 acc, .slice la n' lc] 29) = Wi := ⟨_, rfl⟩
  rw [hWi]
  have ki : Kept (one (w.heap.size + 1)) W1 Wi := by rw [← hWi]; exact ((Kept.refl (one (w.heap.size + 1)) W1).setCell (p := ⟨w.heap.size + 1, 2, none⟩) (.inl rfl) _).alloc _
  have kwi : Kept none' w Wi := K2.out.1.new ki (fun i hi e => by unfold one at e; omega)
  have c := int_any nd.x _ env' Wi (ExAt.pure kwi HX.out) HE'.out.2
  rw [← HE'.out.1] at c
  refine c.mono ?_
  clear c
  rintro e W2 ⟨rfl, k3⟩
  rw [HE'.out.1]
  have X64 := exInt_r64 HX.out HE'.out.2
  obtain ⟨X, hX⟩ : ∃ X, exInt nd.x env' = X := ⟨_, rfl⟩
  rw [hX] at X64 ⊢
  have hB2 := k3.heap (ki.heap K2.out.2.1 (fun e => by unfold one at e; omega)) (fun h => h)
  have kw2 : Kept none' w W2 := kwi.trans k3
  have q0 : W2.cell? ⟨w.heap.size, 0, none⟩ = some (.int .i64 r.pos) := cells_at hB2 rfl
  have q1 : W2.cell? ⟨w.heap.size, 1, none⟩ = some (.int .i64 r.key) := cells_at hB2 rfl
  have q2 : W2.cell? ⟨w.heap.size, 2, none⟩ = some (.int .i64 r.val) := cells_at hB2 rfl
  have q3 := free_at hB2 2
  have q4 : W2.cell? ⟨Bp, 0, none⟩ = some (.pointer (some ⟨tb, 0, none⟩)) := cells_at (kw2.heap H.out.ptr (fun h => h)) rfl
  have hp1 : Bp ≠ w.heap.size := by omega
  have K4 := Lib.hid (And.intro kw2 (And.intro hB2 X64))
  have HXX := Lib.hid hX
  clear k3 ki kwi hB2 kw2 hWi X64 hX y0 y1 y2 y3 b0 b1 b2 e0 e1 e2 f2 f3 gg pp
  go_wp2_with fail
  have kp : Kept none' w (W2.setCell ⟨w.heap.size, 2, none⟩ (.int .i64 X)) := K4.out.1.setCell (p := ⟨w.heap.size, 2, none⟩) (.inr (Nat.le_refl _)) _
  have c := (H.out.sep.pure kp).put (fun _ h => h.elim) r.key (X, []) (.slice none 0 0) HR.out.key K4.out.2.2 (by simp) (by simp) (Reads.nil _ _)
  refine c.mono ?_
  clear c
  rintro e W3 ⟨rfl, s3, k4⟩
  have hB3 := k4.heap (set_at K4.out.2.1 2 (.int .i64 X)) (fun e => by unfold one at e; omega)
  have t0 : W3.cell? ⟨w.heap.size, 0, none⟩ = some (.int .i64 r.pos) := cells_at hB3 rfl
  have t1 : W3.cell? ⟨w.heap.size, 1, none⟩ = some (.int .i64 r.key) := cells_at hB3 rfl
  have t2 : W3.cell? ⟨w.heap.size, 2, none⟩ = some (.int .i64 X) := cells_at hB3 rfl
  have t3 : W3.cell? ⟨Bg, 0, none⟩ = some (.func (.func 63) #[] #[.pointer (some ⟨Bo, 0, none⟩)]) := cells_at (k4.heap (kp.heap H.out.st.goes (fun h => h)) (fun e => by unfold one at e; omega)) rfl
  have kk : Kept (one tm) w W3 := kp.pure.trans k4
  have S3 := Lib.hid (And.intro s3 kk)
  clear s3 kk k4 kp hB3
  by_cases hp : putE T r.key 0 = 0
  · have HP := Lib.hid hp
    rw [show putE T r.key ((X, ([] : List Int)) : Int × List Int).2.length = 0 from hp]
    clear hp
    go_wp2_with fail
    have c := S3.out.1.goes { r with val := X } (Nat.le_trans i5 S3.out.2.size) (by omega)
    refine c.mono ?_
    clear c
    rintro e W4 ⟨rfl, s4, k5⟩
    have F : TbStQ w0 Bn Bi Bo Bg Bp base tb tm na nd v L (out ++ redL T r X) (putT T r.key (X, [])) (.returned (.tuple #[])) W4 := by
      refine ⟨rfl, H.out.next (S' := fun k => (k = Bo ∨ base ≤ k) ∨ k = tm) ((S3.out.2.mono (fun k _ e => .inr e)).trans (k5.mono (fun k _ h => .inl h))) (fun k h => by rcases h with (h | h) | h; exact .inl h; exact .inr (.inl h); exact .inr (.inr h)) ?_⟩
      unfold redL
      rw [if_pos HP.out]
      exact s4
    have F' := Lib.hid F
    clear F s4 k5
    go_wp2_with fail
    go_end0
    rw [HACC.out, HE'.out.1, HXX.out]
    exact F'.out
  · have F : TbStQ w0 Bn Bi Bo Bg Bp base tb tm na nd v L (out ++ redL T r X) (putT T r.key (X, [])) (.returned (.tuple #[])) W3 := by
      refine ⟨rfl, H.out.next (S' := one tm) S3.out.2 (fun k h => .inr (.inr h)) ?_⟩
      unfold redL
      rw [if_neg hp, List.append_nil]
      exact S3.out.1
    have F' := Lib.hid F
    obtain ⟨E, hE⟩ : ∃ E, putE T r.key ((X, ([] : List Int)) : Int × List Int).2.length = E := ⟨_, rfl⟩
    have hE0 : (E == 0) = false := by
      rw [← hE]
      have : putE T r.key ((X, ([] : List Int)) : Int × List Int).2.length = putE T r.key 0 := rfl
      rw [this]; simp [hp]
    rw [hE]
    clear F hp hE
    go_wp2_with fail
    go_end0
    rw [HACC.out, HE'.out.1, HXX.out]
    exact F'.out
end Go.Proofs.Ytaalpijohdlabaa
