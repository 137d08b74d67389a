/-
  expr's reader: what is read where no sign stands ahead; the rows of signs; the levels.
-/
import Derived.Test.YtopeleenlcnkkaaGreatDoorM23
set_option linter.unusedVariables false
set_option linter.unusedSimpArgs false
namespace Go.Proofs.YtopeleenlcnkkaaGreatDoor
open Go Go.RowKit
attribute [local irreducible] wpL
/-- An expression in memory, whatever happens to blocks that are not D's. -/
def ExRob (w : World) (D : Nat → Prop) (a : Array Value) (x : Ex) : Prop := ∀ (S : Nat → Prop) (w' : World), Kept S w w' → (∀ k, D k → ¬ S k) → ExAt w' a x
theorem ExRob.at {w : World} {D : Nat → Prop} {a : Array Value} {x : Ex} (h : ExRob w D a x) : ExAt w a x := h none' w (Kept.refl _ _) (fun _ _ h => h)
theorem ExRob.kept {w w' : World} {S D : Nat → Prop} {a : Array Value} {x : Ex} (h : ExRob w D a x) (hk : Kept S w w') (hS : ∀ k, D k → ¬ S k) : ExRob w' D a x := fun S2 w2 h2 hd =>
  h (fun k => S k ∨ S2 k) w2 ((hk.mono (fun _ _ h => .inl h)).trans (h2.mono (fun _ _ h => .inr h))) (fun k hk => by rintro (h | h); exact hS k hk h; exact hd k hk h)
theorem ExRob.leaf (w : World) {op : Int} (h0 : 0 ≤ op) (h1 : op ≤ 255) : ExRob w none' #[.int .u8 op, .int .i64 0, .slice none 0 0] (.mk op 0 []) :=
  fun _ w' _ _ => .mk h0 h1 zero_r64 (Reads.nil w' 3) rfl (by simp)
/-- Two expressions' cells. -/
abbrev exC (x : Ex) (p : Option Addr) (c : Nat) : List Value := [.int .u8 x.op, .int .i64 x.n, .slice p x.args.length c]
theorem ExRob.two {w : World} {D E : Nat → Prop} {x y : Ex} {p q : Option Addr} {c d : Nat} (hx : ExRob w D (exC x p c).toArray x) (hy : ExRob w E (exC y q d).toArray y) {op : Int} (h0 : 0 ≤ op) (h1 : op ≤ 255) :
    ExRob (w.alloc (.cells (exC x p c ++ exC y q d).toArray 95)) (fun k => D k ∨ E k ∨ k = w.heap.size) #[.int .u8 op, .int .i64 0, .slice (some ⟨w.heap.size, 0, none⟩) 2 2] (.mk op 0 [x, y]) := by
  intro S w' hk hS
  have hl := Reads.lit w (exC x p c ++ exC y q d) 95 3 2 rfl (by unfold maxLen; omega)
  have ka : Kept none' w (w.alloc (.cells (exC x p c ++ exC y q d).toArray 95)) := (Kept.refl _ _).alloc _
  have kw : Kept S w w' := ka.pure.trans hk
  refine .mk h0 h1 zero_r64 (hl.kept hk (fun b hb hs => ?_)) rfl (fun i u hu => ?_)
  · have : w.heap.size = b := by simpa [Value.blk] using hb
    exact hS b (.inr (.inr this.symm)) hs
  · match i, hu with
    | 0, hu => cases hu; exact hx S w' kw (fun k hk => hS k (.inl hk))
    | 1, hu => cases hu; exact hy S w' kw (fun k hk => hS k (.inr (.inl hk)))
/-- What a level of the reader answers. -/
def LvQ (w : World) (R : Nat) (e : Int) (x : Ex) (l' : List Tok) (en : Ending) (w' : World) : Prop :=
  ∃ p c D, en = .returned (.agg (exC x p c).toArray) ∧ ExRob w' D (exC x p c).toArray x ∧ (∀ k, D k → w.heap.size ≤ k ∧ k < w'.heap.size) ∧ RdAt w' R l' e ∧ Kept (one R) w w'
def LvC (F : FuncId) (R : Nat) (e : Int) (pl : List Tok → Option (Ex × List Tok)) : Prop :=
  ∀ (w : World) (l l' : List Tok) (x : Ex), RdAt w R l e → pl l = some (x, l') → Calls Tryz.prog F #[.pointer (some ⟨R, 0, none⟩)] w (LvQ w R e x l')
abbrev keyS : ByteArray := ⟨#[107, 101, 121]⟩
abbrev valS : ByteArray := ⟨#[118, 97, 108]⟩
abbrev accS : ByteArray := ⟨#[97, 99, 99]⟩
def leafT (l : List Tok) : Option (Ex × List Tok) :=
  match l with
  | [] => none
  | t :: r => if t.kind = 0 ∨ t.kind = 2 then none else if t.text = keyS then some (.mk 2 0 [], r) else if t.text = valS then some (.mk 3 0 [], r) else if t.text = accS then some (.mk 4 0 [], r) else none
theorem store3 {w : World} {b E : Nat} {x0 x1 x2 : Value} (h : w.heap[b]? = some (.cells #[x0, x1, x2] E (0, 0))) (y0 y1 y2 : Value) :
    (((w.setCell ⟨b, 0, none⟩ y0).setCell ⟨b, 1, none⟩ y1).setCell ⟨b, 2, none⟩ y2).heap[b]? = some (.cells #[y0, y1, y2] E (0, 0)) ∧ Kept (one b) w (((w.setCell ⟨b, 0, none⟩ y0).setCell ⟨b, 1, none⟩ y1).setCell ⟨b, 2, none⟩ y2) := by
  refine ⟨?_, ?_⟩
  · have := set_at (set_at (set_at h 0 y0) 1 y1) 2 y2
    simpa using this
  · exact Kept.setCell (p := ⟨b, 2, none⟩) (Kept.setCell (p := ⟨b, 1, none⟩) (Kept.setCell (p := ⟨b, 0, none⟩) (Kept.refl (one b) _) (.inl rfl) _) (.inl rfl) _) (.inl rfl) _
theorem RdAt.bad {w : World} {R : Nat} {l : List Tok} {e : Int} (h : RdAt w R l e) : w.cell? ⟨R, 2, none⟩ = some (.bool false) := by
  obtain ⟨ta, cap, h1, _⟩ := h.obj
  exact cells_at h1 rfl
theorem RdAt.list {w : World} {R : Nat} {l : List Tok} {e : Int} (h : RdAt w R l e) : ∃ ta cap, w.cell? ⟨R, 0, none⟩ = some (.slice ta l.length cap) := by
  obtain ⟨ta, cap, h1, _⟩ := h.obj
  exact ⟨ta, cap, cells_at h1 rfl⟩
theorem IsQ.no {w w' : World} {R : Nat} {e : Int} {l : List Tok} {s : ByteArray} {en : Ending} (h : IsQ w R e (isT s l) l en w') (hn : isT s l = none) : en = .returned (.bool false) ∧ RdAt w' R l e ∧ Kept (one R) w w' := by
  rw [hn] at h; exact ⟨h.2.1, h.2.2, h.1⟩
theorem IsQ.yes {w w' : World} {R : Nat} {e : Int} {l l' : List Tok} {s : ByteArray} {en : Ending} (h : IsQ w R e (isT s l) l en w') (hn : isT s l = some l') : en = .returned (.bool true) ∧ RdAt w' R l' e ∧ Kept (one R) w w' := by
  rw [hn] at h; exact ⟨h.2.1, h.2.2, h.1⟩
/-- The end of a level that answers a leaf out of its own block. -/
theorem LvQ.leafEnd {w w5 : World} {R : Nat} {e op : Int} {r : List Tok} (h0 : 0 ≤ op) (h1 : op ≤ 255) (hR : R < w.heap.size) (hk : Kept (one R) w w5) (hr : RdAt w5 R r e) {x0 x1 x2 : Value} (hT : w5.heap[w.heap.size]? = some (.cells #[x0, x1, x2] 95 (0, 0))) :
    LvQ w R e (.mk op 0 []) r (.returned (.agg #[.int .u8 op, .int .i64 0, .slice none 0 0])) (((w5.setCell ⟨w.heap.size, 0, none⟩ (.int .u8 op)).setCell ⟨w.heap.size, 1, none⟩ (.int .i64 0)).setCell ⟨w.heap.size, 2, none⟩ (.slice none 0 0)) := by
  obtain ⟨_, k3⟩ := store3 hT (.int .u8 op) (.int .i64 0) (.slice none 0 0)
  exact ⟨none, 0, none', rfl, ExRob.leaf _ h0 h1, fun k h => h.elim, hr.keptS k3 (fun k hk => by unfold one at hk; omega), hk.new k3 (fun i hi hs => by unfold one at hs; omega)⟩
set_option maxRecDepth 100000 in
set_option maxHeartbeats 4000000 in
theorem rone_any (R : Nat) (e : Int) : LvC 237 R e leafT := by
  intro w l l' x h hl
  cases l with
  | nil => cases hl
  | cons t r =>
    unfold leafT at hl
    simp only at hl
    have hk : ¬ (t.kind = 0 ∨ t.kind = 2) := fun h => by rw [if_pos h] at hl; cases hl
    rw [if_neg hk] at hl
    have hlt := h.lt
    have kA : Kept none' w (w.alloc (.cells #[.int .u8 0, .int .i64 0, .slice none 0 0] 95)) := (Kept.refl _ _).alloc _
    have tA : (w.alloc (.cells #[.int .u8 0, .int .i64 0, .slice none 0 0] 95)).heap[w.heap.size]? = some (.cells #[.int .u8 0, .int .i64 0, .slice none 0 0] 95 (0, 0)) := heap_alloc_new _ _
    have cn := next_any R (t :: r) e _ (h.pure kA)
    obtain ⟨tk, tt, tn, ta⟩ := t
    simp only [nextT, tokV] at cn hl hk
    have g0 : (tk == 2) = false := by simp; omega
    have H := Lib.hid (And.intro kA (And.intro tA (And.intro h hlt)))
    clear kA tA h
    go_enter Tryz.func237, Tryz.ntmps237
    go_wp2_with fail
    (with_reducible refine cn.mono ?_)
    clear cn
    rintro e' w2 ⟨rfl, k2⟩
    obtain ⟨W3, hW3⟩ : ∃ W3, w2.alloc (.cells #[.int .u8 tk, .string tt, .int .i64 tn, .int .i64 ta] 279) = W3 := ⟨_, rfl⟩
    have k3 : Kept none' w W3 := by rw [← hW3]; exact (H.out.1.trans k2).alloc _
    have t3 : W3.heap[w.heap.size]? = some (.cells #[.int .u8 0, .int .i64 0, .slice none 0 0] 95 (0, 0)) := by rw [← hW3]; exact ((Kept.refl none' _).alloc _).heap (k2.heap H.out.2.1 (fun h => h)) (fun h => h)
    have n3 : W3.cell? ⟨w2.heap.size, 0, none⟩ = some (.int .u8 tk) := by rw [← hW3]; simp
    have r3 := H.out.2.2.1.pure k3
    have b3 := r3.bad
    have ck := risg_any R (⟨tk, tt, tn, ta⟩ :: r) e keyS W3 r3
    have hl3 := hlt
    have hs3 : w.heap.size < W3.heap.size := (Array.getElem?_eq_some_iff.1 t3).1
    have hs4 : w2.heap.size < W3.heap.size := by rw [← hW3]; simp
    have hR3 : R < W3.heap.size := by omega
    have K3 := Lib.hid (And.intro k3 (And.intro t3 r3))
    clear k3 t3 r3 H k2
    go_wp2_with fail
    have cq := ck

    clear ck
    have KQ := Lib.hid (And.intro (show Kept (one R) w W3 from K3.out.1.pure) K3.out.2.1)
    by_cases e0 : tt = keyS
    · have hy : isT keyS (⟨tk, tt, tn, ta⟩ :: r) = some r := isT_yes (by simp [e0]; omega)
      have hx : x = .mk 2 0 [] ∧ l' = r := by
        rw [if_pos e0] at hl
        injection hl with hl; injection hl with h1 h2; exact ⟨h1.symm, h2.symm⟩
      obtain ⟨rfl, rfl⟩ := hx
      (with_reducible refine cq.mono ?_)
      clear cq
      rintro e' w5 hq
      obtain ⟨rfl, r5, k5⟩ := hq.yes hy
      have t5 := k5.heap KQ.out.2 (fun h => by unfold one at h; omega)
      have f0 := free_at t5 0
      have f1 := free_at t5 1
      have f2 := free_at t5 2
      have z0 := cells_at t5 (j := 0) rfl
      have z1 := cells_at t5 (j := 1) rfl
      have z2 := cells_at t5 (j := 2) rfl
      have F := LvQ.leafEnd (w := w) (R := R) (e := e) (op := 2) (r := l') (by decide) (by decide) hlt (KQ.out.1.trans k5) r5 t5
      have s5 := (store3 t5 (.int .u8 2) (.int .i64 0) (.slice none 0 0)).1
      have hs5 : w.heap.size < w5.heap.size := (Array.getElem?_eq_some_iff.1 t5).1
      clear hq r5 k5 t5 hy hl
      go_wp2_with fail
      obtain ⟨WF, hWF⟩ : ∃ WF, (((w5.setCell ⟨w.heap.size, 0, none⟩ (.int .u8 2)).setCell ⟨w.heap.size, 1, none⟩ (.int .i64 0)).setCell ⟨w.heap.size, 2, none⟩ (.slice none 0 0)) = WF := ⟨_, rfl⟩
      rw [hWF] at s5 F ⊢
      have q0 := cells_at s5 (j := 0) rfl
      have q1 := cells_at s5 (j := 1) rfl
      have q2 := cells_at s5 (j := 2) rfl
      refine bodyPost_ret (v := .agg #[.int .u8 2, .int .i64 0, .slice none 0 0]) (by simp [results, Tryz.results237, go_sem, q0, q1, q2]) rfl F
    · have hn : isT keyS (⟨tk, tt, tn, ta⟩ :: r) = none := isT_no (.inr (.inr e0))
      (with_reducible refine cq.mono ?_)
      clear cq
      rintro e' w6 hq
      obtain ⟨rfl, r5, k5⟩ := hq.no hn
      have kq := KQ.out.1.trans k5
      have t5 := k5.heap KQ.out.2 (fun h => by unfold one at h; omega)
      clear KQ
      have KQ := Lib.hid (And.intro kq t5)
      have cq := risg_any R (⟨tk, tt, tn, ta⟩ :: r) e valS w6 r5
      clear hq kq t5 r5 k5 hn
      go_wp2_with fail
      by_cases e1 : tt = valS
      · have hy : isT valS (⟨tk, tt, tn, ta⟩ :: r) = some r := isT_yes (by simp [e1]; omega)
        have hx : x = .mk 3 0 [] ∧ l' = r := by
          rw [if_neg e0] at hl; rw [if_pos e1] at hl
          injection hl with hl; injection hl with h1 h2; exact ⟨h1.symm, h2.symm⟩
        obtain ⟨rfl, rfl⟩ := hx
        (with_reducible refine cq.mono ?_)
        clear cq
        rintro e' w5 hq
        obtain ⟨rfl, r5, k5⟩ := hq.yes hy
        have t5 := k5.heap KQ.out.2 (fun h => by unfold one at h; omega)
        have f0 := free_at t5 0
        have f1 := free_at t5 1
        have f2 := free_at t5 2
        have z0 := cells_at t5 (j := 0) rfl
        have z1 := cells_at t5 (j := 1) rfl
        have z2 := cells_at t5 (j := 2) rfl
        have F := LvQ.leafEnd (w := w) (R := R) (e := e) (op := 3) (r := l') (by decide) (by decide) hlt (KQ.out.1.trans k5) r5 t5
        have s5 := (store3 t5 (.int .u8 3) (.int .i64 0) (.slice none 0 0)).1
        have hs5 : w.heap.size < w5.heap.size := (Array.getElem?_eq_some_iff.1 t5).1
        clear hq r5 k5 t5 hy hl
        go_wp2_with fail
        obtain ⟨WF, hWF⟩ : ∃ WF, (((w5.setCell ⟨w.heap.size, 0, none⟩ (.int .u8 3)).setCell ⟨w.heap.size, 1, none⟩ (.int .i64 0)).setCell ⟨w.heap.size, 2, none⟩ (.slice none 0 0)) = WF := ⟨_, rfl⟩
        rw [hWF] at s5 F ⊢
        have q0 := cells_at s5 (j := 0) rfl
        have q1 := cells_at s5 (j := 1) rfl
        have q2 := cells_at s5 (j := 2) rfl
        refine bodyPost_ret (v := .agg #[.int .u8 3, .int .i64 0, .slice none 0 0]) (by simp [results, Tryz.results237, go_sem, q0, q1, q2]) rfl F
      · have hn : isT valS (⟨tk, tt, tn, ta⟩ :: r) = none := isT_no (.inr (.inr e1))
        (with_reducible refine cq.mono ?_)
        clear cq
        rintro e' w7 hq
        obtain ⟨rfl, r5, k5⟩ := hq.no hn
        have kq := KQ.out.1.trans k5
        have t5 := k5.heap KQ.out.2 (fun h => by unfold one at h; omega)
        clear KQ
        have KQ := Lib.hid (And.intro kq t5)
        have cq := risg_any R (⟨tk, tt, tn, ta⟩ :: r) e accS w7 r5
        clear hq kq t5 r5 k5 hn
        go_wp2_with fail
        by_cases e2 : tt = accS
        · have hy : isT accS (⟨tk, tt, tn, ta⟩ :: r) = some r := isT_yes (by simp [e2]; omega)
          have hx : x = .mk 4 0 [] ∧ l' = r := by
            rw [if_neg e0] at hl; rw [if_neg e1] at hl; rw [if_pos e2] at hl
            injection hl with hl; injection hl with h1 h2; exact ⟨h1.symm, h2.symm⟩
          obtain ⟨rfl, rfl⟩ := hx
          (with_reducible refine cq.mono ?_)
          clear cq
          rintro e' w5 hq
          obtain ⟨rfl, r5, k5⟩ := hq.yes hy
          have t5 := k5.heap KQ.out.2 (fun h => by unfold one at h; omega)
          have f0 := free_at t5 0
          have f1 := free_at t5 1
          have f2 := free_at t5 2
          have z0 := cells_at t5 (j := 0) rfl
          have z1 := cells_at t5 (j := 1) rfl
          have z2 := cells_at t5 (j := 2) rfl
          have F := LvQ.leafEnd (w := w) (R := R) (e := e) (op := 4) (r := l') (by decide) (by decide) hlt (KQ.out.1.trans k5) r5 t5
          have s5 := (store3 t5 (.int .u8 4) (.int .i64 0) (.slice none 0 0)).1
          have hs5 : w.heap.size < w5.heap.size := (Array.getElem?_eq_some_iff.1 t5).1
          clear hq r5 k5 t5 hy hl
          go_wp2_with fail
          obtain ⟨WF, hWF⟩ : ∃ WF, (((w5.setCell ⟨w.heap.size, 0, none⟩ (.int .u8 4)).setCell ⟨w.heap.size, 1, none⟩ (.int .i64 0)).setCell ⟨w.heap.size, 2, none⟩ (.slice none 0 0)) = WF := ⟨_, rfl⟩
          rw [hWF] at s5 F ⊢
          have q0 := cells_at s5 (j := 0) rfl
          have q1 := cells_at s5 (j := 1) rfl
          have q2 := cells_at s5 (j := 2) rfl
          refine bodyPost_ret (v := .agg #[.int .u8 4, .int .i64 0, .slice none 0 0]) (by simp [results, Tryz.results237, go_sem, q0, q1, q2]) rfl F
        · rw [if_neg e0, if_neg e1, if_neg e2] at hl
          cases hl
end Go.Proofs.YtopeleenlcnkkaaGreatDoor
