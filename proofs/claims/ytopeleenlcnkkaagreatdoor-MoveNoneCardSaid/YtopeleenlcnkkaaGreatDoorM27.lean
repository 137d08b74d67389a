/-
  lex.Tokens.
-/
import Derived.Test.YtopeleenlcnkkaaGreatDoorM26
import Derived.WalkMore
set_option linter.unusedVariables false
set_option linter.unusedSimpArgs false
namespace Go.Proofs.YtopeleenlcnkkaaGreatDoor
open Go Go.RowKit
attribute [local irreducible] wpL
abbrev zeroT : Tok := ⟨0, noneS, 0, 0⟩
abbrev tokC (t : Tok) : List Value := [.int .u8 t.kind, .string t.text, .int .i64 t.n, .int .i64 t.at_]
def toksC (l : List Tok) : List Value := l.flatMap tokC
theorem toksC_snoc (l : List Tok) (t : Tok) : toksC (l ++ [t]) = toksC l ++ tokC t := by unfold toksC; rw [List.flatMap_append]; simp
theorem toksC_get : ∀ {l : List Tok} {i : Nat} {t : Tok}, l[i]? = some t → (toksC l)[i * 4]? = some (.int .u8 t.kind) ∧ (toksC l)[i * 4 + 1]? = some (.string t.text) ∧ (toksC l)[i * 4 + 2]? = some (.int .i64 t.n) ∧ (toksC l)[i * 4 + 3]? = some (.int .i64 t.at_)
  | x :: l, 0, t, h => by
    cases h
    exact ⟨rfl, rfl, rfl, rfl⟩
  | x :: l, i + 1, t, h => by
    have ih := toksC_get (l := l) (i := i) (t := t) (by simpa using h)
    rw [show (i + 1) * 4 = i * 4 + 1 + 1 + 1 + 1 by omega]
    unfold toksC at ih ⊢
    rw [List.flatMap_cons]
    exact ih
def endsL (t : Tok) (out : List Tok) : List Tok := if t.kind = 0 then out else out ++ [t]
theorem Tryz.info279 : ∃ i z, Tryz.prog.info? 279 = some i ∧ i.zero = some z ∧ i.size = 4 ∧ i.bytes = 40 ∧ z.cells.size = 4 := by
  have h : (Tryz.prog.info? 279).map (fun i => (i.zero, i.size, i.bytes)) = some (some (.agg #[.int .u8 0, .string ByteArray.empty, .int .i64 0, .int .i64 0]), 4, 40) := by kernel_rfl
  obtain ⟨i, hi, h⟩ := Option.map_eq_some_iff.1 h
  simp only [Prod.mk.injEq] at h
  exact ⟨i, _, hi, h.1, h.2.1, h.2.2, by rfl⟩
theorem push_tok {w : World} {base n : Nat} {va : Value} {l : List Tok} (h : w.ownsRow base 279 4 va n (toksC l)) (s : Tok) (hb : base ≤ w.heap.size) (hn : n ≤ 100000) :
    ∃ va' w', (Builtin.append_ #[253, 253] 253 #[va, .slice (some ⟨w.heap.size, 0, none⟩) 1 1]).run Tryz.prog (w.alloc (.cells (tokC s).toArray 279)) = .ok va' w' ∧ w'.ownsRow base 279 4 va' (n + 1) (toksC (l ++ [s])) ∧
      Kept (fun q => base ≤ q) w w' ∧ ∃ a c, va' = .slice a (n + 1) c := by
  obtain ⟨i, z, hi, hz, hs, hby, hzs⟩ := Tryz.info279
  have kA : Kept none' w (w.alloc (.cells (tokC s).toArray 279)) := (Kept.refl _ _).alloc _
  have hr := Reads.lit w (tokC s) 279 4 1 rfl (by unfold maxLen; omega)
  have hl : (toksC l).length = n * 4 := h.1
  obtain ⟨v', n', w', b1, b2, b3, b4, _⟩ := run_append_reads (P := Tryz.prog) base 253 253 279 i z 4 40 Tryz.underlying253 hi hz hs hby hzs (by omega) (kA.owns h (fun _ _ h => h)) hr (by intro y hy; simp at hy; rcases hy with rfl | rfl | rfl | rfl <;> rfl)
    (by simp; omega) (by simp; unfold maxLen; omega) (by have := kA.size; omega)
  have hn' : n' = n + 1 := by simp at b3; omega
  subst hn'
  refine ⟨v', w', b1, by rw [toksC_snoc]; exact b2, kA.pure.trans (Kept.grown b4 (fun k hk _ => ownBlk1 h hk)), ?_⟩
  obtain ⟨a, c, e⟩ := owns_slice b2
  exact ⟨a, c, e⟩
/-- Where Tokens stands. -/
structure LxSt (w : World) (Bt Bo base : Nat) (t : Tok) (out : List Tok) : Prop where
  tk : w.heap[Bt]? = some (.cells (tokC t).toArray 279 (0, 0))
  ov : ∃ v, w.heap[Bo]? = some (.cells #[v] 253 (0, 0)) ∧ w.ownsRow base 279 4 v out.length (toksC out)
  ne : Bt ≠ Bo
  b1 : Bt < base
  b2 : Bo < base
  b3 : base ≤ w.heap.size
theorem LxSt.keptS {w w' : World} {S : Nat → Prop} {Bt Bo base : Nat} {t : Tok} {out : List Tok} (h : LxSt w Bt Bo base t out) (hk : Kept S w w') (hS : ∀ k, S k → w.heap.size ≤ k ∨ (k ≠ Bt ∧ k ≠ Bo ∧ k < base)) : LxSt w' Bt Bo base t out := by
  obtain ⟨h1, ⟨v, h2, h3⟩, h4, h5, h6, h7⟩ := h
  have hb := h7
  refine ⟨hk.heap h1 (fun h => by have := hS _ h; omega), ⟨v, hk.heap h2 (fun h => by have := hS _ h; omega), hk.owns h3 (fun k hk' hs => ?_)⟩, h4, h5, h6, Nat.le_trans h7 hk.size⟩
  have := (h3.lt k hk').1
  have := (h3.lt k hk').2
  have := hS k hs
  omega
theorem LxSt.pure {w w' : World} {Bt Bo base : Nat} {t : Tok} {out : List Tok} (h : LxSt w Bt Bo base t out) (hk : Kept none' w w') : LxSt w' Bt Bo base t out := h.keptS hk (fun _ h => h.elim)
theorem store4 {w : World} {b E : Nat} {x0 x1 x2 x3 : Value} (h : w.heap[b]? = some (.cells #[x0, x1, x2, x3] E (0, 0))) (y0 y1 y2 y3 : Value) :
    ((((w.setCell ⟨b, 0, none⟩ y0).setCell ⟨b, 1, none⟩ y1).setCell ⟨b, 2, none⟩ y2).setCell ⟨b, 3, none⟩ y3).heap[b]? = some (.cells #[y0, y1, y2, y3] E (0, 0)) ∧ Kept (one b) w ((((w.setCell ⟨b, 0, none⟩ y0).setCell ⟨b, 1, none⟩ y1).setCell ⟨b, 2, none⟩ y2).setCell ⟨b, 3, none⟩ y3) := by
  refine ⟨?_, ?_⟩
  · have := set_at (set_at (set_at (set_at h 0 y0) 1 y1) 2 y2) 3 y3
    simpa using this
  · exact Kept.setCell (p := ⟨b, 3, none⟩) (Kept.setCell (p := ⟨b, 2, none⟩) (Kept.setCell (p := ⟨b, 1, none⟩) (Kept.setCell (p := ⟨b, 0, none⟩) (Kept.refl (one b) _) (.inl rfl) _) (.inl rfl) _) (.inl rfl) _) (.inl rfl) _
/-- The cell of the token that goes on is laid anew. -/
theorem LxSt.lay {w : World} {Bt Bo base : Nat} {t : Tok} {out : List Tok} (h : LxSt w Bt Bo base t out) (u : Tok) : LxSt ((((w.setCell ⟨Bt, 0, none⟩ (.int .u8 u.kind)).setCell ⟨Bt, 1, none⟩ (.string u.text)).setCell ⟨Bt, 2, none⟩ (.int .i64 u.n)).setCell ⟨Bt, 3, none⟩ (.int .i64 u.at_)) Bt Bo base u out ∧
    Kept (one Bt) w ((((w.setCell ⟨Bt, 0, none⟩ (.int .u8 u.kind)).setCell ⟨Bt, 1, none⟩ (.string u.text)).setCell ⟨Bt, 2, none⟩ (.int .i64 u.n)).setCell ⟨Bt, 3, none⟩ (.int .i64 u.at_)) := by
  obtain ⟨h1, ⟨v, h2, h3⟩, h4, h5, h6, h7⟩ := h
  obtain ⟨g1, g2⟩ := store4 h1 (.int .u8 u.kind) (.string u.text) (.int .i64 u.n) (.int .i64 u.at_)
  refine ⟨⟨g1, ⟨v, g2.heap h2 (fun e => h4 e.symm), g2.owns h3 (fun k hk hs => ?_)⟩, h4, h5, h6, Nat.le_trans h7 g2.size⟩, g2⟩
  have := (h3.lt k hk).1
  unfold one at hs
  omega
def EndsQ (w : World) (Bt Bo base : Nat) (t : Tok) (out : List Tok) (e : Ending) (w' : World) : Prop := e = .returned (.bool true) ∧ LxSt w' Bt Bo base zeroT (endsL t out) ∧ Kept (fun q => q = Bt ∨ q = Bo ∨ base ≤ q) w w'
set_option maxRecDepth 100000 in
set_option maxHeartbeats 1000000 in
theorem ends_any (Bt Bo base : Nat) (t : Tok) (out : List Tok) (w : World) (h : LxSt w Bt Bo base t out) (ht : t.kind = 0 ∨ t.kind = 1 ∨ t.kind = 3) (ho : out.length ≤ 1000) :
    Calls Tryz.prog 191 #[.pointer (some ⟨Bt, 0, none⟩), .pointer (some ⟨Bo, 0, none⟩)] w (EndsQ w Bt Bo base t out) := by
  have hS := h
  obtain ⟨h1, ⟨v, h2, h3⟩, h4, h5, h6, h7⟩ := h
  have x0 := cells_at h1 (j := 0) rfl
  have x1 := cells_at h1 (j := 1) rfl
  have x2 := cells_at h1 (j := 2) rfl
  have x3 := cells_at h1 (j := 3) rfl
  have f0 := free_at h1 0
  have f1 := free_at h1 1
  have f2 := free_at h1 2
  have f3 := free_at h1 3
  have o0 : w.cell? ⟨Bo, 0, none⟩ = some v := cells_at h2 rfl
  have hBt : Bt < w.heap.size := by omega
  have hBo : Bo < w.heap.size := by omega
  by_cases hk : t.kind = 0
  · have F := hS.lay zeroT
    have FF := Lib.hid (show EndsQ w Bt Bo base t out (.returned (.bool true)) _ from ⟨rfl, by rw [show endsL t out = out from if_pos hk]; exact F.1, F.2.mono (fun k _ h => .inl h)⟩)
    obtain ⟨tk, tt, tn, ta⟩ := t
    simp only at hk
    subst hk
    clear F hS h1 h2 h3
    go_enter Tryz.func191, Tryz.ntmps191
    go_wp2_with fail
    go_ret
    exact FF.out
  · obtain ⟨va, vc, rfl⟩ := owns_slice h3
    obtain ⟨va', w', g1, g2, g3, ⟨a2, c2, rfl⟩⟩ := push_tok h3 t h7 (by omega)
    have o1 := g3.cell (p := ⟨Bo, 0, none⟩) (show ¬ (base ≤ Bo) by omega) o0
    have of := free_at (g3.heap h2 (fun h => by omega)) 0
    have hsz := g3.size
    have hset := set_at (g3.heap h2 (fun h => by omega)) 0 (Value.slice a2 (out.length + 1) c2)
    have ks : Kept (one Bo) w' (w'.setCell ⟨Bo, 0, none⟩ (Value.slice a2 (out.length + 1) c2)) := Kept.setCell (p := ⟨Bo, 0, none⟩) (Kept.refl (one Bo) _) (.inl rfl) _
    have st : LxSt (w'.setCell ⟨Bo, 0, none⟩ (Value.slice a2 (out.length + 1) c2)) Bt Bo base t (out ++ [t]) := by
      refine ⟨ks.heap (g3.heap h1 (fun h => by omega)) h4, ⟨_, hset, ?_⟩, h4, h5, h6, Nat.le_trans h7 (Nat.le_trans g3.size ks.size)⟩
      rw [List.length_append]
      exact ks.owns g2 (fun k hk hs => by have := (g2.lt k hk).1; unfold one at hs; omega)
    have F := st.lay zeroT
    have hks := ks.size
    have y0 := ks.cell (p := ⟨Bt, 0, none⟩) h4 (g3.cell (p := ⟨Bt, 0, none⟩) (show ¬ (base ≤ Bt) by omega) x0)
    have y1 := ks.cell (p := ⟨Bt, 1, none⟩) h4 (g3.cell (p := ⟨Bt, 1, none⟩) (show ¬ (base ≤ Bt) by omega) x1)
    have y2 := ks.cell (p := ⟨Bt, 2, none⟩) h4 (g3.cell (p := ⟨Bt, 2, none⟩) (show ¬ (base ≤ Bt) by omega) x2)
    have y3 := ks.cell (p := ⟨Bt, 3, none⟩) h4 (g3.cell (p := ⟨Bt, 3, none⟩) (show ¬ (base ≤ Bt) by omega) x3)
    have q0 := free_at st.tk 0
    have q1 := free_at st.tk 1
    have q2 := free_at st.tk 2
    have q3 := free_at st.tk 3
    have hBt' : Bt < w'.heap.size := by omega
    have hBo' : Bo < w'.heap.size := by omega
    have FF := Lib.hid (And.intro (show EndsQ w Bt Bo base t out (.returned (.bool true)) _ from ⟨rfl, by rw [show endsL t out = out ++ [t] from if_neg hk]; exact F.1, ((g3.mono (S' := fun q => q = Bt ∨ q = Bo ∨ base ≤ q) (fun k _ h => .inr (.inr h))).new ks (fun i hi hs => .inr (.inl hs))).new F.2 (fun i hi hs => .inl hs)⟩) g1)
    obtain ⟨tk, tt, tn, ta⟩ := t
    simp only at hk ht
    have ht2 : tk = 1 ∨ tk = 3 := by omega
    clear F hS h1 h2 h3 g1 g2 g3 hset ks st hk ht f0 f1 f2 f3
    rcases ht2 with rfl | rfl
    · go_enter Tryz.func191, Tryz.ntmps191
      go_wp2_with (at_builtin; refine wpList_app1 rfl (.tmp 22) (.tmp 24) 253 rfl _ _ _ rfl rfl FF.out.2 ?_)
      go_ret
      exact FF.out.1
    · go_enter Tryz.func191, Tryz.ntmps191
      go_wp2_with (at_builtin; refine wpList_app1 rfl (.tmp 22) (.tmp 24) 253 rfl _ _ _ rfl rfl FF.out.2 ?_)
      go_ret
      exact FF.out.1
/-! ### Tokens -/
structure Lx where
  t : Tok
  out : List Tok
  at_ : Int
def lexStep (s : Lx) (r : Nat) : Lx :=
  if goesT s.t r = true then ⟨{ s.t with text := s.t.text ++ runeS r }, s.out, s.at_ + 1⟩
  else if r = 32 then ⟨zeroT, endsL s.t s.out, s.at_ + 1⟩
  else ⟨⟨kindL r, runeS r, 0, s.at_ + 1⟩, endsL s.t s.out, s.at_ + 1⟩
def lexF (l : List (Nat × Nat)) (s : Lx) : Lx := l.foldl (fun s p => lexStep s p.2) s
def lexP (s : ByteArray) : List Tok := endsL (lexF (runes s) ⟨zeroT, [], -1⟩).t (lexF (runes s) ⟨zeroT, [], -1⟩).out
structure LxOk (s : Lx) (n : Nat) : Prop where
  kind : s.t.kind = 0 ∨ s.t.kind = 1 ∨ s.t.kind = 3
  out : s.out.length ≤ n
  text : s.t.text.size ≤ 4 * n
  at1 : -1 ≤ s.at_
  at2 : s.at_ ≤ n
theorem LxOk.step {s : Lx} {n : Nat} (h : LxOk s n) {r : Nat} (hr : goodR r) : LxOk (lexStep s r) (n + 1) := by
  obtain ⟨h1, h2, h3, h4, h5⟩ := h
  have hsz : (runeS r).size ≤ 4 := by unfold goodR at hr; rcases hr with rfl | rfl | rfl | rfl | rfl | rfl | rfl <;> decide
  have hk : kindL r = 0 ∨ kindL r = 1 ∨ kindL r = 3 := by unfold kindL; split; exact .inr (.inr rfl); split; exact .inl rfl; exact .inr (.inl rfl)
  have he : (endsL s.t s.out).length ≤ n + 1 := by unfold endsL; split; omega; rw [List.length_append]; simp; omega
  unfold lexStep
  split
  · exact ⟨h1, by simp only; omega, by simp only [ByteArray.size_append]; omega, by simp only; omega, by simp only; omega⟩
  · split
    · exact ⟨.inl rfl, he, by simp only; exact Nat.zero_le _, by simp only; omega, by simp only; omega⟩
    · exact ⟨hk, he, by simp only; omega, by simp only; omega, by simp only; omega⟩
def TokensQ (w : World) (l : List Tok) (e : Ending) (w' : World) : Prop := ∃ v, e = .returned (.tuple #[v, .int .i64 0, .int .i64 0]) ∧ w'.ownsRow w.heap.size 279 4 v l.length (toksC l) ∧ Kept none' w w'
theorem LxSt.text {w : World} {Bt Bo base : Nat} {t : Tok} {out : List Tok} (h : LxSt w Bt Bo base t out) (x : ByteArray) : LxSt (w.setCell ⟨Bt, 1, none⟩ (.string x)) Bt Bo base { t with text := x } out ∧ Kept (one Bt) w (w.setCell ⟨Bt, 1, none⟩ (.string x)) := by
  obtain ⟨h1, ⟨v, h2, h3⟩, h4, h5, h6, h7⟩ := h
  have g2 : Kept (one Bt) w (w.setCell ⟨Bt, 1, none⟩ (.string x)) := Kept.setCell (p := ⟨Bt, 1, none⟩) (Kept.refl (one Bt) _) (.inl rfl) _
  refine ⟨⟨by have := set_at h1 1 (Value.string x); simpa using this, ⟨v, g2.heap h2 (fun e => h4 e.symm), g2.owns h3 (fun k hk hs => ?_)⟩, h4, h5, h6, Nat.le_trans h7 g2.size⟩, g2⟩
  have := (h3.lt k hk).1
  unfold one at hs
  omega
theorem lexStep_goes {s : Lx} {r : Nat} (h : goesT s.t r = true) : lexStep s r = ⟨{ s.t with text := s.t.text ++ runeS r }, s.out, s.at_ + 1⟩ := if_pos h
theorem lexStep_blank {s : Lx} {r : Nat} (h : goesT s.t r = false) (h2 : r = 32) : lexStep s r = ⟨zeroT, endsL s.t s.out, s.at_ + 1⟩ := by
  unfold lexStep
  rw [if_neg (by rw [h]; simp), if_pos h2]
theorem lexStep_new {s : Lx} {r : Nat} (h : goesT s.t r = false) (h2 : r ≠ 32) : lexStep s r = ⟨⟨kindL r, runeS r, 0, s.at_ + 1⟩, endsL s.t s.out, s.at_ + 1⟩ := by
  unfold lexStep
  rw [if_neg (by rw [h]; simp), if_neg h2]
set_option maxRecDepth 100000 in
set_option maxHeartbeats 2000000 in
theorem tokens_any (s : ByteArray) (hs : s.size ≤ 400) (hg : ∀ p ∈ runes s, goodR p.2) (w : World) : Calls Tryz.prog 169 #[.string s] w (TokensQ w (lexP s)) := by
  obtain ⟨W0, hW0⟩ : ∃ W0, (w.alloc (.cells #[.slice none 0 0] 253)).alloc (.cells (tokC zeroT).toArray 279) = W0 := ⟨_, rfl⟩
  obtain ⟨w1, hrun, hit, hk0, hs0⟩ := run_range_str (P := Tryz.prog) W0 9 s Tryz.underlying9
  have hlen := runes_length s
  have kw0 : Kept none' w W0 := by rw [← hW0]; exact ((Kept.refl _ _).alloc _).alloc _
  have hsz0 : W0.heap.size = w.heap.size + 2 := by rw [← hW0]; simp
  have st0 : LxSt w1 (w.heap.size + 1) w.heap.size (w.heap.size + 3) zeroT [] := by
    refine ⟨hk0.heap ?_ (fun h => h), ⟨.slice none 0 0, hk0.heap ?_ (fun h => h), World.ownsRow_nil _ _ _ _⟩, by omega, by omega, by omega, by omega⟩
    · rw [← hW0]
      have := heap_alloc_new (w.alloc (.cells #[.slice none 0 0] 253)) (.cells (tokC zeroT).toArray 279)
      rwa [World.size_alloc] at this
    · rw [← hW0]
      exact ((Kept.refl none' _).alloc _).heap (heap_alloc_new w (.cells #[.slice none 0 0] 253)) (fun h => h)
  have hW0' : (w.alloc (.cells #[.slice none 0 0] 253)).alloc (.cells #[.int .u8 0, .string ⟨#[]⟩, .int .i64 0, .int .i64 0] 279) = W0 := hW0
  have hW1 : w1.heap.size = w.heap.size + 3 := by omega
  have H := Lib.hid (And.intro hit (And.intro (kw0.trans hk0) (And.intro st0 (And.intro hg hlen))))
  have HW := Lib.hid hW0'
  rw [hsz0] at hrun
  rw [hsz0] at H
  clear hit hk0 hs0 st0 kw0 hg hW0 hW0' hlen
  have h400 : ¬ ((400 : Int) < (s.size : Int)) := by omega
  go_enter Tryz.func169, Tryz.ntmps169
  go_wp2_with fail
  go_step3
  go_wp2_with fail
  go_step3
  rw [HW.out]
  clear hsz0 HW
  go_wp2
  clear hrun
  go_loopg [8] (runes s).length (fun k va wr => ∃ (left : List (Nat × Nat)) (lx : Lx) (n : Nat), RunAt wr (w.heap.size + 2) s left ∧ left.length = k ∧ n + left.length = (runes s).length ∧ (∀ p ∈ left, goodR p.2) ∧ va = .int .i64 lx.at_ ∧ lexF left lx = lexF (runes s) ⟨zeroT, [], -1⟩ ∧ LxOk lx n ∧
    LxSt wr (w.heap.size + 1) w.heap.size (w.heap.size + 3) lx.t lx.out ∧ Kept none' w wr)
  case atStart => exact ⟨runes s, ⟨zeroT, [], -1⟩, 0, H.out.1, rfl, by omega, H.out.2.2.2.1, rfl, rfl, ⟨.inl rfl, Nat.le_refl _, Nat.le_refl _, by decide, by decide⟩, H.out.2.2.1, H.out.2.1⟩
  case round =>
    obtain ⟨left, lx, n, hit, hk, hnl, hgl, rfl, hlex, hok, hst, hkp⟩ := hrel
    obtain ⟨wo, rfl⟩ : ∃ wo : World, wo = wr := ⟨_, rfl⟩
    have hn400 : n ≤ 400 := by have := H.out.2.2.2.2; omega
    have hwb : w.heap.size + 3 ≤ wo.heap.size := hst.b3
    rcases hit.next (P := Tryz.prog) 0 with ⟨rfl, hrun⟩ | ⟨p, left', w2, hp, hrun, hit2, hk2, hs2⟩
    · have ce := ends_any _ _ _ lx.t lx.out wo hst hok.kind (by have := hok.out; omega)
      have x3 := cells_at hst.tk (j := 3) rfl
      have hend : lexP s = endsL lx.t lx.out := by
        unfold lexP
        rw [← hlex]; rfl
      have HE := Lib.hid (And.intro hend hkp)
      clear hit hk hnl hgl hlex hok hst hkp hend H
      go_wp2_with fail
      (with_reducible refine ce.mono ?_)
      clear ce
      rintro e w4 ⟨rfl, st4, k4⟩
      obtain ⟨v, hv, hown⟩ := st4.ov
      have o0 := cells_at hv (j := 0) rfl
      obtain ⟨va, vc, rfl⟩ := owns_slice hown
      have F := Lib.hid (show TokensQ w (lexP s) (.returned (.tuple #[.slice va (endsL lx.t lx.out).length vc, .int .i64 0, .int .i64 0])) w4 from
        ⟨_, rfl, by rw [HE.out.1]; exact owns_base hown (by omega), HE.out.2.new k4 (fun i hi hs => by omega)⟩)
      clear st4 k4 hv hown
      go_wp2_with fail
      try rw [Exit.noGoto_ret]
      go_ret3
      exact F.out
    · have hr := hgl p (by rw [hp]; simp)
      have hgl' : ∀ q ∈ left', goodR q.2 := fun q hq => hgl q (by rw [hp]; simp [hq])
      have hm : left'.length < gk := by rw [hp] at hk; simp at hk; omega
      have hnl' : n + 1 + left'.length = (runes s).length := by rw [hp] at hnl; simp at hnl; omega
      have hlex' : lexF left' (lexStep lx p.2) = lexF (runes s) ⟨zeroT, [], -1⟩ := by rw [← hlex, hp]; rfl
      have hk3 : Kept none' w w2 := hkp.new hk2 (fun i hi e => by unfold one at e; omega)
      have hst2 : LxSt w2 (w.heap.size + 1) w.heap.size (w.heap.size + 3) lx.t lx.out := hst.keptS hk2 (fun k hk => .inr (by unfold one at hk; omega))
      have cg := lexgoes_any lx.t hok.kind p.2 hr w2
      have x0 := cells_at hst2.tk (j := 0) rfl
      have x1 := cells_at hst2.tk (j := 1) rfl
      have x2 := cells_at hst2.tk (j := 2) rfl
      have x3 := cells_at hst2.tk (j := 3) rfl
      have hat1 := hok.at1
      have hat2 := hok.at2
      have htx := hok.text
      have hb2 : w.heap.size + 3 ≤ w2.heap.size := hst2.b3
      have G := Lib.hid (And.intro hit2 (And.intro hgl' (And.intro hm (And.intro hnl' (And.intro hlex' (And.intro hk3 (And.intro hst2 (And.intro (hok.step hr) (And.intro hr hok)))))))))
      clear hit hk hnl hgl hlex hok hst hkp hit2 hgl' hm hnl' hlex' hk3 hst2 hp hk2 hs2 hr
      have haw : IntKind.i64.wrap (lx.at_ + 1) = lx.at_ + 1 := by rw [IntKind.wrap_i64]; omega
      go_wp2_with fail
      (with_reducible refine cg.mono ?_)
      clear cg
      rintro e w3 ⟨rfl, k3⟩
      have x0 := k3.cell (fun h => h) x0
      have x1 := k3.cell (fun h => h) x1
      have x2 := k3.cell (fun h => h) x2
      have x3 := k3.cell (fun h => h) x3
      have st3 := G.out.2.2.2.2.2.2.1.pure k3
      have f0 := free_at st3.tk 0
      have f1 := free_at st3.tk 1
      have f2 := free_at st3.tk 2
      have f3 := free_at st3.tk 3
      have it3 := G.out.1.kept k3 (fun h => h)
      have kw3 := G.out.2.2.2.2.2.1.trans k3
      have hb3 : w.heap.size + 3 ≤ w3.heap.size := st3.b3
      have hb4 : w.heap.size + 1 < w3.heap.size := by omega
      have hb5 : w.heap.size < w3.heap.size := by omega
      cases hgo : goesT lx.t p.2 with
      | true =>
        have hst := lexStep_goes hgo
        have st4 := st3.text (lx.t.text ++ runeS p.2)
        have Z := Lib.hid (And.intro hst (And.intro st4 (And.intro (kw3.new st4.2 (fun i hi hs => by unfold one at hs; omega)) (it3.kept st4.2 (fun h => by unfold one at h; omega)))))
        have hsz : ((lx.t.text.size : Int) + ((Utf8.encode (p.2 : Int)).size : Int)) ≤ 9223372036854775807 := by
          have h4 : (Utf8.encode (p.2 : Int)).size ≤ 4 := by
            have hr := G.out.2.2.2.2.2.2.2.2.1
            unfold goodR at hr
            rcases hr with h | h | h | h | h | h | h <;> (rw [h]; decide)
          omega
        clear hgo hst st4 st3 it3 kw3 k3
        go_wp2_with fail
        go_roundg left'.length
        case rel => exact ⟨left', lexStep lx p.2, n + 1, Z.out.2.2.2, rfl, G.out.2.2.2.1, G.out.2.1, by rw [Z.out.1], G.out.2.2.2.2.1, G.out.2.2.2.2.2.2.2.1, by rw [Z.out.1]; exact Z.out.2.1.1, Z.out.2.2.1⟩
        case measure => exact G.out.2.2.1
      | false =>
        have ce := ends_any _ _ _ lx.t lx.out w3 st3 G.out.2.2.2.2.2.2.2.2.2.kind (by have := G.out.2.2.2.2.2.2.2.2.2.out; omega)
        have IT := Lib.hid (And.intro it3 kw3)
        have GO := Lib.hid hgo
        clear hgo st3 it3 kw3 k3 f0 f1 f2 f3
        go_wp2_with fail
        (with_reducible refine ce.mono ?_)
        clear ce
        rintro e w4 ⟨rfl, st4, k4⟩
        have it4 := IT.out.1.kept k4 (fun h => by omega)
        have kw4 := IT.out.2.new k4 (fun i hi hs => by omega)
        have hb4 : w.heap.size + 1 < w4.heap.size := by have := st4.b3; omega
        by_cases h32 : p.2 = 32
        · have hst := lexStep_blank GO.out h32
          have h32i : (p.2 : Int) = 32 := by omega
          have Z := Lib.hid (And.intro hst (And.intro st4 (And.intro kw4 it4)))
          clear hst st4 kw4 it4 k4
          go_wp2_with fail
          go_roundg left'.length
          case rel => exact ⟨left', lexStep lx p.2, n + 1, Z.out.2.2.2, rfl, G.out.2.2.2.1, G.out.2.1, by rw [Z.out.1], G.out.2.2.2.2.1, G.out.2.2.2.2.2.2.2.1, by rw [Z.out.1]; exact Z.out.2.1, Z.out.2.2.1⟩
          case measure => exact G.out.2.2.1
        · have hst := lexStep_new GO.out h32
          have h32i : ¬ (p.2 : Int) = 32 := by omega
          have hr := G.out.2.2.2.2.2.2.2.2.1
          have h9i : ¬ (p.2 : Int) = 9 := by unfold goodR at hr; omega
          have ck := kindL_any p.2 hr w4
          have hkz : ¬ kindL p.2 = 0 := by unfold kindL; rw [if_neg h32]; split <;> decide
          have gkz : (kindL p.2 == 0) = false := by simpa using hkz
          have e1 : ((p.2 : Int) == 32) = false := by simpa using h32i
          have e2 : ((p.2 : Int) == 9) = false := by simpa using h9i
          obtain ⟨kl, hkl⟩ : ∃ kl, kindL p.2 = kl := ⟨_, rfl⟩
          rw [hkl] at ck hst hkz gkz
          have Z := Lib.hid (And.intro hst (And.intro st4 (And.intro kw4 it4)))
          clear hst st4 kw4 it4 k4 hr hkl
          go_wp2_with fail
          (with_reducible refine ck.mono ?_)
          clear ck
          rintro e w5 ⟨rfl, k5⟩
          have st5 := Z.out.2.1.pure k5
          have y0 := cells_at st5.tk (j := 0) rfl
          have y1 := cells_at st5.tk (j := 1) rfl
          have y2 := cells_at st5.tk (j := 2) rfl
          have y3 := cells_at st5.tk (j := 3) rfl
          have q0 := free_at st5.tk 0
          have q1 := free_at st5.tk 1
          have q2 := free_at st5.tk 2
          have q3 := free_at st5.tk 3
          have hb5 : w.heap.size + 1 < w5.heap.size := by have := st5.b3; omega
          have st6 := st5.lay ⟨kl, runeS p.2, 0, lx.at_ + 1⟩
          have Y := Lib.hid (And.intro st6 (And.intro ((Z.out.2.2.1.trans k5).new st6.2 (fun i hi hs => by unfold one at hs; omega)) ((Z.out.2.2.2.kept k5 (fun h => h)).kept st6.2 (fun h => by unfold one at h; omega))))
          clear st5 st6 k5
          go_wp2_with fail
          go_roundg left'.length
          case rel => exact ⟨left', lexStep lx p.2, n + 1, Y.out.2.2, rfl, G.out.2.2.2.1, G.out.2.1, by rw [Z.out.1], G.out.2.2.2.2.1, G.out.2.2.2.2.2.2.2.1, by rw [Z.out.1]; exact Y.out.1.1, Y.out.2.1⟩
          case measure => exact G.out.2.2.1
end Go.Proofs.YtopeleenlcnkkaaGreatDoor
