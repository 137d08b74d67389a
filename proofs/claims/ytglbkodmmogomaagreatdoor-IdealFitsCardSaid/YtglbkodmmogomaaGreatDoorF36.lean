/-
  lex.Tokens.
-/
import Derived.Test.YtglbkodmmogomaaGreatDoorF35
import Derived.WalkMore
import Derived.Laws.EntriesVeiled
set_option linter.unusedVariables false
set_option linter.unusedSimpArgs false
namespace Go.Proofs.YtglbkodmmogomaaGreatDoor
open Go Go.RowKit
attribute [local irreducible] wpL
abbrev zeroT : Tok := ⟨0, noneS, 0, 0⟩
abbrev tokC (t : Tok) : List Value := [.int .u8 t.kind, .string t.text, .int .i64 t.n, .int .i64 t.at_]
def toksC (l : List Tok) : List Value := l.flatMap tokC
theorem toksC_snoc (l : List Tok) (t : Tok) : toksC (l ++ [t]) = toksC l ++ tokC t := by unfold toksC; rw [List.flatMap_append]; simp
theorem toksC_get : ∀ {l : List Tok} {i : Nat} {t : Tok}, l[i]? = some t → (toksC l)[i * 4]? = some (.int .u8 t.kind) ∧ (toksC l)[i * 4 + 1]? = some (.string t.text) ∧ (toksC l)[i * 4 + 2]? = some (.int .i64 t.n) ∧ (toksC l)[i * 4 + 3]? = some (.int .i64 t.at_)
  | x :: l, 0, t, h => by
    cases h
    exact ⟨rfl, rfl, rfl, rfl⟩
  | x :: l, i + 1, t, h => by
    have ih := toksC_get (l := l) (i := i) (t := t) (by simpa using h)
    rw [show (i + 1) * 4 = i * 4 + 1 + 1 + 1 + 1 by omega]
    unfold toksC at ih ⊢
    rw [List.flatMap_cons]
    exact ih
def endsL (t : Tok) (out : List Tok) : List Tok := if t.kind = 0 then out else out ++ [t]
theorem Tryz.info299 : ∃ i z, Tryz.prog.info? 299 = some i ∧ i.zero = some z ∧ i.size = 4 ∧ i.bytes = 40 ∧ z.cells.size = 4 := by
  have h : (Tryz.prog.info? 299).map (fun i => (i.zero, i.size, i.bytes)) = some (some (.agg #[.int .u8 0, .string ByteArray.empty, .int .i64 0, .int .i64 0]), 4, 40) := by kernel_rfl
  obtain ⟨i, hi, h⟩ := Option.map_eq_some_iff.1 h
  simp only [Prod.mk.injEq] at h
  exact ⟨i, _, hi, h.1, h.2.1, h.2.2, by rfl⟩
theorem push_tok {w : World} {base n : Nat} {va : Value} {l : List Tok} (h : w.ownsRow base 299 4 va n (toksC l)) (s : Tok) (hb : base ≤ w.heap.size) (hn : n ≤ 100000) :
    ∃ va' w', (Builtin.append_ #[269, 269] 269 #[va, .slice (some ⟨w.heap.size, 0, none⟩) 1 1]).run Tryz.prog (w.alloc (.cells (tokC s).toArray 299)) = .ok va' w' ∧ w'.ownsRow base 299 4 va' (n + 1) (toksC (l ++ [s])) ∧
      Kept (fun q => base ≤ q) w w' ∧ ∃ a c, va' = .slice a (n + 1) c := by
  obtain ⟨i, z, hi, hz, hs, hby, hzs⟩ := Tryz.info299
  have kA : Kept none' w (w.alloc (.cells (tokC s).toArray 299)) := (Kept.refl _ _).alloc _
  have hr := Reads.lit w (tokC s) 299 4 1 rfl (by unfold maxLen; omega)
  have hl : (toksC l).length = n * 4 := h.1
  obtain ⟨v', n', w', b1, b2, b3, b4, _⟩ := run_append_reads (P := Tryz.prog) base 269 269 299 i z 4 40 Tryz.underlying269 hi hz hs hby hzs (by omega) (kA.owns h (fun _ _ h => h)) hr (by intro y hy; simp at hy; rcases hy with rfl | rfl | rfl | rfl <;> rfl)
    (by simp; omega) (by simp; unfold maxLen; omega) (by have := kA.size; omega)
  have hn' : n' = n + 1 := by simp at b3; omega
  subst hn'
  refine ⟨v', w', b1, by rw [toksC_snoc]; exact b2, kA.pure.trans (Kept.grown b4 (fun k hk _ => ownBlk1 h hk)), ?_⟩
  obtain ⟨a, c, e⟩ := owns_slice b2
  exact ⟨a, c, e⟩
/-- Where Tokens stands. -/
structure LxSt (w : World) (Bt Bo base : Nat) (t : Tok) (out : List Tok) : Prop where
  tk : w.heap[Bt]? = some (.cells (tokC t).toArray 299 (0, 0))
  ov : ∃ v, w.heap[Bo]? = some (.cells #[v] 269 (0, 0)) ∧ w.ownsRow base 299 4 v out.length (toksC out)
  ne : Bt ≠ Bo
  b1 : Bt < base
  b2 : Bo < base
  b3 : base ≤ w.heap.size
theorem LxSt.keptS {w w' : World} {S : Nat → Prop} {Bt Bo base : Nat} {t : Tok} {out : List Tok} (h : LxSt w Bt Bo base t out) (hk : Kept S w w') (hS : ∀ k, S k → w.heap.size ≤ k ∨ (k ≠ Bt ∧ k ≠ Bo ∧ k < base)) : LxSt w' Bt Bo base t out := by
  obtain ⟨h1, ⟨v, h2, h3⟩, h4, h5, h6, h7⟩ := h
  have hb := h7
  refine ⟨hk.heap h1 (fun h => by have := hS _ h; omega), ⟨v, hk.heap h2 (fun h => by have := hS _ h; omega), hk.owns h3 (fun k hk' hs => ?_)⟩, h4, h5, h6, Nat.le_trans h7 hk.size⟩
  have := (h3.lt k hk').1
  have := (h3.lt k hk').2
  have := hS k hs
  omega
theorem LxSt.pure {w w' : World} {Bt Bo base : Nat} {t : Tok} {out : List Tok} (h : LxSt w Bt Bo base t out) (hk : Kept none' w w') : LxSt w' Bt Bo base t out := h.keptS hk (fun _ h => h.elim)
theorem store4 {w : World} {b E : Nat} {x0 x1 x2 x3 : Value} (h : w.heap[b]? = some (.cells #[x0, x1, x2, x3] E (0, 0))) (y0 y1 y2 y3 : Value) :
    ((((w.setCell ⟨b, 0, none⟩ y0).setCell ⟨b, 1, none⟩ y1).setCell ⟨b, 2, none⟩ y2).setCell ⟨b, 3, none⟩ y3).heap[b]? = some (.cells #[y0, y1, y2, y3] E (0, 0)) ∧ Kept (one b) w ((((w.setCell ⟨b, 0, none⟩ y0).setCell ⟨b, 1, none⟩ y1).setCell ⟨b, 2, none⟩ y2).setCell ⟨b, 3, none⟩ y3) := by
  refine ⟨?_, ?_⟩
  · have := set_at (set_at (set_at (set_at h 0 y0) 1 y1) 2 y2) 3 y3
    simpa using this
  · exact Kept.setCell (p := ⟨b, 3, none⟩) (Kept.setCell (p := ⟨b, 2, none⟩) (Kept.setCell (p := ⟨b, 1, none⟩) (Kept.setCell (p := ⟨b, 0, none⟩) (Kept.refl (one b) _) (.inl rfl) _) (.inl rfl) _) (.inl rfl) _) (.inl rfl) _
/-- The cell of the token that goes on is laid anew. -/
theorem LxSt.lay {w : World} {Bt Bo base : Nat} {t : Tok} {out : List Tok} (h : LxSt w Bt Bo base t out) (u : Tok) : LxSt ((((w.setCell ⟨Bt, 0, none⟩ (.int .u8 u.kind)).setCell ⟨Bt, 1, none⟩ (.string u.text)).setCell ⟨Bt, 2, none⟩ (.int .i64 u.n)).setCell ⟨Bt, 3, none⟩ (.int .i64 u.at_)) Bt Bo base u out ∧
    Kept (one Bt) w ((((w.setCell ⟨Bt, 0, none⟩ (.int .u8 u.kind)).setCell ⟨Bt, 1, none⟩ (.string u.text)).setCell ⟨Bt, 2, none⟩ (.int .i64 u.n)).setCell ⟨Bt, 3, none⟩ (.int .i64 u.at_)) := by
  obtain ⟨h1, ⟨v, h2, h3⟩, h4, h5, h6, h7⟩ := h
  obtain ⟨g1, g2⟩ := store4 h1 (.int .u8 u.kind) (.string u.text) (.int .i64 u.n) (.int .i64 u.at_)
  refine ⟨⟨g1, ⟨v, g2.heap h2 (fun e => h4 e.symm), g2.owns h3 (fun k hk hs => ?_)⟩, h4, h5, h6, Nat.le_trans h7 g2.size⟩, g2⟩
  have := (h3.lt k hk).1
  unfold one at hs
  omega
def EndsQ (w : World) (Bt Bo base : Nat) (t : Tok) (out : List Tok) (e : Ending) (w' : World) : Prop := e = .returned (.bool true) ∧ LxSt w' Bt Bo base zeroT (endsL t out) ∧ Kept (fun q => q = Bt ∨ q = Bo ∨ base ≤ q) w w'
set_option maxRecDepth 100000 in
set_option maxHeartbeats 1000000 in
theorem ends_any (Bt Bo base : Nat) (t : Tok) (out : List Tok) (w : World) (h : LxSt w Bt Bo base t out) (ht : t.kind = 0 ∨ t.kind = 1 ∨ t.kind = 3) (ho : out.length ≤ 1000) :
    Calls Tryz.prog 225 #[.pointer (some ⟨Bt, 0, none⟩), .pointer (some ⟨Bo, 0, none⟩)] w (EndsQ w Bt Bo base t out) := by
  have hS := h
  obtain ⟨h1, ⟨v, h2, h3⟩, h4, h5, h6, h7⟩ := h
  have x0 := cells_at h1 (j := 0) rfl
  have x1 := cells_at h1 (j := 1) rfl
  have x2 := cells_at h1 (j := 2) rfl
  have x3 := cells_at h1 (j := 3) rfl
  have f0 := free_at h1 0
  have f1 := free_at h1 1
  have f2 := free_at h1 2
  have f3 := free_at h1 3
  have o0 : w.cell? ⟨Bo, 0, none⟩ = some v := cells_at h2 rfl
  have hBt : Bt < w.heap.size := by omega
  have hBo : Bo < w.heap.size := by omega
  by_cases hk : t.kind = 0
  · have F := hS.lay zeroT
    have FF := Lib.hid (show EndsQ w Bt Bo base t out (.returned (.bool true)) _ from ⟨rfl, by rw [show endsL t out = out from if_pos hk]; exact F.1, F.2.mono (fun k _ h => .inl h)⟩)
    obtain ⟨tk, tt, tn, ta⟩ := t
    simp only at hk
    subst hk
    clear F hS h1 h2 h3
    go_enter Tryz.func225, Tryz.ntmps225
    go_wp2_with fail
    go_ret
    exact FF.out
  · obtain ⟨va, vc, rfl⟩ := owns_slice h3
    obtain ⟨va', w', g1, g2, g3, ⟨a2, c2, rfl⟩⟩ := push_tok h3 t h7 (by omega)
    have o1 := g3.cell (p := ⟨Bo, 0, none⟩) (show ¬ (base ≤ Bo) by omega) o0
    have of := free_at (g3.heap h2 (fun h => by omega)) 0
    have hsz := g3.size
    have hset := set_at (g3.heap h2 (fun h => by omega)) 0 (Value.slice a2 (out.length + 1) c2)
    have ks : Kept (one Bo) w' (w'.setCell ⟨Bo, 0, none⟩ (Value.slice a2 (out.length + 1) c2)) := Kept.setCell (p := ⟨Bo, 0, none⟩) (Kept.refl (one Bo) _) (.inl rfl) _
    have st : LxSt (w'.setCell ⟨Bo, 0, none⟩ (Value.slice a2 (out.length + 1) c2)) Bt Bo base t (out ++ [t]) := by
      refine ⟨ks.heap (g3.heap h1 (fun h => by omega)) h4, ⟨_, hset, ?_⟩, h4, h5, h6, Nat.le_trans h7 (Nat.le_trans g3.size ks.size)⟩
      rw [List.length_append]
      exact ks.owns g2 (fun k hk hs => by have := (g2.lt k hk).1; unfold one at hs; omega)
    have F := st.lay zeroT
    have hks := ks.size
    have y0 := ks.cell (p := ⟨Bt, 0, none⟩) h4 (g3.cell (p := ⟨Bt, 0, none⟩) (show ¬ (base ≤ Bt) by omega) x0)
    have y1 := ks.cell (p := ⟨Bt, 1, none⟩) h4 (g3.cell (p := ⟨Bt, 1, none⟩) (show ¬ (base ≤ Bt) by omega) x1)
    have y2 := ks.cell (p := ⟨Bt, 2, none⟩) h4 (g3.cell (p := ⟨Bt, 2, none⟩) (show ¬ (base ≤ Bt) by omega) x2)
    have y3 := ks.cell (p := ⟨Bt, 3, none⟩) h4 (g3.cell (p := ⟨Bt, 3, none⟩) (show ¬ (base ≤ Bt) by omega) x3)
    have q0 := free_at st.tk 0
    have q1 := free_at st.tk 1
    have q2 := free_at st.tk 2
    have q3 := free_at st.tk 3
    have hBt' : Bt < w'.heap.size := by omega
    have hBo' : Bo < w'.heap.size := by omega
    have FF := Lib.hid (And.intro (show EndsQ w Bt Bo base t out (.returned (.bool true)) _ from ⟨rfl, by rw [show endsL t out = out ++ [t] from if_neg hk]; exact F.1, ((g3.mono (S' := fun q => q = Bt ∨ q = Bo ∨ base ≤ q) (fun k _ h => .inr (.inr h))).new ks (fun i hi hs => .inr (.inl hs))).new F.2 (fun i hi hs => .inl hs)⟩) g1)
    obtain ⟨tk, tt, tn, ta⟩ := t
    simp only at hk ht
    have ht2 : tk = 1 ∨ tk = 3 := by omega
    clear F hS h1 h2 h3 g1 g2 g3 hset ks st hk ht f0 f1 f2 f3
    rcases ht2 with rfl | rfl
    · go_enter Tryz.func225, Tryz.ntmps225
      go_wp2_with (at_builtin; refine wpList_app1 rfl (.tmp 22) (.tmp 24) 269 rfl _ _ _ rfl rfl FF.out.2 ?_)
      go_ret
      exact FF.out.1
    · go_enter Tryz.func225, Tryz.ntmps225
      go_wp2_with (at_builtin; refine wpList_app1 rfl (.tmp 22) (.tmp 24) 269 rfl _ _ _ rfl rfl FF.out.2 ?_)
      go_ret
      exact FF.out.1
/-! ### Tokens -/
structure Lx where
  t : Tok
  out : List Tok
  at_ : Int
def lexStep (s : Lx) (r : Nat) : Lx :=
  if goesT s.t r = true then ⟨{ s.t with text := s.t.text ++ runeS r }, s.out, s.at_ + 1⟩
  else if r = 32 then ⟨zeroT, endsL s.t s.out, s.at_ + 1⟩
  else ⟨⟨kindL r, runeS r, 0, s.at_ + 1⟩, endsL s.t s.out, s.at_ + 1⟩
def lexF (l : List (Nat × Nat)) (s : Lx) : Lx := l.foldl (fun s p => lexStep s p.2) s
def lexP (s : ByteArray) : List Tok := endsL (lexF (runes s) ⟨zeroT, [], -1⟩).t (lexF (runes s) ⟨zeroT, [], -1⟩).out
structure LxOk (s : Lx) (n : Nat) : Prop where
  kind : s.t.kind = 0 ∨ s.t.kind = 1 ∨ s.t.kind = 3
  out : s.out.length ≤ n
  text : s.t.text.size ≤ 4 * n
  at1 : -1 ≤ s.at_
  at2 : s.at_ ≤ n
theorem LxOk.step {s : Lx} {n : Nat} (h : LxOk s n) {r : Nat} (hr : goodR r) : LxOk (lexStep s r) (n + 1) := by
  obtain ⟨h1, h2, h3, h4, h5⟩ := h
  have hsz : (runeS r).size ≤ 4 := by unfold goodR at hr; rcases hr with rfl | rfl | rfl | rfl | rfl | rfl | rfl <;> decide
  have hk : kindL r = 0 ∨ kindL r = 1 ∨ kindL r = 3 := by unfold kindL; split; exact .inr (.inr rfl); split; exact .inl rfl; exact .inr (.inl rfl)
  have he : (endsL s.t s.out).length ≤ n + 1 := by unfold endsL; split; omega; rw [List.length_append]; simp; omega
  unfold lexStep
  split
  · exact ⟨h1, by simp only; omega, by simp only [ByteArray.size_append]; omega, by simp only; omega, by simp only; omega⟩
  · split
    · exact ⟨.inl rfl, he, by simp only; exact Nat.zero_le _, by simp only; omega, by simp only; omega⟩
    · exact ⟨hk, he, by simp only; omega, by simp only; omega, by simp only; omega⟩
def TokensQ (w : World) (l : List Tok) (e : Ending) (w' : World) : Prop := ∃ v, e = .returned (.tuple #[v, .int .i64 0, .int .i64 0]) ∧ w'.ownsRow w.heap.size 299 4 v l.length (toksC l) ∧ Kept none' w w'
theorem LxSt.text {w : World} {Bt Bo base : Nat} {t : Tok} {out : List Tok} (h : LxSt w Bt Bo base t out) (x : ByteArray) : LxSt (w.setCell ⟨Bt, 1, none⟩ (.string x)) Bt Bo base { t with text := x } out ∧ Kept (one Bt) w (w.setCell ⟨Bt, 1, none⟩ (.string x)) := by
  obtain ⟨h1, ⟨v, h2, h3⟩, h4, h5, h6, h7⟩ := h
  have g2 : Kept (one Bt) w (w.setCell ⟨Bt, 1, none⟩ (.string x)) := Kept.setCell (p := ⟨Bt, 1, none⟩) (Kept.refl (one Bt) _) (.inl rfl) _
  refine ⟨⟨by have := set_at h1 1 (Value.string x); simpa using this, ⟨v, g2.heap h2 (fun e => h4 e.symm), g2.owns h3 (fun k hk hs => ?_)⟩, h4, h5, h6, Nat.le_trans h7 g2.size⟩, g2⟩
  have := (h3.lt k hk).1
  unfold one at hs
  omega
theorem lexStep_goes {s : Lx} {r : Nat} (h : goesT s.t r = true) : lexStep s r = ⟨{ s.t with text := s.t.text ++ runeS r }, s.out, s.at_ + 1⟩ := if_pos h
theorem lexStep_blank {s : Lx} {r : Nat} (h : goesT s.t r = false) (h2 : r = 32) : lexStep s r = ⟨zeroT, endsL s.t s.out, s.at_ + 1⟩ := by
  unfold lexStep
  rw [if_neg (by rw [h]; simp), if_pos h2]
theorem lexStep_new {s : Lx} {r : Nat} (h : goesT s.t r = false) (h2 : r ≠ 32) : lexStep s r = ⟨⟨kindL r, runeS r, 0, s.at_ + 1⟩, endsL s.t s.out, s.at_ + 1⟩ := by
  unfold lexStep
  rw [if_neg (by rw [h]; simp), if_neg h2]
set_option maxRecDepth 100000 in
set_option maxHeartbeats 2000000 in
theorem tokens_any (s : ByteArray) (hs : s.size ≤ 400) (hg : ∀ p ∈ runes s, goodR p.2) (w : World) : Calls Tryz.prog 192 #[.string s] w (TokensQ w (lexP s)) := by
  obtain ⟨W0, hW0⟩ : ∃ W0, (w.alloc (.cells #[.slice none 0 0] 269)).alloc (.cells (tokC zeroT).toArray 299) = W0 := ⟨_, rfl⟩
  obtain ⟨w1, hrun, hit, hk0, hs0⟩ := run_range_str (P := Tryz.prog) W0 9 s Tryz.underlying9
  have hlen := runes_length s
  have kw0 : Kept none' w W0 := by rw [← hW0]; exact ((Kept.refl _ _).alloc _).alloc _
  have hsz0 : W0.heap.size = w.heap.size + 2 := by rw [← hW0]; simp
  have st0 : LxSt w1 (w.heap.size + 1) w.heap.size (w.heap.size + 3) zeroT [] := by
    refine ⟨hk0.heap ?_ (fun h => h), ⟨.slice none 0 0, hk0.heap ?_ (fun h => h), World.ownsRow_nil _ _ _ _⟩, by omega, by omega, by omega, by omega⟩
    · rw [← hW0]
      have := heap_alloc_new (w.alloc (.cells #[.slice none 0 0] 269)) (.cells (tokC zeroT).toArray 299)
      rwa [World.size_alloc] at this
    · rw [← hW0]
      exact ((Kept.refl none' _).alloc _).heap (heap_alloc_new w (.cells #[.slice none 0 0] 269)) (fun h => h)
  have hW0' : (w.alloc (.cells #[.slice none 0 0] 269)).alloc (.cells #[.int .u8 0, .string ⟨#[]⟩, .int .i64 0, .int .i64 0] 299) = W0 := hW0
  have hW1 : w1.heap.size = w.heap.size + 3 := by omega
  have H := Lib.hid (And.intro hit (And.intro (kw0.trans hk0) (And.intro st0 (And.intro hg hlen))))
  have HW := Lib.hid hW0'
  rw [hsz0] at hrun
  rw [hsz0] at H
  clear hit hk0 hs0 st0 kw0 hg hW0 hW0' hlen
  have h400 : ¬ ((400 : Int) < (s.size : Int)) := by omega
  go_enter Tryz.func192, Tryz.ntmps192
  go_wp2_with fail
  go_step3
  go_wp2_with fail
  go_step3
  rw [HW.out]
  clear hsz0 HW
  go_wp2
  clear hrun
  go_loopg [8] (runes s).length (fun k va wr => ∃ (left : List (Nat × Nat)) (lx : Lx) (n : Nat), RunAt wr (w.heap.size + 2) s left ∧ left.length = k ∧ n + left.length = (runes s).length ∧ (∀ p ∈ left, goodR p.2) ∧ va = .int .i64 lx.at_ ∧ lexF left lx = lexF (runes s) ⟨zeroT, [], -1⟩ ∧ LxOk lx n ∧
    LxSt wr (w.heap.size + 1) w.heap.size (w.heap.size + 3) lx.t lx.out ∧ Kept none' w wr)
  case atStart => exact ⟨runes s, ⟨zeroT, [], -1⟩, 0, H.out.1, rfl, by omega, H.out.2.2.2.1, rfl, rfl, ⟨.inl rfl, Nat.le_refl _, Nat.le_refl _, by decide, by decide⟩, H.out.2.2.1, H.out.2.1⟩
  case round =>
    obtain ⟨left, lx, n, hit, hk, hnl, hgl, rfl, hlex, hok, hst, hkp⟩ := hrel
    obtain ⟨wo, rfl⟩ : ∃ wo : World, wo = wr := ⟨_, rfl⟩
    have hn400 : n ≤ 400 := by have := H.out.2.2.2.2; omega
    have hwb : w.heap.size + 3 ≤ wo.heap.size := hst.b3
    rcases hit.next (P := Tryz.prog) 0 with ⟨rfl, hrun⟩ | ⟨p, left', w2, hp, hrun, hit2, hk2, hs2⟩
    · have ce := ends_any _ _ _ lx.t lx.out wo hst hok.kind (by have := hok.out; omega)
      have x3 := cells_at hst.tk (j := 3) rfl
      have hend : lexP s = endsL lx.t lx.out := by
        unfold lexP
        rw [← hlex]; rfl
      have HE := Lib.hid (And.intro hend hkp)
      clear hit hk hnl hgl hlex hok hst hkp hend H
      go_wp2_with fail
      (with_reducible refine ce.mono ?_)
      clear ce
      rintro e w4 ⟨rfl, st4, k4⟩
      obtain ⟨v, hv, hown⟩ := st4.ov
      have o0 := cells_at hv (j := 0) rfl
      obtain ⟨va, vc, rfl⟩ := owns_slice hown
      have F := Lib.hid (show TokensQ w (lexP s) (.returned (.tuple #[.slice va (endsL lx.t lx.out).length vc, .int .i64 0, .int .i64 0])) w4 from
        ⟨_, rfl, by rw [HE.out.1]; exact owns_base hown (by omega), HE.out.2.new k4 (fun i hi hs => by omega)⟩)
      clear st4 k4 hv hown
      go_wp2_with fail
      try rw [Exit.noGoto_ret]
      go_ret3
      exact F.out
    · have hr := hgl p (by rw [hp]; simp)
      have hgl' : ∀ q ∈ left', goodR q.2 := fun q hq => hgl q (by rw [hp]; simp [hq])
      have hm : left'.length < gk := by rw [hp] at hk; simp at hk; omega
      have hnl' : n + 1 + left'.length = (runes s).length := by rw [hp] at hnl; simp at hnl; omega
      have hlex' : lexF left' (lexStep lx p.2) = lexF (runes s) ⟨zeroT, [], -1⟩ := by rw [← hlex, hp]; rfl
      have hk3 : Kept none' w w2 := hkp.new hk2 (fun i hi e => by unfold one at e; omega)
      have hst2 : LxSt w2 (w.heap.size + 1) w.heap.size (w.heap.size + 3) lx.t lx.out := hst.keptS hk2 (fun k hk => .inr (by unfold one at hk; omega))
      have cg := lexgoes_any lx.t hok.kind p.2 hr w2
      have x0 := cells_at hst2.tk (j := 0) rfl
      have x1 := cells_at hst2.tk (j := 1) rfl
      have x2 := cells_at hst2.tk (j := 2) rfl
      have x3 := cells_at hst2.tk (j := 3) rfl
      have hat1 := hok.at1
      have hat2 := hok.at2
      have htx := hok.text
      have hb2 : w.heap.size + 3 ≤ w2.heap.size := hst2.b3
      have G := Lib.hid (And.intro hit2 (And.intro hgl' (And.intro hm (And.intro hnl' (And.intro hlex' (And.intro hk3 (And.intro hst2 (And.intro (hok.step hr) (And.intro hr hok)))))))))
      clear hit hk hnl hgl hlex hok hst hkp hit2 hgl' hm hnl' hlex' hk3 hst2 hp hk2 hs2 hr
      have haw : IntKind.i64.wrap (lx.at_ + 1) = lx.at_ + 1 := by rw [IntKind.wrap_i64]; omega
      go_wp2_with fail
      (with_reducible refine cg.mono ?_)
      clear cg
      rintro e w3 ⟨rfl, k3⟩
      have x0 := k3.cell (fun h => h) x0
      have x1 := k3.cell (fun h => h) x1
      have x2 := k3.cell (fun h => h) x2
      have x3 := k3.cell (fun h => h) x3
      have st3 := G.out.2.2.2.2.2.2.1.pure k3
      have f0 := free_at st3.tk 0
      have f1 := free_at st3.tk 1
      have f2 := free_at st3.tk 2
      have f3 := free_at st3.tk 3
      have it3 := G.out.1.kept k3 (fun h => h)
      have kw3 := G.out.2.2.2.2.2.1.trans k3
      have hb3 : w.heap.size + 3 ≤ w3.heap.size := st3.b3
      have hb4 : w.heap.size + 1 < w3.heap.size := by omega
      have hb5 : w.heap.size < w3.heap.size := by omega
      cases hgo : goesT lx.t p.2 with
      | true =>
        have hst := lexStep_goes hgo
        have st4 := st3.text (lx.t.text ++ runeS p.2)
        have Z := Lib.hid (And.intro hst (And.intro st4 (And.intro (kw3.new st4.2 (fun i hi hs => by unfold one at hs; omega)) (it3.kept st4.2 (fun h => by unfold one at h; omega)))))
        have hsz : ((lx.t.text.size : Int) + ((Utf8.encode (p.2 : Int)).size : Int)) ≤ 9223372036854775807 := by
          have h4 : (Utf8.encode (p.2 : Int)).size ≤ 4 := by
            have hr := G.out.2.2.2.2.2.2.2.2.1
            unfold goodR at hr
            rcases hr with h | h | h | h | h | h | h <;> (rw [h]; decide)
          omega
        clear hgo hst st4 st3 it3 kw3 k3
        go_wp2_with fail
        go_roundg left'.length
        case rel => exact ⟨left', lexStep lx p.2, n + 1, Z.out.2.2.2, rfl, G.out.2.2.2.1, G.out.2.1, by rw [Z.out.1], G.out.2.2.2.2.1, G.out.2.2.2.2.2.2.2.1, by rw [Z.out.1]; exact Z.out.2.1.1, Z.out.2.2.1⟩
        case measure => exact G.out.2.2.1
      | false =>
        have ce := ends_any _ _ _ lx.t lx.out w3 st3 G.out.2.2.2.2.2.2.2.2.2.kind (by have := G.out.2.2.2.2.2.2.2.2.2.out; omega)
        have IT := Lib.hid (And.intro it3 kw3)
        have GO := Lib.hid hgo
        clear hgo st3 it3 kw3 k3 f0 f1 f2 f3
        go_wp2_with fail
        (with_reducible refine ce.mono ?_)
        clear ce
        rintro e w4 ⟨rfl, st4, k4⟩
        have it4 := IT.out.1.kept k4 (fun h => by omega)
        have kw4 := IT.out.2.new k4 (fun i hi hs => by omega)
        have hb4 : w.heap.size + 1 < w4.heap.size := by have := st4.b3; omega
        by_cases h32 : p.2 = 32
        · have hst := lexStep_blank GO.out h32
          have h32i : (p.2 : Int) = 32 := by omega
          have Z := Lib.hid (And.intro hst (And.intro st4 (And.intro kw4 it4)))
          clear hst st4 kw4 it4 k4
          go_wp2_with fail
          go_roundg left'.length
          case rel => exact ⟨left', lexStep lx p.2, n + 1, Z.out.2.2.2, rfl, G.out.2.2.2.1, G.out.2.1, by rw [Z.out.1], G.out.2.2.2.2.1, G.out.2.2.2.2.2.2.2.1, by rw [Z.out.1]; exact Z.out.2.1, Z.out.2.2.1⟩
          case measure => exact G.out.2.2.1
        · have hst := lexStep_new GO.out h32
          have h32i : ¬ (p.2 : Int) = 32 := by omega
          have hr := G.out.2.2.2.2.2.2.2.2.1
          have h9i : ¬ (p.2 : Int) = 9 := by unfold goodR at hr; omega
          have ck := kindL_any p.2 hr w4
          have hkz : ¬ kindL p.2 = 0 := by unfold kindL; rw [if_neg h32]; split <;> decide
          have gkz : (kindL p.2 == 0) = false := by simpa using hkz
          have e1 : ((p.2 : Int) == 32) = false := by simpa using h32i
          have e2 : ((p.2 : Int) == 9) = false := by simpa using h9i
          obtain ⟨kl, hkl⟩ : ∃ kl, kindL p.2 = kl := ⟨_, rfl⟩
          rw [hkl] at ck hst hkz gkz
          have Z := Lib.hid (And.intro hst (And.intro st4 (And.intro kw4 it4)))
          clear hst st4 kw4 it4 k4 hr hkl
          go_wp2_with fail
          (with_reducible refine ck.mono ?_)
          clear ck
          rintro e w5 ⟨rfl, k5⟩
          have st5 := Z.out.2.1.pure k5
          have y0 := cells_at st5.tk (j := 0) rfl
          have y1 := cells_at st5.tk (j := 1) rfl
          have y2 := cells_at st5.tk (j := 2) rfl
          have y3 := cells_at st5.tk (j := 3) rfl
          have q0 := free_at st5.tk 0
          have q1 := free_at st5.tk 1
          have q2 := free_at st5.tk 2
          have q3 := free_at st5.tk 3
          have hb5 : w.heap.size + 1 < w5.heap.size := by have := st5.b3; omega
          have st6 := st5.lay ⟨kl, runeS p.2, 0, lx.at_ + 1⟩
          have Y := Lib.hid (And.intro st6 (And.intro ((Z.out.2.2.1.trans k5).new st6.2 (fun i hi hs => by unfold one at hs; omega)) ((Z.out.2.2.2.kept k5 (fun h => h)).kept st6.2 (fun h => by unfold one at h; omega))))
          clear st5 st6 k5
          go_wp2_with fail
          go_roundg left'.length
          case rel => exact ⟨left', lexStep lx p.2, n + 1, Y.out.2.2, rfl, G.out.2.2.2.1, G.out.2.1, by rw [Z.out.1], G.out.2.2.2.2.1, G.out.2.2.2.2.2.2.2.1, by rw [Z.out.1]; exact Y.out.1.1, Y.out.2.1⟩
          case measure => exact G.out.2.2.1
end Go.Proofs.YtglbkodmmogomaaGreatDoor
/-
  expr.Deep of a small expression; expr.Parse of a text whose tokens are read to their end.
-/
namespace Go.Proofs.YtglbkodmmogomaaGreatDoor
open Go Go.RowKit
attribute [local irreducible] wpL
/-- An expression is no deeper than so. -/
def depOk : Nat → Ex → Prop
  | 0, _ => False
  | d + 1, x => ∀ y ∈ x.args, depOk d y
def DeepQ (w : World) (d : Nat) (e : Ending) (w' : World) : Prop := ∃ n : Int, e = .returned (.int .i64 n) ∧ 1 ≤ n ∧ n ≤ (d : Int) ∧ Kept none' w w'
set_option maxRecDepth 100000 in
set_option maxHeartbeats 1000000 in
theorem deep1_any : ∀ (d : Nat) (x : Ex) (a : Array Value) (B : Nat) (left : Int) (w : World), d ≤ 100 → depOk d x → ExAt w a x → 0 ≤ left → left ≤ 16 → w.cell? ⟨B, 0, none⟩ = some (.func (.func 232) #[] #[.pointer (some ⟨B, 0, none⟩)]) →
    Calls Tryz.prog 232 #[.agg a, .int .i64 left, .pointer (some ⟨B, 0, none⟩)] w (DeepQ w d)
  | 0, x, _, _, _, _, _, h, _, _, _, _ => h.elim
  | d + 1, x, a, B, left, w, hd, hx, h, hl0, hl1, hB => by
    obtain ⟨p, cap, rfl, h0, h1, h2, h3, h4, h5⟩ := h.parts
    have IH := Lib.hid (fun y a B left w hy h hl0 hl1 hB => deep1_any d y a B left w (by omega) hy h hl0 hl1 hB)
    have SB := Lib.hid (show ∀ (i : Nat) (y : Ex), x.args[i]? = some y → depOk d y from fun i y hy => hx y (List.mem_of_getElem? hy))
    have H5 := Lib.hid h5
    unfold maxLen at h4
    have hBl : B < w.heap.size := by have := block_lt_of_cell hB; simpa using this
    have HB := Lib.hid hB
    clear h h5 hx
    go_enter Tryz.func232, Tryz.ntmps232
    go_wp2_with fail
    obtain ⟨W0, hW0⟩ : ∃ W0, w.alloc (.cells #[.int .u8 x.op, .int .i64 x.n, .slice p x.args.length cap] 40) = W0 := ⟨_, rfl⟩
    have k0 : Kept none' w W0 := by rw [← hW0]; exact (Kept.refl _ _).alloc _
    rw [hW0]
    have K0 := Lib.hid k0
    clear hW0 k0 hB
    go_loopg [6, 12] x.args.length (fun g vn vi wr => ∃ (k : Nat) (n : Int), k ≤ x.args.length ∧ vi = .int .i64 (k : Int) ∧ vn = .int .i64 n ∧ x.args.length - k ≤ g ∧ 0 ≤ n ∧ n ≤ (d : Int) ∧ Kept none' w wr)
    case atStart => exact ⟨0, 0, by omega, rfl, rfl, by omega, by omega, by omega, K0.out⟩
    case round =>
      obtain ⟨k, n, hkl, rfl, rfl, hg, hn1, hn2, hkp⟩ := hrel
      by_cases hlt : k < x.args.length
      · obtain ⟨y, hy⟩ : ∃ y, x.args[k]? = some y := ⟨_, List.getElem?_eq_getElem hlt⟩
        obtain ⟨b, off, p', cap', rfl, q0, q1, q2, hy2⟩ := H5.out k y hy
        have r0 := hkp.cell (p := ⟨b, off + k * 3, none⟩) (fun h => h) q0
        have r1 := hkp.cell (p := ⟨b, off + k * 3 + 1, none⟩) (fun h => h) q1
        have r2 := hkp.cell (p := ⟨b, off + k * 3 + 2, none⟩) (fun h => h) q2
        have bB := hkp.cell (p := ⟨B, 0, none⟩) (fun h => h) HB.out
        have hBr : B < wr.heap.size := Nat.lt_of_lt_of_le hBl hkp.size
        have G := Lib.hid (And.intro hg (And.intro (ExAt.pure hkp hy2) (And.intro hkp (SB.out k y hy))))
        clear q0 q1 q2 hy hy2 hkp hg H5
        by_cases hb : 0 < left
        · have hlw : IntKind.i64.wrap (left - 1) = left - 1 := by rw [IntKind.wrap_i64]; omega
          go_wp2_with fail
          have ka : Kept none' wr (wr.alloc (.cells #[.int .u8 y.op, .int .i64 y.n, .slice p' y.args.length cap'] 40)) := (Kept.refl _ _).alloc _
          have c := IH.out y _ B (left - 1) (wr.alloc (.cells #[.int .u8 y.op, .int .i64 y.n, .slice p' y.args.length cap'] 40)) G.out.2.2.2 (ExAt.pure ka G.out.2.1) (by omega) (by omega) (ka.cell (p := ⟨B, 0, none⟩) (fun h => h) bB)
          (with_reducible refine c.mono ?_)
          clear c
          rintro e w2 ⟨m, rfl, hm1, hm2, k2⟩
          have K2 := Lib.hid (G.out.2.2.1.trans (ka.trans k2))
          clear k2 ka
          by_cases hmn : n ≤ m
          · have e1 : max n m = m := by omega
            go_wp2_with fail
            go_roundg (x.args.length - (k + 1))
            case rel => exact ⟨k + 1, m, by omega, by go_num, by first | rfl | rw [e1], Nat.le_refl _, by omega, by omega, K2.out⟩
            case measure => have := G.out.1; omega
          · have e1 : max n m = n := by omega
            go_wp2_with fail
            go_roundg (x.args.length - (k + 1))
            case rel => exact ⟨k + 1, n, by omega, by go_num, by first | rfl | rw [e1], Nat.le_refl _, by omega, by omega, K2.out⟩
            case measure => have := G.out.1; omega
        · go_wp2_with fail
          go_roundg (x.args.length - (k + 1))
          case rel => exact ⟨k + 1, n, by omega, by go_num, rfl, Nat.le_refl _, by omega, by omega, G.out.2.2.1.alloc _⟩
          case measure => have := G.out.1; omega
      · have HK := Lib.hid hkp
        have hnw : IntKind.i64.wrap (n + 1) = n + 1 := by rw [IntKind.wrap_i64]; omega
        clear hkp
        go_wp2_with fail
        go_ret
        exact ⟨n + 1, rfl, by omega, by omega, HK.out⟩
set_option maxRecDepth 100000 in
set_option maxHeartbeats 1000000 in
theorem deep_any (x : Ex) (a : Array Value) (w : World) (hx : depOk 16 x) (h : ExAt w a x) : Calls Tryz.prog 195 #[.agg a] w (DeepQ w 16) := by
  obtain ⟨p, cap, rfl, h0, h1, h2, h3, h4, _⟩ := h.parts
  unfold maxLen at h4
  have k0 : Kept none' w ((w.alloc (.cells #[.int .u8 x.op, .int .i64 x.n, .slice p x.args.length cap] 40)).alloc (.cells #[.func (.func 232) #[] #[.pointer (some ⟨w.heap.size + 1, 0, none⟩)]] 173)) := ((Kept.refl _ _).alloc _).alloc _
  have bB : ((w.alloc (.cells #[.int .u8 x.op, .int .i64 x.n, .slice p x.args.length cap] 40)).alloc (.cells #[.func (.func 232) #[] #[.pointer (some ⟨w.heap.size + 1, 0, none⟩)]] 173)).cell? ⟨w.heap.size + 1, 0, none⟩ = some (.func (.func 232) #[] #[.pointer (some ⟨w.heap.size + 1, 0, none⟩)]) := by simp
  have c := deep1_any 16 x _ (w.heap.size + 1) 16 _ (by omega) hx (h.pure k0) (by omega) (by omega) bB
  have K0 := Lib.hid k0
  clear k0 bB hx h
  go_enter Tryz.func195, Tryz.ntmps195
  go_wp2_with fail
  (with_reducible refine c.mono ?_)
  clear c
  rintro e w2 ⟨m, rfl, hm1, hm2, k2⟩
  have F := Lib.hid (show DeepQ w 16 (.returned (.int .i64 m)) w2 from ⟨m, rfl, hm1, hm2, K0.out.trans k2⟩)
  have e1 : min m 17 = m := by omega
  clear k2
  go_wp2_with fail
  go_ret
  exact F.out
/-- A text's expression, if it is one of sums. -/
def exprP (s : ByteArray) : Option Ex := match orP (lexP s) with | some (x, []) => some x | _ => none
def ExprQ (w : World) (x : Ex) (e : Ending) (w' : World) : Prop :=
  ∃ p c D, e = .returned (.tuple #[.agg (exC x p c).toArray, .int .i64 0, .int .i64 0]) ∧ ExRob w' D (exC x p c).toArray x ∧ (∀ k, D k → w.heap.size ≤ k ∧ k < w'.heap.size) ∧ Kept none' w w'
set_option maxRecDepth 100000 in
set_option maxHeartbeats 2000000 in
theorem expr_any (s : ByteArray) (hs : s.size ≤ 400) (hg : ∀ p ∈ runes s, goodR p.2) (x : Ex) (hx : exprP s = some x) (hd : depOk 16 x) (w : World) : Calls Tryz.prog 160 #[.string s] w (ExprQ w x) := by
  have ht : orP (lexP s) = some (x, []) := by
    unfold exprP at hx
    split at hx
    · rename_i e; injection hx with hx; rw [e, hx]
    · cases hx
  have hln := runes_length s
  have k0 : Kept none' w (w.alloc (.cells #[.int .u8 0, .int .i64 0, .slice none 0 0] 40)) := (Kept.refl _ _).alloc _
  have t0 : (w.alloc (.cells #[.int .u8 0, .int .i64 0, .slice none 0 0] 40)).heap[w.heap.size]? = some (.cells #[.int .u8 0, .int .i64 0, .slice none 0 0] 40 (0, 0)) := heap_alloc_new _ _
  have ct := tokens_any s hs hg (w.alloc (.cells #[.int .u8 0, .int .i64 0, .slice none 0 0] 40))
  have H := Lib.hid (And.intro k0 (And.intro t0 (And.intro ht (And.intro hd hln))))
  clear k0 t0 ht hd hx hg hln
  go_enter Tryz.func160, Tryz.ntmps160
  go_wp2_with fail
  (with_reducible refine ct.mono ?_)
  clear ct
  rintro e w1 ⟨v, rfl, hown, k1⟩
  obtain ⟨va, vc, rfl⟩ := owns_slice hown
  have kw1 := H.out.1.trans k1
  have t1 := k1.heap H.out.2.1 (fun h => h)
  obtain ⟨w2, hrun, hit, hk2, hs2⟩ := run_range_str (P := Tryz.prog) w1 9 s Tryz.underlying9
  have H1 := Lib.hid (And.intro (kw1.trans hk2) (And.intro (hk2.heap t1 (fun h => h)) (And.intro hown (And.intro hit (And.intro hk2 hs2)))))
  have T1 := Lib.hid t1
  clear kw1 t1 hown hit hk2 k1
  go_wp2
  go_loopg [8] (runes s).length (fun k va wr => ∃ (left : List (Nat × Nat)) (n : Nat), RunAt wr w1.heap.size s left ∧ left.length = k ∧ n + left.length = (runes s).length ∧ va = .int .i64 (n : Int) ∧ Kept (one w1.heap.size) w2 wr)
  case atStart => exact ⟨runes s, 0, H1.out.2.2.2.1, rfl, by omega, rfl, Kept.refl _ _⟩
  case round =>
    obtain ⟨left, n, hit, hk, hnl, rfl, hkp⟩ := hrel
    obtain ⟨wo, rfl⟩ : ∃ wo : World, wo = wr := ⟨_, rfl⟩
    have hn400 : n ≤ 400 := by have := H.out.2.2.2.2; omega
    rcases hit.next (P := Tryz.prog) 0 with ⟨rfl, hrun⟩ | ⟨p, left', w3, hp, hrun, hit2, hk2, hs3⟩
    · obtain ⟨W0, hW0⟩ : ∃ W0, wo.alloc (.cells #[.slice va (lexP s).length vc, .int .i64 (n : Int), .bool false, .int .i64 0] 274) = W0 := ⟨_, rfl⟩
      have ka : Kept none' wo W0 := by rw [← hW0]; exact (Kept.refl _ _).alloc _
      have hs1 := H1.out.2.2.2.2.1.size
      have hs12 := H1.out.2.2.2.2.2
      have hsz := hkp.size
      have hown : W0.ownsRow (w.alloc (.cells #[.int .u8 0, .int .i64 0, .slice none 0 0] 40)).heap.size 299 4 (.slice va (lexP s).length vc) (lexP s).length (toksC (lexP s)) :=
        ka.owns (hkp.owns (H1.out.2.2.2.2.1.owns H1.out.2.2.1 (fun _ _ h => h)) (fun k hk hs => by have := (H1.out.2.2.1.lt k hk).2; unfold one at hs; omega)) (fun _ _ h => h)
      have hrd : RdAt W0 wo.heap.size (lexP s) (n : Int) := by
        have hR : W0.heap[wo.heap.size]? = some (.cells #[.slice va (lexP s).length vc, .int .i64 (n : Int), .bool false, .int .i64 0] 274 (0, 0)) := by rw [← hW0]; exact heap_alloc_new _ _
        rcases hown.2 with ⟨e, h0⟩ | ⟨g, cap, cur, e, hbg, hg, hnc, hcm, hcs, htake⟩
        · have : lexP s = [] := List.eq_nil_of_length_eq_zero h0
          simp only [Value.slice.injEq] at e
          obtain ⟨rfl, _, rfl⟩ := e
          exact ⟨none, 0, hR, by omega, by unfold maxLen; omega, .inl this⟩
        · simp only [Value.slice.injEq, true_and] at e
          obtain ⟨rfl, rfl⟩ := e
          have hgl : g < wo.heap.size := by
            have := (H1.out.2.2.1.lt g rfl).2
            omega
          refine ⟨some ⟨g, 0, none⟩, vc, hR, hnc, hcm, .inr ⟨g, 0, rfl, hgl, fun i t ht => ?_⟩⟩
          obtain ⟨q0, q1, q2, q3⟩ := toksC_get ht
          have hc := hown.cells (g := g) rfl
          have z0 := hc _ _ q0
          have z1 := hc _ _ q1
          have z2 := hc _ _ q2
          have z3 := hc _ _ q3
          rw [Addr.add_lit] at z0 z1 z2 z3
          simp only [Nat.zero_add] at z0 z1 z2 z3 ⊢
          exact ⟨z0, z1, z2, z3⟩
      have co := ror_any wo.heap.size (n : Int) W0 (lexP s) [] x hrd H.out.2.2.1
      have hT1 : w.heap.size < w1.heap.size := (Array.getElem?_eq_some_iff.1 T1.out).1
      have hw1o : w1.heap.size < wo.heap.size := by omega
      have tT := ka.heap (hkp.heap H1.out.2.1 (show ¬ (w.heap.size = w1.heap.size) by
        have := (Array.getElem?_eq_some_iff.1 H1.out.2.1).1
        have := H1.out.1.size
        have h2 := H1.out.2.2.1.1
        have := (Array.getElem?_eq_some_iff.1 T1.out).1
        omega)) (fun h => h)
      have kw0 : Kept none' w W0 := (H1.out.1.new hkp (fun i hi hs => by unfold one at hs; have := (Array.getElem?_eq_some_iff.1 T1.out).1; omega)).trans ka
      have hsz0 : W0.heap.size = wo.heap.size + 1 := by rw [← hW0]; simp
      have K0 := Lib.hid (And.intro kw0 tT)
      have HW := Lib.hid hW0
      have hT0 : w.heap.size < W0.heap.size := (Array.getElem?_eq_some_iff.1 tT).1
      clear hit hk hnl hkp ka hown hrd kw0 tT hW0 hs1 hs12
      go_wp2_with fail
      rw [HW.out]
      (with_reducible refine co.mono ?_)
      clear co
      rintro e w5 ⟨p, c, D, rfl, hx, hD, r5, k5⟩
      have kx : Kept none' w5 (w5.alloc (.cells (exC x p c).toArray 40)) := (Kept.refl _ _).alloc _
      obtain ⟨W6, hW6⟩ : ∃ W6, w5.alloc (.cells (exC x p c).toArray 40) = W6 := ⟨_, rfl⟩
      have hW6' : w5.alloc (.cells #[.int .u8 x.op, .int .i64 x.n, .slice p x.args.length c] 40) = W6 := hW6
      have x6 : W6.heap[w5.heap.size]? = some (.cells (exC x p c).toArray 40 (0, 0)) := by rw [← hW6]; exact heap_alloc_new _ _
      rw [hW6] at kx
      have r6 := r5.pure kx
      obtain ⟨ta, tcap, l6⟩ := r6.list
      have b6 := r6.bad
      have hR6 : wo.heap.size < W6.heap.size := r6.lt
      have hx6 := hx.kept kx (fun _ _ h => h)
      have cd := deep_any x _ W6 H.out.2.2.2.1 hx6.at
      have t6 := kx.heap (k5.heap K0.out.2 (fun h => by unfold one at h; omega)) (fun h => h)
      have k06 : Kept (one wo.heap.size) W0 W6 := k5.trans kx.pure
      have a0 := cells_at x6 (j := 0) rfl
      have a1 := cells_at x6 (j := 1) rfl
      have a2 := cells_at x6 (j := 2) rfl
      have hX6 : w5.heap.size < W6.heap.size := (Array.getElem?_eq_some_iff.1 x6).1
      have Z := Lib.hid (And.intro hx6 (And.intro t6 (And.intro k06 (And.intro x6 (show ∀ k, D k → W0.heap.size ≤ k ∧ k < W6.heap.size from fun k hk => by have := hD k hk; have := kx.size; omega)))))
      have HW6 := Lib.hid hW6'
      rw [← hW6'] at l6 b6 a0 a1 a2 cd hR6 hX6
      clear hx hD r5 k5 kx hW6 hW6' x6 r6 hx6 t6 k06 HW
      go_wp2_with fail
      (with_reducible refine cd.mono ?_)
      clear cd
      rintro e w7 ⟨m, rfl, hm1, hm2, k7⟩
      rw [HW6.out] at k7
      have hx7 := Z.out.1.kept k7 (fun _ _ h => h)
      have t7 := k7.heap Z.out.2.1 (fun h => h)
      have x7 := k7.heap Z.out.2.2.2.1 (fun h => h)
      have b7 := k7.cell (p := ⟨wo.heap.size, 2, none⟩) (fun h => h) (by rw [HW6.out] at b6; exact b6)
      have a0 := cells_at x7 (j := 0) rfl
      have a1 := cells_at x7 (j := 1) rfl
      have a2 := cells_at x7 (j := 2) rfl
      have f0 := free_at t7 0
      have f1 := free_at t7 1
      have f2 := free_at t7 2
      have z0 := cells_at t7 (j := 0) rfl
      have z1 := cells_at t7 (j := 1) rfl
      have z2 := cells_at t7 (j := 2) rfl
      have hX7 : w5.heap.size < w7.heap.size := (Array.getElem?_eq_some_iff.1 x7).1
      have hT7 : w.heap.size < w7.heap.size := (Array.getElem?_eq_some_iff.1 t7).1
      obtain ⟨s8, k8⟩ := store3 t7 (.int .u8 x.op) (.int .i64 x.n) (.slice p x.args.length c)
      have F : ExprQ w x (.returned (.tuple #[.agg (exC x p c).toArray, .int .i64 0, .int .i64 0])) (((w7.setCell ⟨w.heap.size, 0, none⟩ (.int .u8 x.op)).setCell ⟨w.heap.size, 1, none⟩ (.int .i64 x.n)).setCell ⟨w.heap.size, 2, none⟩ (.slice p x.args.length c)) := by
        have h0 := K0.out.1.size
        have h7 := k7.size
        have h8 := k8.size
        refine ⟨p, c, D, rfl, hx7.kept k8 (fun k hk hs => by have := Z.out.2.2.2.2 k hk; unfold one at hs; omega), fun k hk => by have := Z.out.2.2.2.2 k hk; omega, ((K0.out.1.new Z.out.2.2.1 (fun i hi hs => by unfold one at hs; omega)).trans k7).new k8 (fun i hi hs => by unfold one at hs; omega)⟩
      have hm16 : ¬ (16 < m) := by omega
      have FF := Lib.hid (And.intro F s8)
      clear F s8 k8 hx7 t7 x7 k7 l6 b6
      go_wp2_with fail
      obtain ⟨WF, hWF⟩ : ∃ WF, (((w7.setCell ⟨w.heap.size, 0, none⟩ (.int .u8 x.op)).setCell ⟨w.heap.size, 1, none⟩ (.int .i64 x.n)).setCell ⟨w.heap.size, 2, none⟩ (.slice p x.args.length c)) = WF := ⟨_, rfl⟩
      obtain ⟨F, s5⟩ := FF.out
      rw [hWF] at s5 F ⊢
      have q0 := cells_at s5 (j := 0) rfl
      have q1 := cells_at s5 (j := 1) rfl
      have q2 := cells_at s5 (j := 2) rfl
      refine bodyPost_ret (v := .tuple #[.agg (exC x p c).toArray, .int .i64 0, .int .i64 0]) (by simp [results, Tryz.results160, go_sem, q0, q1, q2]) rfl F
    · have hm : left'.length < gk := by rw [hp] at hk; simp at hk; omega
      have hnl' : n + 1 + left'.length = (runes s).length := by rw [hp] at hnl; simp at hnl; omega
      have hnw : IntKind.i64.wrap ((n : Int) + 1) = ((n + 1 : Nat) : Int) := wrapN (n := n + 1) (by omega)
      have G := Lib.hid (And.intro hit2 (And.intro hm (And.intro hnl' (hkp.trans hk2))))
      clear hit hk hnl hkp hit2 hm hnl' hp hk2 hs3
      go_wp2
      go_roundg left'.length
      case rel => exact ⟨left', n + 1, G.out.1, rfl, G.out.2.2.1, by go_num, G.out.2.2.2⟩
      case measure => exact G.out.2.1
end Go.Proofs.YtglbkodmmogomaaGreatDoor
