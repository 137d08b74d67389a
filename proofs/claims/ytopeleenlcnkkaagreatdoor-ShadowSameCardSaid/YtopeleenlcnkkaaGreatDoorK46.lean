/-
  ROWS OF OUTPUTS in memory, beside one another: their slices stand in one block.
-/
import Derived.Test.YtopeleenlcnkkaaGreatDoorK45
set_option linter.unusedVariables false
set_option linter.unusedSimpArgs false
namespace Go.Proofs.YtopeleenlcnkkaaGreatDoor
open Go Go.RowKit
theorem Tryz.info80 : ∃ i z, Tryz.prog.info? 80 = some i ∧ i.zero = some z ∧ i.size = 2 ∧ i.bytes = 16 ∧ z.cells.size = 2 := by
 have h : (Tryz.prog.info? 80).map (fun i => (i.zero, i.size, i.bytes)) = some (some (.agg #[.int .i64 0, .int .i64 0]), 2, 16) := by kernel_rfl
 obtain ⟨i, hi, h⟩ := Option.map_eq_some_iff.1 h
 simp only [Prod.mk.injEq] at h
 exact ⟨i, _, hi, h.1, h.2.1, h.2.2, by rfl⟩
def outC (l : List Outp) : List Value := l.flatMap fun o => [.int .i64 o.1, .int .i64 o.2]
theorem outC_length : ∀ l : List Outp, (outC l).length = l.length * 2
 | [] => rfl
 | o :: l => by
  have := outC_length l
  unfold outC at this ⊢
  rw [List.flatMap_cons, List.length_append, this, List.length_cons]
  simp; omega
theorem outC_snoc (l : List Outp) (o : Outp) : outC (l ++ [o]) = outC l ++ [.int .i64 o.1, .int .i64 o.2] := by
 unfold outC; rw [List.flatMap_append]; rfl
theorem outC_get : ∀ {l : List Outp} {i : Nat} {o : Outp}, l[i]? = some o → (outC l)[i * 2]? = some (.int .i64 o.1) ∧ (outC l)[i * 2 + 1]? = some (.int .i64 o.2)
 | [], i, o, h => by cases h
 | p :: l, 0, o, h => by cases h; exact ⟨rfl, rfl⟩
 | p :: l, i + 1, o, h => by
  have := outC_get (l := l) (i := i) (o := o) h
  unfold outC at this ⊢
  rw [List.flatMap_cons, show (i + 1) * 2 = i * 2 + 1 + 1 by omega]
  exact this
theorem push_out {w : World} {base n : Nat} {va : Value} {l : List Outp} (h : w.ownsRow base 80 2 va n (outC l)) (o : Outp) (hb : base ≤ w.heap.size) (hn : n ≤ 100000) :
  ∃ va' w', (Builtin.append_ #[78, 78] 78 #[va, .slice (some ⟨w.heap.size, 0, none⟩) 1 1]).run Tryz.prog (w.alloc (.cells #[.int .i64 o.1, .int .i64 o.2] 80)) = .ok va' w' ∧ w'.ownsRow base 80 2 va' (n + 1) (outC (l ++ [o])) ∧
   Kept (fun q => va.ownBlock = some q) w w' ∧ ∀ q, va'.ownBlock = some q → va.ownBlock = some q ∨ w.heap.size ≤ q := by
 obtain ⟨i, z, hi, hz, hs, hby, hzs⟩ := Tryz.info80
 obtain ⟨news, hnews0⟩ : ∃ news : List Value, [Value.int .i64 o.1, .int .i64 o.2] = news := ⟨_, rfl⟩
 have hl : news.length = 2 := by rw [← hnews0]; rfl
 have h1 : ∀ x ∈ news, x.oneCell' = true := by rw [← hnews0]; intro y hy; simp at hy; rcases hy with rfl | rfl <;> rfl
 rw [outC_snoc, show (#[Value.int .i64 o.1, .int .i64 o.2] : Array Value) = [Value.int .i64 o.1, .int .i64 o.2].toArray from rfl, hnews0]
 clear hnews0
 obtain ⟨cs, hcs⟩ : ∃ cs, outC l = cs := ⟨_, rfl⟩
 rw [hcs] at h ⊢
 clear hcs
 have kA : Kept none' w (w.alloc (.cells news.toArray 80)) := (Kept.refl _ _).alloc _
 have hr := Reads.lit w news 80 2 1 (by omega) (by unfold maxLen; omega)
 have hA := kA.owns h (fun _ _ h => h)
 have hcl : cs.length = n * 2 := h.1
 obtain ⟨v', n', w', b1, b2, b3, b4, _⟩ := run_append_reads (P := Tryz.prog) base 78 78 80 i z 2 16 Tryz.underlying78 hi hz hs hby hzs (by omega) hA hr h1
  (by rw [hl]; omega) (by rw [hl]; unfold maxLen; omega) (by have := kA.size; omega)
 have hn' : n' = n + 1 := by rw [hl] at b3; omega
 subst hn'
 refine ⟨v', w', b1, b2, kA.pure.trans (Kept.grown b4 (fun k hk _ => hk)), fun q hq => ?_⟩
 have hsz : (w.alloc (.cells news.toArray 80)).heap.size = w.heap.size + 1 := by simp
 have hnews : ∀ j v, news[j]? = some v → (w.alloc (.cells news.toArray 80)).cell? ((⟨w.heap.size, 0, none⟩ : Addr).add j) = some v := fun j v hj => by
  rw [Addr.add_lit, World.cell?_alloc_new]; simpa using hj
 rcases h.2 with ⟨rfl, rfl⟩ | ⟨g, cap, cur, rfl, hbg, hg, hnc, hcm, hcs, htake⟩
 ·have hr := run_append_nil (P := Tryz.prog) (w.alloc (.cells news.toArray 80)) 78 78 80 i z Tryz.underlying78 hi hz ⟨w.heap.size, 0, none⟩ 1 1 news (by rw [hs]; omega) hnews (by omega) (by omega) (by omega)
  rw [b1] at hr
  injection hr with e1 e2
  rw [e1] at hq
  right
  have : (w.alloc (.cells news.toArray 80)).heap.size = q := by simpa [Value.ownBlock] using hq
  omega
 ·by_cases hroom : n + 1 ≤ cap
  ·obtain ⟨w2, hr, _⟩ := run_append_fits (P := Tryz.prog) (w.alloc (.cells news.toArray 80)) base 78 78 80 i 2 Tryz.underlying78 hi hs g n cap cs hA ⟨w.heap.size, 0, none⟩ 1 1 news (by omega) hnews h1 hroom
   rw [b1] at hr
   injection hr with e1 e2
   rw [e1] at hq
   left
   exact hq
  ·have holds : ∀ j u, cs[j]? = some u → (w.alloc (.cells news.toArray 80)).cell? ((⟨g, 0, none⟩ : Addr).add j) = some u := hA.cells (g := g) rfl
   have hr := run_append_grow (P := Tryz.prog) (w.alloc (.cells news.toArray 80)) 78 78 80 i z Tryz.underlying78 hi hz ⟨g, 0, none⟩ n cap cs (by rw [hs]; exact hcl) holds ⟨w.heap.size, 0, none⟩ 1 1 news (by rw [hs]; omega) hnews (by omega) (by omega) (growslice_fits (by omega) (by rw [hby]; omega))
   rw [b1] at hr
   injection hr with e1 e2
   rw [e1] at hq
   right
   have : (w.alloc (.cells news.toArray 80)).heap.size = q := by simpa [Value.ownBlock] using hq
   omega
structure OutsAt (w : World) (base B E : Nat) (V : List Value) (O : List (List Outp)) : Prop where
 blk : w.heap[B]? = some (.cells V.toArray E (0, 0))
 len : V.length = O.length
 own : ∀ (i : Nat) (v : Value) (o : List Outp), V[i]? = some v → O[i]? = some o → w.ownsRow base 80 2 v o.length (outC o)
 dist : ∀ (i k : Nat) (v u : Value) (q : Nat), i ≠ k → V[i]? = some v → V[k]? = some u → v.ownBlock = some q → u.ownBlock ≠ some q
 ne : ∀ (i : Nat) (v : Value) (q : Nat), V[i]? = some v → v.ownBlock = some q → q ≠ B
def outBk (B : Nat) (V : List Value) : Nat → Prop := fun q => q = B ∨ ∃ (i : Nat) (v : Value), V[i]? = some v ∧ v.ownBlock = some q
theorem OutsAt.keptS {S : Nat → Prop} {w w' : World} {base B E : Nat} {V : List Value} {O : List (List Outp)} (h : OutsAt w base B E V O) (hk : Kept S w w') (hS : ∀ q, outBk B V q → ¬ S q) : OutsAt w' base B E V O :=
 ⟨hk.heap h.blk (hS B (.inl rfl)), h.len, fun i v o hv ho => hk.owns (h.own i v o hv ho) (fun k hk hs => hS k (.inr ⟨i, v, hv, hk⟩) hs), h.dist, h.ne⟩
theorem OutsAt.pure {w w' : World} {base B E : Nat} {V : List Value} {O : List (List Outp)} (h : OutsAt w base B E V O) (hk : Kept none' w w') : OutsAt w' base B E V O := h.keptS hk (fun _ _ h => h)
theorem OutsAt.lt {w : World} {base B E : Nat} {V : List Value} {O : List (List Outp)} (h : OutsAt w base B E V O) {q : Nat} (hq : outBk B V q) : q < w.heap.size := by
 rcases hq with rfl | ⟨i, v, hv, hq⟩
 ·exact (Array.getElem?_eq_some_iff.1 h.blk).1
 ·obtain ⟨o, ho⟩ : ∃ o, O[i]? = some o := ⟨_, List.getElem?_eq_getElem (by rw [← h.len]; exact (List.getElem?_eq_some_iff.1 hv).1)⟩
  exact ((h.own i v o hv ho).lt q hq).2
theorem OutsAt.isCells {w : World} {base B E : Nat} {V : List Value} {O : List (List Outp)} (h : OutsAt w base B E V O) {q : Nat} (hq : outBk B V q) : ∃ c T f, w.heap[q]? = some (.cells c T f) := by
 rcases hq with rfl | ⟨i, v, hv, hq⟩
 ·exact ⟨_, _, _, h.blk⟩
 ·obtain ⟨o, ho⟩ : ∃ o, O[i]? = some o := ⟨_, List.getElem?_eq_getElem (by rw [← h.len]; exact (List.getElem?_eq_some_iff.1 hv).1)⟩
  rcases (h.own i v o hv ho).2 with ⟨rfl, _⟩ | ⟨g, cap, cur, rfl, _, hg, _⟩
  ·cases hq
  ·cases hq; exact ⟨_, _, _, hg⟩
theorem outs_new {w : World} {base B E : Nat} (h : w.heap[B]? = some (.cells #[.slice none 0 0, .slice none 0 0, .slice none 0 0, .slice none 0 0] E (0, 0))) : OutsAt w base B E [.slice none 0 0, .slice none 0 0, .slice none 0 0, .slice none 0 0] [[], [], [], []] := by
 have hall : ∀ (i : Nat) (v : Value), ([.slice none 0 0, .slice none 0 0, .slice none 0 0, .slice none 0 0] : List Value)[i]? = some v → v = .slice none 0 0 := fun i v hv => by
  have := List.mem_of_getElem? hv
  simpa using this
 have hal2 : ∀ (i : Nat) (o : List Outp), ([[], [], [], []] : List (List Outp))[i]? = some o → o = [] := fun i o ho => by
  have := List.mem_of_getElem? ho
  simpa using this
 refine ⟨h, rfl, fun i v o hv ho => ?_, fun i k v u q _ hv _ hq => ?_, fun i v q hv hq => ?_⟩
 ·rw [hall i v hv, hal2 i o ho]; exact World.ownsRow_nil _ _ _ _
 ·rw [hall i v hv] at hq; cases hq
 ·rw [hall i v hv] at hq; cases hq
theorem OutsAt.ty {w : World} {base B E : Nat} {V : List Value} {O : List (List Outp)} (h : OutsAt w base B E V O) {q : Nat} (hq : outBk B V q) : ∃ c T f, w.heap[q]? = some (.cells c T f) ∧ (T = E ∨ T = 80) := by
 rcases hq with rfl | ⟨i, v, hv, hq⟩
 ·exact ⟨_, _, _, h.blk, .inl rfl⟩
 ·obtain ⟨o, ho⟩ : ∃ o, O[i]? = some o := ⟨_, List.getElem?_eq_getElem (by rw [← h.len]; exact (List.getElem?_eq_some_iff.1 hv).1)⟩
  rcases (h.own i v o hv ho).2 with ⟨rfl, _⟩ | ⟨g, cap, cur, rfl, _, hg, _⟩
  ·cases hq
  ·cases hq; exact ⟨_, _, _, hg, .inr rfl⟩
theorem OutsAt.at_ {w : World} {base B E : Nat} {V : List Value} {O : List (List Outp)} (h : OutsAt w base B E V O) {q : Nat} (hq : outBk B V q) : q = B ∨ base ≤ q := by
 rcases hq with rfl | ⟨i, v, hv, hq⟩
 ·exact .inl rfl
 ·obtain ⟨o, ho⟩ : ∃ o, O[i]? = some o := ⟨_, List.getElem?_eq_getElem (by rw [← h.len]; exact (List.getElem?_eq_some_iff.1 hv).1)⟩
  exact .inr ((h.own i v o hv ho).lt q hq).1
theorem TabsAt.map_no {w : World} {m : Nat} {Ts : Tabs} {pm : Nat → Nat × Nat} (h : TabsAt w m Ts pm) : ∀ c E f, w.heap[m]? ≠ some (.cells c E f) := by
 obtain ⟨l, h1, _⟩ := h.map
 intro c E f e
 exact NoCells.map h1 AnyB m rfl trivial h1.lt c E f e
theorem OutsAt.push {w : World} {base B E : Nat} {V : List Value} {O : List (List Outp)} (h : OutsAt w base B E V O) (hb : base ≤ w.heap.size) {i : Nat} {v : Value} {l : List Outp} (hv : V[i]? = some v) (hl : O[i]? = some l) (hn : l.length ≤ 100000) (o : Outp) :
  ∃ a cap w1, (Builtin.append_ #[78, 78] 78 #[v, .slice (some ⟨w.heap.size, 0, none⟩) 1 1]).run Tryz.prog (w.alloc (.cells #[.int .i64 o.1, .int .i64 o.2] 80)) = .ok (.slice a (l.length + 1) cap) w1 ∧
   Kept (fun q => v.ownBlock = some q) w w1 ∧ w1.heap[B]? = some (.cells V.toArray E (0, 0)) ∧
   OutsAt (w1.setCell ⟨B, i, none⟩ (.slice a (l.length + 1) cap)) base B E (V.set i (.slice a (l.length + 1) cap)) (O.set i (l ++ [o])) ∧
   Kept (outBk B V) w (w1.setCell ⟨B, i, none⟩ (.slice a (l.length + 1) cap)) ∧ ∀ q, outBk B (V.set i (.slice a (l.length + 1) cap)) q → outBk B V q ∨ w.heap.size ≤ q := by
 have hown := h.own i v l hv hl
 obtain ⟨va', w1, g1, g2, g3, g4⟩ := push_out hown o hb hn
 obtain ⟨a, cap, rfl⟩ := owns_slice g2
 have hB1 : ¬ v.ownBlock = some B := fun e => h.ne i v B hv e rfl
 have hB2 : w1.heap[B]? = some (.cells V.toArray E (0, 0)) := g3.heap h.blk hB1
 have hset := set_at hB2 i (.slice a (l.length + 1) cap)
 have hBlt := h.lt (q := B) (.inl rfl)
 have ks : Kept (one B) w1 (w1.setCell ⟨B, i, none⟩ (.slice a (l.length + 1) cap)) := Kept.setCell (p := ⟨B, i, none⟩) (Kept.refl (one B) _) (.inl rfl) _
 have hnewB : ∀ q, (Value.slice a (l.length + 1) cap).ownBlock = some q → q ≠ B := fun q hq => by
  rcases g4 q hq with e | e
  ·exact h.ne i v q hv e
  ·omega
 have hil : i < V.length := (List.getElem?_eq_some_iff.1 hv).1
 have hio : i < O.length := (List.getElem?_eq_some_iff.1 hl).1
 refine ⟨a, cap, w1, g1, g3, hB2, ⟨by simpa using hset, by simp [h.len], fun k u p hu hp => ?_, fun k m u x q hkm hu hx hq => ?_, fun k u q hu hq => ?_⟩, ?_, fun q hq => ?_⟩
 ·by_cases hk : i = k
  ·subst hk
   rw [List.getElem?_set_self hil] at hu
   rw [List.getElem?_set_self hio] at hp
   cases hu; cases hp
   rw [List.length_append, List.length_singleton]
   exact ks.owns g2 (fun k hk hs => hnewB k hk hs)
  ·rw [List.getElem?_set_ne hk] at hu hp
   have ho := h.own k u p hu hp
   exact ks.owns (g3.owns ho (fun q hq hs => h.dist i k v u q hk hv hu hs hq)) (fun q hq hs => h.ne k u q hu hq hs)
 ·by_cases hk : i = k
  ·subst hk
   rw [List.getElem?_set_self hil] at hu
   cases hu
   rw [List.getElem?_set_ne hkm] at hx
   intro e
   rcases g4 q hq with e1 | e1
   ·exact h.dist i m v x q hkm hv hx e1 e
   ·have := h.lt (q := q) (.inr ⟨m, x, hx, e⟩); omega
  ·rw [List.getElem?_set_ne hk] at hu
   by_cases hm : i = m
   ·subst hm
    rw [List.getElem?_set_self hil] at hx
    cases hx
    intro e
    rcases g4 q e with e1 | e1
    ·exact h.dist k i u v q hkm hu hv hq e1
    ·have := h.lt (q := q) (.inr ⟨k, u, hu, hq⟩); omega
   ·rw [List.getElem?_set_ne hm] at hx
    exact h.dist k m u x q hkm hu hx hq
 ·by_cases hk : i = k
  ·subst hk
   rw [List.getElem?_set_self hil] at hu
   cases hu
   exact hnewB q hq
  ·rw [List.getElem?_set_ne hk] at hu
   exact h.ne k u q hu hq
 ·exact (g3.mono (S' := outBk B V) (fun k _ hs => .inr ⟨i, v, hv, hs⟩)).new ks (fun k _ hs => .inl hs)
 ·rcases hq with rfl | ⟨k, u, hu, hq⟩
  ·exact .inl (.inl rfl)
  ·by_cases hk : i = k
   ·subst hk
    rw [List.getElem?_set_self hil] at hu
    cases hu
    rcases g4 q hq with e | e
    ·exact .inl (.inr ⟨i, v, hv, e⟩)
    ·exact .inr e
   ·rw [List.getElem?_set_ne hk] at hu
    exact .inl (.inr ⟨k, u, hu, hq⟩)
end Go.Proofs.YtopeleenlcnkkaaGreatDoor
/-
 shadow: Part, add.
-/
namespace Go.Proofs.YtopeleenlcnkkaaGreatDoor
open Go Go.RowKit
attribute [local irreducible] wpL wpTr H2.wpH
set_option maxRecDepth 100000 in
set_option maxHeartbeats 1000000 in
theorem part_any (key : Int) (w : World) : Calls Tryz.prog 38 #[.int .i64 key] w fun e w' => e = .returned (.int .i64 ((partOf key : Nat) : Int)) ∧ w = w' := by
 have hg := And.intro (grp_lo key) (grp_hi key)
 unfold partOf
 obtain ⟨g, hgg⟩ : ∃ g, grp key = g := ⟨_, rfl⟩
 have co := of_any key w
 rw [hgg] at hg co ⊢
 clear hgg
 go_enter Tryz.func38, Tryz.ntmps38
 go_wp2_with fail
 (with_reducible refine co.mono ?_)
 clear co
 rintro e w' ⟨rfl, rfl⟩
 have h8 : g = 0 ∨ g = 1 ∨ g = 2 ∨ g = 3 ∨ g = 4 ∨ g = 5 ∨ g = 6 ∨ g = 7 := by omega
 clear hg
 rcases h8 with rfl | rfl | rfl | rfl | rfl | rfl | rfl | rfl <;>
 ·go_wp2_with fail
  go_ret
  exact ⟨ret_int (by decide), rfl⟩
def AddQ (w : World) (base B E : Nat) (V : List Value) (O : List (List Outp)) (i : Nat) (l : List Outp) (o : Outp) (e : Ending) (w' : World) : Prop :=
 e = .returned (.tuple #[]) ∧ ∃ V', OutsAt w' base B E V' (O.set i (l ++ [o])) ∧ Kept (outBk B V) w w' ∧ ∀ q, outBk B V' q → outBk B V q ∨ w.heap.size ≤ q
set_option maxRecDepth 100000 in
set_option maxHeartbeats 1000000 in
theorem add_any (w : World) (base B E : Nat) (V : List Value) (O : List (List Outp)) (off p : Nat) (r : Rec) (l : List Outp) (h : OutsAt w base B E V O) (hb : base ≤ w.heap.size) (hl : O[off + p]? = some l) (hp : p < 2) (hn : l.length ≤ 100000) :
  Calls Tryz.prog 50 #[.pointer (some ⟨B, off, none⟩), .int .i64 (p : Int), .agg #[.int .i64 r.pos, .int .i64 r.key, .int .i64 r.val]] w (AddQ w base B E V O (off + p) l (r.key, r.val)) := by
 obtain ⟨v, hv⟩ : ∃ v, V[off + p]? = some v := ⟨_, List.getElem?_eq_getElem (by rw [h.len]; exact (List.getElem?_eq_some_iff.1 hl).1)⟩
 have kA : Kept none' w (w.alloc (.cells #[.int .i64 r.pos, .int .i64 r.key, .int .i64 r.val] 44)) := (Kept.refl _ _).alloc _
 have rB : (w.alloc (.cells #[.int .i64 r.pos, .int .i64 r.key, .int .i64 r.val] 44)).heap[w.heap.size]? = some (.cells #[.int .i64 r.pos, .int .i64 r.key, .int .i64 r.val] 44 (0, 0)) := heap_alloc_new _ _
 have hB0 := h.lt (q := B) (.inl rfl)
 go_enter Tryz.func50, Tryz.ntmps50
 go_wp2_with fail
 obtain ⟨W1, hW1⟩ : ∃ W1, w.alloc (.cells #[.int .i64 r.pos, .int .i64 r.key, .int .i64 r.val] 44) = W1 := ⟨_, rfl⟩
 rw [hW1] at kA rB ⊢
 have hsz : W1.heap.size = w.heap.size + 1 := by rw [← hW1]; simp
 clear hW1
 have h1 := h.pure kA
 have hd1 := h1.pure (Kept.refl none' W1).drew
 have hbd : base ≤ W1.drew.heap.size := Nat.le_trans hb (by have : W1.drew.heap.size = W1.heap.size := rfl; omega)
 obtain ⟨a, cap, w2, g1, g2, g3, g4, g5, g6⟩ := hd1.push hbd hv hl hn (r.key, r.val)
 obtain ⟨va, vc, hve⟩ := owns_slice (h1.own _ _ _ hv hl)
 subst hve
 have hdal : ∀ o, W1.drew.alloc o = (W1.alloc o).drew := fun o => rfl
 have hdsz : W1.drew.heap.size = W1.heap.size := rfl
 rw [hdal, hdsz] at g1
 dsimp only at g1
 have y : W1.cell? ⟨B, off + p, none⟩ = some (.slice va l.length vc) := cells_at h1.blk (by simpa using hv)
 have hno : ¬ (Value.slice va l.length vc).ownBlock = some B := fun e => h.ne _ _ _ hv e rfl
 have hno2 : ¬ (Value.slice va l.length vc).ownBlock = some w.heap.size := fun e => by have := h.lt (q := w.heap.size) (.inr ⟨_, _, hv, e⟩); omega
 have ws := cells_at (g3) (j := off + p) (v := .slice va l.length vc) (by simpa using hv)
 have wf := free_at g3 (off + p)
 have F : AddQ w base B E V O (off + p) l (r.key, r.val) (.returned (.tuple #[])) (w2.setCell ⟨B, off + p, none⟩ (.slice a (l.length + 1) cap)) :=
  ⟨rfl, _, g4, kA.pure.trans (g5.drew_left), fun q hq => (g6 q hq).imp id (fun h => by omega)⟩
 have kg : Kept (fun q => (Value.slice va l.length vc).ownBlock = some q) W1 w2 := g2.drew_left
 have Z := Lib.hid (And.intro F (And.intro rB (And.intro y (And.intro hno (And.intro hno2 kg)))))
 have G1 := Lib.hid g1
 clear F rB y hno hno2 kg g1 g2 g3 g4 g5 g6 h1 hd1 h hv hl kA hdal hbd
 have hpI : (p : Int) < 2 := by omega
 refine H2.wp_region_hot [0, 1, 2, 3, 4, 5, 6, 7, 8, 9, 10, 11, 14, 12, 13, 15, 16] (fun W => Kept (fun q => (Value.slice va l.length vc).ownBlock = some q) W1 W) (by kernel_rfl) (by kernel_rfl) rfl (Kept.refl _ _).drew ?_
 simp only [List.map_cons, List.map_nil, List.getElem?_toArray, List.getElem?_cons_zero, List.getElem?_cons_succ, Option.getD_some]
 iterate 13 (first | (apply H2.wpH_pure rfl rfl; (intro W; go_simp; rfl); go_frame) | (apply H2.wpH_read rfl rfl rfl; (intro W hW; have oW := hW.cell (p := ⟨B, off + p, none⟩) Z.out.2.2.2.1 Z.out.2.2.1; have xW := hW.heap Z.out.2.1 Z.out.2.2.2.2.1; have m0 := cells_at xW (j := 0) rfl; have m1 := cells_at xW (j := 1) rfl; have m2 := cells_at xW (j := 2) rfl; clear xW; go_simp; rfl); go_frame))
 apply H2.wpH_loud rfl rfl rfl
 intro K hK
 go_wp2_with fail
 refine hK _ _ (fun _ => (Kept.refl _ _).drew.alloc _) ?_
 clear hK
 apply H2.wpH_loud rfl rfl rfl
 intro K hK
 have ZG := G1.out
 have he1 : ∀ (b : Act), b.tmps[12]? = some (Value.slice va l.length vc) → b.eval (.tmp 12) = Value.slice va l.length vc := fun b hb => by simp [Act.eval, Array.getD_eq_getD_getElem?, hb]
 have he2 : ∀ (b : Act), b.tmps[18]? = some (Value.slice (some ⟨W1.heap.size, 0, none⟩) 1 1) → b.eval (.tmp 18) = Value.slice (some ⟨W1.heap.size, 0, none⟩) 1 1 := fun b hb => by simp [Act.eval, Array.getD_eq_getD_getElem?, hb]
 refine wp_app1 (.tmp 12) (.tmp 18) 78 rfl (.slice va l.length vc) (.slice (some ⟨W1.heap.size, 0, none⟩) 1 1) (.slice a (l.length + 1) cap) (he1 _ (by simp)) (he2 _ (by simp)) ZG ?_
 refine hK _ _ (fun _ => Z.out.2.2.2.2.2) ?_
 clear hK
 go_frame
 apply H2.wpH_pure rfl rfl
 ·intro W; go_simp; rfl
 go_frame
 apply H2.wpH_hot rfl rfl rfl
 intro K2 hK2
 go_wp2_with fail
 apply H2.wpH_end
 go_wp2_with fail
 go_end0
 exact Z.out.1
end Go.Proofs.YtopeleenlcnkkaaGreatDoor
