/-
  ROWS OF OUTPUTS in memory, beside one another: their slices stand in one block.
-/
import Derived.Test.YtopeleenlcnkkaaGreatDoorM44
import Derived.Test.YtopeleenlcnkkaaGreatDoorM34
import Derived.Test.YtopeleenlcnkkaaGreatDoorM18
set_option linter.unusedVariables false
set_option linter.unusedSimpArgs false
namespace Go.Proofs.YtopeleenlcnkkaaGreatDoor
open Go Go.RowKit
theorem Tryz.info80 : ∃ i z, Tryz.prog.info? 80 = some i ∧ i.zero = some z ∧ i.size = 2 ∧ i.bytes = 16 ∧ z.cells.size = 2 := by
  have h : (Tryz.prog.info? 80).map (fun i => (i.zero, i.size, i.bytes)) = some (some (.agg #[.int .i64 0, .int .i64 0]), 2, 16) := by kernel_rfl
  obtain ⟨i, hi, h⟩ := Option.map_eq_some_iff.1 h
  simp only [Prod.mk.injEq] at h
  exact ⟨i, _, hi, h.1, h.2.1, h.2.2, by rfl⟩
def outC (l : List Outp) : List Value := l.flatMap fun o => [.int .i64 o.1, .int .i64 o.2]
theorem outC_snoc (l : List Outp) (o : Outp) : outC (l ++ [o]) = outC l ++ [.int .i64 o.1, .int .i64 o.2] := by
  unfold outC; rw [List.flatMap_append]; rfl
theorem push_out {w : World} {base n : Nat} {va : Value} {l : List Outp} (h : w.ownsRow base 80 2 va n (outC l)) (o : Outp) (hb : base ≤ w.heap.size) (hn : n ≤ 100000) :
    ∃ va' w', (Builtin.append_ #[78, 78] 78 #[va, .slice (some ⟨w.heap.size, 0, none⟩) 1 1]).run Tryz.prog (w.alloc (.cells #[.int .i64 o.1, .int .i64 o.2] 80)) = .ok va' w' ∧ w'.ownsRow base 80 2 va' (n + 1) (outC (l ++ [o])) ∧
      Kept (fun q => va.ownBlock = some q) w w' ∧ ∀ q, va'.ownBlock = some q → va.ownBlock = some q ∨ w.heap.size ≤ q := by
  obtain ⟨i, z, hi, hz, hs, hby, hzs⟩ := Tryz.info80
  obtain ⟨news, hnews0⟩ : ∃ news : List Value, [Value.int .i64 o.1, .int .i64 o.2] = news := ⟨_, rfl⟩
  have hl : news.length = 2 := by rw [← hnews0]; rfl
  have h1 : ∀ x ∈ news, x.oneCell' = true := by rw [← hnews0]; intro y hy; simp at hy; rcases hy with rfl | rfl <;> rfl
  rw [outC_snoc, show (#[Value.int .i64 o.1, .int .i64 o.2] : Array Value) = [Value.int .i64 o.1, .int .i64 o.2].toArray from rfl, hnews0]
  clear hnews0
  obtain ⟨cs, hcs⟩ : ∃ cs, outC l = cs := ⟨_, rfl⟩
  rw [hcs] at h ⊢
  clear hcs
  have kA : Kept none' w (w.alloc (.cells news.toArray 80)) := (Kept.refl _ _).alloc _
  have hr := Reads.lit w news 80 2 1 (by omega) (by unfold maxLen; omega)
  have hA := kA.owns h (fun _ _ h => h)
  have hcl : cs.length = n * 2 := h.1
  obtain ⟨v', n', w', b1, b2, b3, b4, _⟩ := run_append_reads (P := Tryz.prog) base 78 78 80 i z 2 16 Tryz.underlying78 hi hz hs hby hzs (by omega) hA hr h1
    (by rw [hl]; omega) (by rw [hl]; unfold maxLen; omega) (by have := kA.size; omega)
  have hn' : n' = n + 1 := by rw [hl] at b3; omega
  subst hn'
  refine ⟨v', w', b1, b2, kA.pure.trans (Kept.grown b4 (fun k hk _ => hk)), fun q hq => ?_⟩
  have hsz : (w.alloc (.cells news.toArray 80)).heap.size = w.heap.size + 1 := by simp
  have hnews : ∀ j v, news[j]? = some v → (w.alloc (.cells news.toArray 80)).cell? ((⟨w.heap.size, 0, none⟩ : Addr).add j) = some v := fun j v hj => by
    rw [Addr.add_lit, World.cell?_alloc_new]; simpa using hj
  rcases h.2 with ⟨rfl, rfl⟩ | ⟨g, cap, cur, rfl, hbg, hg, hnc, hcm, hcs, htake⟩
  · have hr := run_append_nil (P := Tryz.prog) (w.alloc (.cells news.toArray 80)) 78 78 80 i z Tryz.underlying78 hi hz ⟨w.heap.size, 0, none⟩ 1 1 news (by rw [hs]; omega) hnews (by omega) (by omega) (by omega)
    rw [b1] at hr
    injection hr with e1 e2
    rw [e1] at hq
    right
    have : (w.alloc (.cells news.toArray 80)).heap.size = q := by simpa [Value.ownBlock] using hq
    omega
  · by_cases hroom : n + 1 ≤ cap
    · obtain ⟨w2, hr, _⟩ := run_append_fits (P := Tryz.prog) (w.alloc (.cells news.toArray 80)) base 78 78 80 i 2 Tryz.underlying78 hi hs g n cap cs hA ⟨w.heap.size, 0, none⟩ 1 1 news (by omega) hnews h1 hroom
      rw [b1] at hr
      injection hr with e1 e2
      rw [e1] at hq
      left
      exact hq
    · have holds : ∀ j u, cs[j]? = some u → (w.alloc (.cells news.toArray 80)).cell? ((⟨g, 0, none⟩ : Addr).add j) = some u := hA.cells (g := g) rfl
      have hr := run_append_grow (P := Tryz.prog) (w.alloc (.cells news.toArray 80)) 78 78 80 i z Tryz.underlying78 hi hz ⟨g, 0, none⟩ n cap cs (by rw [hs]; exact hcl) holds ⟨w.heap.size, 0, none⟩ 1 1 news (by rw [hs]; omega) hnews (by omega) (by omega) (growslice_fits (by omega) (by rw [hby]; omega))
      rw [b1] at hr
      injection hr with e1 e2
      rw [e1] at hq
      right
      have : (w.alloc (.cells news.toArray 80)).heap.size = q := by simpa [Value.ownBlock] using hq
      omega
/-- Rows O, whose slices V are the cells of block B; each row's block is its own. -/
structure OutsAt (w : World) (base B E : Nat) (V : List Value) (O : List (List Outp)) : Prop where
  blk : w.heap[B]? = some (.cells V.toArray E (0, 0))
  len : V.length = O.length
  own : ∀ (i : Nat) (v : Value) (o : List Outp), V[i]? = some v → O[i]? = some o → w.ownsRow base 80 2 v o.length (outC o)
  dist : ∀ (i k : Nat) (v u : Value) (q : Nat), i ≠ k → V[i]? = some v → V[k]? = some u → v.ownBlock = some q → u.ownBlock ≠ some q
  ne : ∀ (i : Nat) (v : Value) (q : Nat), V[i]? = some v → v.ownBlock = some q → q ≠ B
/-- Its blocks. -/
def outBk (B : Nat) (V : List Value) : Nat → Prop := fun q => q = B ∨ ∃ (i : Nat) (v : Value), V[i]? = some v ∧ v.ownBlock = some q
theorem OutsAt.keptS {S : Nat → Prop} {w w' : World} {base B E : Nat} {V : List Value} {O : List (List Outp)} (h : OutsAt w base B E V O) (hk : Kept S w w') (hS : ∀ q, outBk B V q → ¬ S q) : OutsAt w' base B E V O :=
  ⟨hk.heap h.blk (hS B (.inl rfl)), h.len, fun i v o hv ho => hk.owns (h.own i v o hv ho) (fun k hk hs => hS k (.inr ⟨i, v, hv, hk⟩) hs), h.dist, h.ne⟩
theorem OutsAt.pure {w w' : World} {base B E : Nat} {V : List Value} {O : List (List Outp)} (h : OutsAt w base B E V O) (hk : Kept none' w w') : OutsAt w' base B E V O := h.keptS hk (fun _ _ h => h)
theorem OutsAt.lt {w : World} {base B E : Nat} {V : List Value} {O : List (List Outp)} (h : OutsAt w base B E V O) {q : Nat} (hq : outBk B V q) : q < w.heap.size := by
  rcases hq with rfl | ⟨i, v, hv, hq⟩
  · exact (Array.getElem?_eq_some_iff.1 h.blk).1
  · obtain ⟨o, ho⟩ : ∃ o, O[i]? = some o := ⟨_, List.getElem?_eq_getElem (by rw [← h.len]; exact (List.getElem?_eq_some_iff.1 hv).1)⟩
    exact ((h.own i v o hv ho).lt q hq).2
/-- Each of its blocks holds cells. -/
theorem OutsAt.isCells {w : World} {base B E : Nat} {V : List Value} {O : List (List Outp)} (h : OutsAt w base B E V O) {q : Nat} (hq : outBk B V q) : ∃ c T f, w.heap[q]? = some (.cells c T f) := by
  rcases hq with rfl | ⟨i, v, hv, hq⟩
  · exact ⟨_, _, _, h.blk⟩
  · obtain ⟨o, ho⟩ : ∃ o, O[i]? = some o := ⟨_, List.getElem?_eq_getElem (by rw [← h.len]; exact (List.getElem?_eq_some_iff.1 hv).1)⟩
    rcases (h.own i v o hv ho).2 with ⟨rfl, _⟩ | ⟨g, cap, cur, rfl, _, hg, _⟩
    · cases hq
    · cases hq; exact ⟨_, _, _, hg⟩
theorem OutsAt.ty {w : World} {base B E : Nat} {V : List Value} {O : List (List Outp)} (h : OutsAt w base B E V O) {q : Nat} (hq : outBk B V q) : ∃ c T f, w.heap[q]? = some (.cells c T f) ∧ (T = E ∨ T = 80) := by
  rcases hq with rfl | ⟨i, v, hv, hq⟩
  · exact ⟨_, _, _, h.blk, .inl rfl⟩
  · obtain ⟨o, ho⟩ : ∃ o, O[i]? = some o := ⟨_, List.getElem?_eq_getElem (by rw [← h.len]; exact (List.getElem?_eq_some_iff.1 hv).1)⟩
    rcases (h.own i v o hv ho).2 with ⟨rfl, _⟩ | ⟨g, cap, cur, rfl, _, hg, _⟩
    · cases hq
    · cases hq; exact ⟨_, _, _, hg, .inr rfl⟩
theorem OutsAt.at_ {w : World} {base B E : Nat} {V : List Value} {O : List (List Outp)} (h : OutsAt w base B E V O) {q : Nat} (hq : outBk B V q) : q = B ∨ base ≤ q := by
  rcases hq with rfl | ⟨i, v, hv, hq⟩
  · exact .inl rfl
  · obtain ⟨o, ho⟩ : ∃ o, O[i]? = some o := ⟨_, List.getElem?_eq_getElem (by rw [← h.len]; exact (List.getElem?_eq_some_iff.1 hv).1)⟩
    exact .inr ((h.own i v o hv ho).lt q hq).1
/-- One output more. -/
theorem OutsAt.push {w : World} {base B E : Nat} {V : List Value} {O : List (List Outp)} (h : OutsAt w base B E V O) (hb : base ≤ w.heap.size) {i : Nat} {v : Value} {l : List Outp} (hv : V[i]? = some v) (hl : O[i]? = some l) (hn : l.length ≤ 100000) (o : Outp) :
    ∃ a cap w1, (Builtin.append_ #[78, 78] 78 #[v, .slice (some ⟨w.heap.size, 0, none⟩) 1 1]).run Tryz.prog (w.alloc (.cells #[.int .i64 o.1, .int .i64 o.2] 80)) = .ok (.slice a (l.length + 1) cap) w1 ∧
      Kept (fun q => v.ownBlock = some q) w w1 ∧ w1.heap[B]? = some (.cells V.toArray E (0, 0)) ∧
      OutsAt (w1.setCell ⟨B, i, none⟩ (.slice a (l.length + 1) cap)) base B E (V.set i (.slice a (l.length + 1) cap)) (O.set i (l ++ [o])) ∧
      Kept (outBk B V) w (w1.setCell ⟨B, i, none⟩ (.slice a (l.length + 1) cap)) ∧ ∀ q, outBk B (V.set i (.slice a (l.length + 1) cap)) q → outBk B V q ∨ w.heap.size ≤ q := by
  have hown := h.own i v l hv hl
  obtain ⟨va', w1, g1, g2, g3, g4⟩ := push_out hown o hb hn
  obtain ⟨a, cap, rfl⟩ := owns_slice g2
  have hB1 : ¬ v.ownBlock = some B := fun e => h.ne i v B hv e rfl
  have hB2 : w1.heap[B]? = some (.cells V.toArray E (0, 0)) := g3.heap h.blk hB1
  have hset := set_at hB2 i (.slice a (l.length + 1) cap)
  have hBlt := h.lt (q := B) (.inl rfl)
  have ks : Kept (one B) w1 (w1.setCell ⟨B, i, none⟩ (.slice a (l.length + 1) cap)) := Kept.setCell (p := ⟨B, i, none⟩) (Kept.refl (one B) _) (.inl rfl) _
  have hnewB : ∀ q, (Value.slice a (l.length + 1) cap).ownBlock = some q → q ≠ B := fun q hq => by
    rcases g4 q hq with e | e
    · exact h.ne i v q hv e
    · omega
  have hil : i < V.length := (List.getElem?_eq_some_iff.1 hv).1
  have hio : i < O.length := (List.getElem?_eq_some_iff.1 hl).1
  refine ⟨a, cap, w1, g1, g3, hB2, ⟨by simpa using hset, by simp [h.len], fun k u p hu hp => ?_, fun k m u x q hkm hu hx hq => ?_, fun k u q hu hq => ?_⟩, ?_, fun q hq => ?_⟩
  · by_cases hk : i = k
    · subst hk
      rw [List.getElem?_set_self hil] at hu
      rw [List.getElem?_set_self hio] at hp
      cases hu; cases hp
      rw [List.length_append, List.length_singleton]
      exact ks.owns g2 (fun k hk hs => hnewB k hk hs)
    · rw [List.getElem?_set_ne hk] at hu hp
      have ho := h.own k u p hu hp
      exact ks.owns (g3.owns ho (fun q hq hs => h.dist i k v u q hk hv hu hs hq)) (fun q hq hs => h.ne k u q hu hq hs)
  · by_cases hk : i = k
    · subst hk
      rw [List.getElem?_set_self hil] at hu
      cases hu
      rw [List.getElem?_set_ne hkm] at hx
      intro e
      rcases g4 q hq with e1 | e1
      · exact h.dist i m v x q hkm hv hx e1 e
      · have := h.lt (q := q) (.inr ⟨m, x, hx, e⟩); omega
    · rw [List.getElem?_set_ne hk] at hu
      by_cases hm : i = m
      · subst hm
        rw [List.getElem?_set_self hil] at hx
        cases hx
        intro e
        rcases g4 q e with e1 | e1
        · exact h.dist k i u v q hkm hu hv hq e1
        · have := h.lt (q := q) (.inr ⟨k, u, hu, hq⟩); omega
      · rw [List.getElem?_set_ne hm] at hx
        exact h.dist k m u x q hkm hu hx hq
  · by_cases hk : i = k
    · subst hk
      rw [List.getElem?_set_self hil] at hu
      cases hu
      exact hnewB q hq
    · rw [List.getElem?_set_ne hk] at hu
      exact h.ne k u q hu hq
  · exact (g3.mono (S' := outBk B V) (fun k _ hs => .inr ⟨i, v, hv, hs⟩)).new ks (fun k _ hs => .inl hs)
  · rcases hq with rfl | ⟨k, u, hu, hq⟩
    · exact .inl (.inl rfl)
    · by_cases hk : i = k
      · subst hk
        rw [List.getElem?_set_self hil] at hu
        cases hu
        rcases g4 q hq with e | e
        · exact .inl (.inr ⟨i, v, hv, e⟩)
        · exact .inr e
      · rw [List.getElem?_set_ne hk] at hu
        exact .inl (.inr ⟨k, u, hu, hq⟩)
end Go.Proofs.YtopeleenlcnkkaaGreatDoor
/-
  shadow: Part, add.
-/
namespace Go.Proofs.YtopeleenlcnkkaaGreatDoor
open Go Go.RowKit
attribute [local irreducible] wpL wpTr H2.wpH
end Go.Proofs.YtopeleenlcnkkaaGreatDoor
/-
  shadow.compare.
-/
namespace Go.Proofs.YtopeleenlcnkkaaGreatDoor
open Go Go.RowKit
attribute [local irreducible] wpL wpTr H2.wpH
end Go.Proofs.YtopeleenlcnkkaaGreatDoor
/-
  WHAT IS CARRIED, IN PLAIN WORDS: states of one job for another one.
-/
namespace Go.Proofs.YtopeleenlcnkkaaGreatDoor
open Go Go.RowKit
/-- The table of bytes; none's: no rows. -/
def takeT (s : ByteArray) : Tab := match takeR s.data.toList with | .ok T _ => T | .err _ => []
def longT (T : Tab) : Nat := T.foldl (fun n p => max n p.2.2.length) 0
def emptyS : ByteArray := ⟨#[]⟩
def stBad (a b : List JN) (s : St) : Bool := decide ((nodeAt a (findJ a s.1)).kind ≠ (nodeAt b (findJ b s.1)).kind) || (decide ((nodeAt b (findJ b s.1)).kind = 7) && decide ((nodeAt b (findJ b s.1)).n ≤ (longT (takeT s.2) : Int)))
def checkL (a b : List JN) : List St → ByteArray × Int
  | [] => (emptyS, 0)
  | s :: l => if takeT s.2 = [] then checkL a b l else if findJ b s.1 < 0 then (s.1, 240) else if stBad a b s = true then (s.1, 241) else checkL a b l
def checkP (a b : Jb) (l : List St) : ByteArray × Int := match loadP a l with | .error e => (emptyS, e) | .ok _ => if jobOk b = true then checkL a.nodes b.nodes l else (emptyS, 2)
def keptL (l : List St) : List St := l.filter fun s => decide (takeT s.2 ≠ [])
def carryP (a b : Jb) (l : List St) : Except Int (List St) :=
  if (checkP a b l).2 ≠ 0 then .error (checkP a b l).2 else match loadP b (keptL l) with | .ok Ts => .ok (statesP b.nodes Ts) | .error e => .error e
theorem takeT_put {T : Tab} (h : TOk T) : takeT (strOf (putL (tabL T))) = T := by
  unfold takeT
  rw [strOf_list', takeR_put h]
def keepT (t : Option Tab) : Option Tab := match t with | some [] => none | t => t
theorem loadL_kept {j : Jb} {Ts : Tabs} (hj : jobOk j = true) (h : TabsOk j.nodes Ts) : ∀ (m k : Nat), k + m = j.nodes.length →
    loadL j.nodes (keptL (statesP (j.nodes.drop k) (Ts.drop k))) ((Ts.take k).map keepT ++ List.replicate m none) = .ok (Ts.map keepT) := by
  intro m
  induction m with
  | zero =>
    intro k hk
    rw [List.drop_eq_nil_of_le (by omega), List.take_of_length_le (by have := h.len; omega)]
    simp [statesP, loadL, keptL]
  | succ m ih =>
    intro k hk
    have hkn : k < j.nodes.length := by omega
    have hkt : k < Ts.length := by rw [h.len]; exact hkn
    rw [List.drop_eq_getElem_cons hkn, List.drop_eq_getElem_cons hkt, statesP_cons]
    have hd : j.nodes[k]? = some j.nodes[k] := List.getElem?_eq_getElem hkn
    have hml : ((Ts.take k).map keepT).length = k := by rw [List.length_map, List.length_take]; omega
    have step : (Ts.take (k + 1)).map keepT ++ List.replicate m none = ((Ts.take k).map keepT ++ List.replicate (m + 1) none).set k (keepT Ts[k]) := by
      rw [List.take_add_one, List.getElem?_eq_getElem hkt, List.set_append_right _ _ (by omega), hml, Nat.sub_self, List.replicate_succ, List.set_cons_zero, List.map_append, List.append_assoc]
      rfl
    have same : ((Ts.take k).map keepT ++ List.replicate (m + 1) none).set k (none : Option Tab) = (Ts.take k).map keepT ++ List.replicate (m + 1) none := by
      rw [List.set_append_right _ _ (by omega), hml, Nat.sub_self, List.replicate_succ, List.set_cons_zero]
    have next := ih (k + 1) (by omega)
    rw [step] at next
    cases ht : Ts[k] with
    | none =>
      rw [ht, show keepT none = none from rfl, same] at next
      simpa using next
    | some T =>
      have hs : stateful (j.nodes[k]).kind = true := by
        cases hs : stateful (j.nodes[k]).kind with
        | true => rfl
        | false => have := h.not k _ hd hs; rw [List.getElem?_eq_getElem hkt, ht] at this; cases this
      obtain ⟨U, hU, hT, hf⟩ := h.has k _ hd hs
      rw [List.getElem?_eq_getElem hkt, ht] at hU
      injection hU with hU; injection hU with hU; subst hU
      rw [ht] at next
      simp only [List.cons_append, List.nil_append]
      by_cases hnil : T = []
      · subst hnil
        rw [show keepT (some []) = none from rfl, same] at next
        unfold keptL
        rw [List.filter_cons, if_neg (by simp [takeT_put TOk.nil])]
        exact next
      · have hkt : keepT (some T) = some T := by cases T with | nil => exact absurd rfl hnil | cons x l => rfl
        rw [hkt] at next
        have hfind := uid_unique hj hd
        unfold keptL
        rw [List.filter_cons, if_pos (by simp [takeT_put hT, hnil]), loadL]
        simp only [hfind]
        have hnode : nodeAt j.nodes ((k : Nat) : Int) = j.nodes[k] := by unfold nodeAt; simp [List.getD_eq_getElem?_getD, hkn]
        rw [hnode]
        have hnone : (((Ts.take k).map keepT ++ List.replicate (m + 1) none).getD (((k : Nat) : Int).toNat) none).isSome = false := by
          rw [Int.toNat_natCast, List.getD_eq_getElem?_getD, List.getElem?_append_right (by omega), hml, Nat.sub_self]
          simp [List.replicate_succ]
        rw [if_neg (by rw [hs, hnone]; simp), strOf_list', takeR_put hT]
        simp only [hf, if_true, Int.toNat_natCast]
        exact next
theorem fill_kept {nodes : List JN} {Ts : Tabs} (h : TabsOk nodes Ts) : fillL nodes (Ts.map keepT) = Ts := by
  apply List.ext_getElem?
  intro i
  by_cases hi : i < nodes.length
  · have hd : nodes[i]? = some nodes[i] := List.getElem?_eq_getElem hi
    obtain ⟨t, ht⟩ : ∃ t, Ts[i]? = some t := ⟨_, List.getElem?_eq_getElem (by rw [h.len]; exact hi)⟩
    have ht' : (Ts.map keepT)[i]? = some (keepT t) := by rw [List.getElem?_map, ht]; rfl
    rw [fillL_get nodes (Ts.map keepT) i hd ht', ht]
    cases hs : stateful (nodes[i]).kind with
    | false =>
      have := h.not i _ hd hs
      rw [ht] at this; injection this with this; subst this
      rfl
    | true =>
      obtain ⟨T, hT, _⟩ := h.has i _ hd hs
      rw [hT] at ht; injection ht with ht; subst ht
      cases T <;> rfl
  · rw [List.getElem?_eq_none (by rw [fillL_len _ _ (by simpa using h.len)]; omega), List.getElem?_eq_none (by rw [h.len]; omega)]
/-- What is kept alone comes to the same. -/
theorem load_kept {j : Jb} {Ts : Tabs} (hj : jobOk j = true) (h : TabsOk j.nodes Ts) : loadP j (keptL (statesP j.nodes Ts)) = .ok Ts := by
  have := loadL_kept hj h j.nodes.length 0 (by omega)
  simp only [List.drop_zero, List.take_zero, List.map_nil, List.nil_append] at this
  unfold loadP noTabs
  rw [if_pos hj, this]
  simp only
  rw [fill_kept h]
theorem longT_lt {T : Tab} {n : Nat} (h0 : 0 < n) (h : ∀ p ∈ T, p.2.2.length < n) : longT T < n := by
  unfold longT
  have : ∀ (T : Tab) (a : Nat), a < n → (∀ p ∈ T, p.2.2.length < n) → T.foldl (fun n p => max n p.2.2.length) a < n := by
    intro T
    induction T with
    | nil => exact fun a ha _ => ha
    | cons p T ih => exact fun a ha hT => ih _ (Nat.max_lt.2 ⟨ha, hT p (by simp)⟩) (fun q hq => hT q (by simp [hq]))
  exact this T 0 h0 h
theorem mem_states {nodes : List JN} {Ts : Tabs} {s : St} (h : s ∈ statesP nodes Ts) : ∃ (i : Nat) (d : JN) (T : Tab), nodes[i]? = some d ∧ Ts[i]? = some (some T) ∧ s = (d.uid, strOf (putL (tabL T))) := by
  unfold statesP at h
  obtain ⟨p, hp, hs⟩ := List.mem_filterMap.1 h
  obtain ⟨i, hi⟩ := List.mem_iff_getElem?.1 hp
  rw [List.getElem?_zip_eq_some] at hi
  unfold stateOf at hs
  cases e : p.2 with
  | none => rw [e] at hs; cases hs
  | some T =>
    rw [e] at hs
    injection hs with hs
    exact ⟨i, p.1, T, hi.1, by rw [hi.2, e], hs.symm⟩
theorem checkL_ok {a b : List JN} : ∀ {l : List St}, (∀ s ∈ l, takeT s.2 ≠ [] → 0 ≤ findJ b s.1 ∧ stBad a b s = false) → checkL a b l = (emptyS, 0)
  | [], _ => rfl
  | s :: l, h => by
    have ih := checkL_ok (l := l) (fun t ht => h t (by simp [ht]))
    unfold checkL
    by_cases hT : takeT s.2 = []
    · rw [if_pos hT]; exact ih
    · obtain ⟨h1, h2⟩ := h s (by simp) hT
      rw [if_neg hT, if_neg (by omega), if_neg (by rw [h2]; simp)]
      exact ih
theorem jobOk_par {j : Jb} (h : jobOk j = true) {par : Int} (h1 : 1 ≤ par) (h2 : par ≤ 4) : jobOk { j with par := par } = true := by
  obtain ⟨h3, h4⟩ := jobOk_get h
  refine jobOk_mk ?_ h4
  unfold headBad at h3 ⊢
  simp only [Bool.or_eq_false_iff, decide_eq_false_iff_not] at h3 ⊢
  omega
/-- To a job that is the same, but for Par, it stays the same. -/
theorem carry_same {j k : Jb} {Ts : Tabs} (hj : jobOk j = true) (hk : jobOk k = true) (hn : k.nodes = j.nodes) (h : TabsOk j.nodes Ts) : checkP j k (statesP j.nodes Ts) = (emptyS, 0) ∧ carryP j k (statesP j.nodes Ts) = .ok (statesP j.nodes Ts) := by
  have hc : checkP j k (statesP j.nodes Ts) = (emptyS, 0) := by
    unfold checkP
    rw [load_states hj h]
    simp only [hk, if_true]
    rw [hn]
    refine checkL_ok fun s hs hne => ?_
    obtain ⟨i, d, T, hd, hT, rfl⟩ := mem_states hs
    have hfind := uid_unique hj hd
    have hnode : nodeAt j.nodes ((i : Nat) : Int) = d := by unfold nodeAt; rw [Int.toNat_natCast, List.getD_eq_getElem?_getD, hd]; rfl
    refine ⟨by rw [hfind]; omega, ?_⟩
    unfold stBad
    simp only [hfind, hnode]
    have hst : stateful d.kind = true := by
      cases hs' : stateful d.kind with
      | true => rfl
      | false => have := h.not i d hd hs'; rw [hT] at this; cases this
    obtain ⟨U, hU, hok, hf⟩ := h.has i d hd hst
    rw [hT] at hU; injection hU with hU; injection hU with hU; subst hU
    simp only [takeT_put hok] at hne ⊢
    rw [Bool.or_eq_false_iff]
    refine ⟨by simp, ?_⟩
    rw [Bool.and_eq_false_iff]
    by_cases h7 : d.kind = 7
    · right
      obtain ⟨p, hp⟩ := List.exists_mem_of_ne_nil T hne
      have hall : ∀ q ∈ T, 1 ≤ q.2.2.length ∧ (q.2.2.length : Int) < d.n := fun q hq => by
        unfold fitsP at hf
        rw [Bool.and_eq_true, List.all_eq_true] at hf
        have := hf.2 q hq
        rw [h7] at this
        have := (fitsCell_win (acc := q.2.1) (l := q.2.2)).1 this
        omega
      have h1 := hall p hp
      have := longT_lt (n := d.n.toNat) (T := T) (by omega) (fun q hq => by have := hall q hq; omega)
      rw [decide_eq_false_iff_not]
      omega
    · left; exact decide_eq_false h7
  refine ⟨hc, ?_⟩
  unfold carryP
  rw [hc, if_neg (by simp)]
  have : loadP k (keptL (statesP j.nodes Ts)) = .ok Ts := by
    have := load_kept (j := k) (Ts := Ts) hk (by rw [hn]; exact h)
    rwa [hn] at this
  rw [this, hn]
theorem carry_ok {a b : Jb} {l x : List St} (h : carryP a b l = .ok x) : (checkP a b l).2 = 0 ∧ ∃ Ts, loadP b (keptL l) = .ok Ts ∧ x = statesP b.nodes Ts := by
  unfold carryP at h
  split at h
  · cases h
  · rename_i hc
    refine ⟨Classical.not_not.1 hc, ?_⟩
    cases e : loadP b (keptL l) with
    | error f => rw [e] at h; cases h
    | ok Ts => rw [e] at h; injection h with h; exact ⟨Ts, rfl, h.symm⟩
/-- Carried twice. -/
theorem carry_twice {a b : Jb} {l x : List St} (h : carryP a b l = .ok x) {par : Int} (h1 : 1 ≤ par) (h2 : par ≤ 4) : carryP b { b with par := par } x = .ok x := by
  obtain ⟨_, Ts, hl, rfl⟩ := carry_ok h
  obtain ⟨hb, hT⟩ := load_ok hl
  exact (carry_same hb (jobOk_par hb h1 h2) rfl hT).2
/-- Of a new one nothing is kept. -/
theorem new_nothing {j : Jb} {Ts : Tabs} (h : loadP j [] = .ok Ts) : ∀ s ∈ statesP j.nodes Ts, takeT s.2 = [] := by
  intro s hs
  obtain ⟨i, d, T, hd, hT, rfl⟩ := mem_states hs
  unfold loadP at h
  split at h
  · rw [loadL] at h
    injection h with h
    subst h
    have hn : (noTabs j.nodes)[i]? = some none := by
      unfold noTabs
      rw [List.getElem?_replicate, if_pos (List.getElem?_eq_some_iff.1 hd).1]
    rw [fillL_get j.nodes _ i hd hn] at hT
    split at hT
    · injection hT with hT; injection hT with hT; subst hT
      exact takeT_put TOk.nil
    · cases hT
  · cases h
theorem carry_none {a b : Jb} {Ts Us : Tabs} (ha : loadP a [] = .ok Ts) (hb : loadP b [] = .ok Us) : checkP a b (statesP a.nodes Ts) = (emptyS, 0) ∧ carryP a b (statesP a.nodes Ts) = .ok (statesP b.nodes Us) := by
  have hn := new_nothing ha
  obtain ⟨ja, ta⟩ := load_ok ha
  obtain ⟨jb, tb⟩ := load_ok hb
  have hc : checkP a b (statesP a.nodes Ts) = (emptyS, 0) := by
    unfold checkP
    rw [load_states ja ta]
    simp only [jb, if_true]
    exact checkL_ok fun s hs hne => absurd (hn s hs) hne
  refine ⟨hc, ?_⟩
  have hk : keptL (statesP a.nodes Ts) = [] := by
    unfold keptL
    rw [List.filter_eq_nil_iff]
    intro s hs
    simp [hn s hs]
  unfold carryP
  rw [hc, if_neg (by simp), hk, hb]
end Go.Proofs.YtopeleenlcnkkaaGreatDoor
/-
  COURSES IN PLAIN WORDS: a job, turns to other jobs, records: what comes out.
-/
namespace Go.Proofs.YtopeleenlcnkkaaGreatDoor
open Go Go.RowKit
end Go.Proofs.YtopeleenlcnkkaaGreatDoor
/-
  shadow.Ideals: the verdict of what two sides' ideals come to.
-/
namespace Go.Proofs.YtopeleenlcnkkaaGreatDoor
open Go Go.RowKit
attribute [local irreducible] wpL wpTr H2.wpH
theorem JbAt.nodes {w : World} {par : Int} {v : Value} {j : Jb} (h : JbAt w #[.int .i64 par, v] j) : NodesAt w v j.nodes := by
  obtain ⟨v', e, hn, _⟩ := h
  injection e with e
  injection e with _ e
  injection e with e
  subst e
  exact hn
end Go.Proofs.YtopeleenlcnkkaaGreatDoor
/-
  States, sides, inputs that came in.
-/
namespace Go.Proofs.YtopeleenlcnkkaaGreatDoor
open Go Go.RowKit Go.ChangeShapes Go.WideShapes Go.ChangeAt Go.Deep
section
variable {H : Type} {enc : TypeId × Value → H} {w : World}
set_option maxRecDepth 100000 in
/-- STATES THAT CAME IN. -/
theorem open_sts {fuel n cap : Nat} {a : Option Addr} {x : DataW H × List MemPlace} (h : DataW.trod enc Tryz.prog w 0 (fun _ => true) true fuel 25 [.slice a n cap] = some x) :
    ∃ L : List St, L.length = n ∧ Reads w 2 (.slice a n cap) (stsC L) ∧ ∀ s ∈ L, s.1.size ≤ maxLen ∧ s.2.size ≤ maxLen := by
  obtain ⟨cs, hl, hr, hel⟩ := open_reads (k := 2) Tryz.underlying25 (by kernel_rfl) (by omega) h
  have each : ∀ i, i < n → ∃ s : St, (s.1.size ≤ maxLen ∧ s.2.size ≤ maxLen) ∧ (cs.drop (i * 2)).take 2 = [.string s.1, .string s.2] := by
    intro i hi
    obtain ⟨m, y, hy⟩ := hel i hi
    obtain ⟨v0, v1, hd⟩ : ∃ v0 v1, (cs.drop (i * 2)).take 2 = [v0, v1] := by
      have hlen : ((cs.drop (i * 2)).take 2).length = 2 := by rw [List.length_take, List.length_drop]; omega
      match (cs.drop (i * 2)).take 2, hlen with
      | [v0, v1], _ => exact ⟨v0, v1, rfl⟩
    rw [hd] at hy ⊢
    obtain ⟨xs, f1, _, _, _, hxl, hf⟩ := DataW.trod_struct Tryz.underlying33 hy
    have g0 : DataW.trod enc Tryz.prog w 0 (fun _ => true) true f1 9 ([v0, v1].drop 0 |>.take (Tryz.prog.cellsOf 9)) = xs[0]? := hf 0 _ rfl
    have g1 : DataW.trod enc Tryz.prog w 0 (fun _ => true) true f1 9 ([v0, v1].drop 1 |>.take (Tryz.prog.cellsOf 9)) = xs[1]? := hf 1 _ rfl
    rw [show Tryz.prog.cellsOf 9 = 1 by kernel_rfl] at g0 g1
    simp only [List.drop_succ_cons, List.drop_zero, List.take_succ_cons, List.take_zero] at g0 g1
    match xs, hxl with
    | [x0, x1], _ =>
      obtain ⟨s0, hs0, _, hz0⟩ := DataW.trod_string Tryz.underlying9 g0
      obtain ⟨s1, hs1, _, hz1⟩ := DataW.trod_string Tryz.underlying9 g1
      injection hs0 with hs0 _
      injection hs1 with hs1 _
      subst hs0 hs1
      exact ⟨(s0, s1), ⟨hz0, hz1⟩, rfl⟩
  obtain ⟨O, hO⟩ := choose_lt each
  refine ⟨(List.range n).map O, by simp, ?_, fun r hr => ?_⟩
  · have : cs = stsC ((List.range n).map O) := by
      apply List.ext_getElem?
      intro j
      by_cases hj : j < n * 2
      · have hi : j / 2 < n := by omega
        have h1 := (hO (j / 2) hi).2
        have h2 : cs[j]? = ((cs.drop (j / 2 * 2)).take 2)[j % 2]? := by
          rw [List.getElem?_take, if_pos (Nat.mod_lt _ (by omega)), List.getElem?_drop]
          congr 1; omega
        rw [h2, h1]
        have h3 : ((List.range n).map O)[j / 2]? = some (O (j / 2)) := by rw [List.getElem?_map, List.getElem?_range hi]; rfl
        obtain ⟨e0, e1⟩ := stsC_get h3
        have hm : j % 2 = 0 ∨ j % 2 = 1 := by omega
        rcases hm with hm | hm
        · rw [hm, show j = j / 2 * 2 by omega, show j / 2 * 2 / 2 = j / 2 by omega, e0]; rfl
        · rw [hm, show j = j / 2 * 2 + 1 by omega, show (j / 2 * 2 + 1) / 2 = j / 2 by omega, e1]; rfl
      · rw [List.getElem?_eq_none (by rw [hl]; omega), List.getElem?_eq_none (by rw [stsC_length]; simp; omega)]
    rw [← this]; exact hr
  · obtain ⟨i, hi, rfl⟩ := List.mem_map.1 hr
    exact (hO i (List.mem_range.1 hi)).1
theorem trodAll_four {P : Program} {base : Nat} {spare : Nat → Bool} {held : Bool} {t t' t'' u : TypeId} {args : Array Value} {ds : List (DataW H)} {ps : List MemPlace} (h : DataW.TrodAll enc P w base spare held [t, t', t'', u] args.toList ds ps) :
    ∃ v v' v'' y d d' d'' f p p' p'' q, args = #[v, v', v'', y] ∧ ds = [d, d', d'', f] ∧ ps = p ++ p' ++ p'' ++ q ∧ DataW.Trod enc P w base spare held t v d p ∧ DataW.Trod enc P w base spare held t' v' d' p' ∧ DataW.Trod enc P w base spare held t'' v'' d'' p'' ∧ DataW.Trod enc P w base spare held u y f q := by
  obtain ⟨v, vs, d, ds', p, q, hargs, rfl, rfl, hd, hrest⟩ := trodAll_cons h
  obtain ⟨v', vs', d', ds'', p', q', rfl, rfl, rfl, hd', hrest'⟩ := trodAll_cons hrest
  obtain ⟨v'', vs'', d'', ds''', p'', q'', rfl, rfl, rfl, hd'', hrest''⟩ := trodAll_cons hrest'
  obtain ⟨y, vs3, f, ds4, p3, q3, rfl, rfl, rfl, hd3, hrest3⟩ := trodAll_cons hrest''
  obtain ⟨rfl, rfl, rfl⟩ := trodAll_nil hrest3
  exact ⟨v, v', v'', y, d, d', d'', f, p, p', p'', p3, by cases args; simp_all, rfl, by simp, hd, hd', hd'', hd3⟩
end
end Go.Proofs.YtopeleenlcnkkaaGreatDoor
