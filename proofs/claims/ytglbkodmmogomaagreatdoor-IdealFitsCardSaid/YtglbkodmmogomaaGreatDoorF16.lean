/-
  What a node makes of records: the plain law; the row that grows (goes); each.
-/
import Derived.Test.YtglbkodmmogomaaGreatDoorF15
import Derived.Test.YtglbkodmmogomaaGreatDoorF12
import Derived.Test.YtglbkodmmogomaaGreatDoorF06
import Derived.SizedLaws
set_option linter.unusedVariables false
set_option linter.unusedSimpArgs false
namespace Go.Proofs.YtglbkodmmogomaaGreatDoor
open Go Go.RowKit
attribute [local irreducible] wpL
/-- The row that grows stands in block Bo; its records lie in a block of A. -/
def OutAt (w : World) (Bo base : Nat) (A : Nat → Prop) (out : List Rec) : Prop :=
  ∃ v, w.heap[Bo]? = some (.cells #[v] 60 (0, 0)) ∧ w.ownsRow base 68 3 v out.length (recs out) ∧ ∀ k, v.ownBlock = some k → A k
theorem OutAt.kept {w w' : World} {Bo base : Nat} {A S : Nat → Prop} {out : List Rec} (h : OutAt w Bo base A out) (hk : Kept S w w') (h1 : ¬ S Bo) (h2 : ∀ k, A k → ¬ S k) : OutAt w' Bo base A out := by
  obtain ⟨v, a, b, c⟩ := h
  exact ⟨v, hk.heap a h1, hk.owns b (fun k hv => h2 k (c k hv)), c⟩
theorem OutAt.pure {w w' : World} {Bo base : Nat} {A : Nat → Prop} {out : List Rec} (h : OutAt w Bo base A out) (hk : Kept none' w w') : OutAt w' Bo base A out := h.kept hk (fun h => h) (fun _ _ h => h)
def GoesQ (w : World) (Bo base : Nat) (A : Nat → Prop) (out : List Rec) (e : Ending) (w' : World) : Prop :=
  e = .returned (.tuple #[]) ∧ OutAt w' Bo base A out ∧ Kept (fun k => k = Bo ∨ A k) w w'
/-- Where what was appended to stands now: where it stood, or in the newest block. -/
theorem append_where {P : Program} {w w' : World} (base : Nat) (t ty e : TypeId) (i : TypeInfo) (z : Value) (size bytes : Nat) (ht : P.underlying t = some (.slice e)) (hi : P.info? e = some i) (hz : i.zero = some z) (hsize : i.size = size) (hby : i.bytes = bytes)
    (v : Value) (n : Nat) (xs : List Value) (hown : w.ownsRow base e size v n xs) (a : Addr) (m c : Nat) (news : List Value) (hl : news.length = m * size) (hnews : ∀ j u, news[j]? = some u → w.cell? (a.add j) = some u)
    (h1 : ∀ u ∈ news, u.oneCell' = true) (hm : 0 < m) (h63 : n + m ≤ maxLen) (hbytes : (n + m) * bytes ≤ 140737488355328) {v' : Value}
    (hr : (Builtin.append_ #[t, t] ty #[v, .slice (some a) m c]).run P w = .ok v' w') : ∀ k, v'.ownBlock = some k → v.ownBlock = some k ∨ k = w.heap.size := by
  subst hsize hby
  have hsmall : n + m ≤ 9223372036854775807 := by simp only [maxLen] at h63; omega
  intro k hk
  rcases hown.2 with ⟨rfl, rfl⟩ | ⟨g, cap, cur, rfl, hbg, hg, hnc, hcm, hcs, htake⟩
  · have h2 := run_append_nil (P := P) w t ty e i z ht hi hz a m c news hl hnews hm (by omega) (by simp only [Nat.zero_add] at hbytes; omega)
    rw [h2] at hr
    injection hr with hr _
    subst hr
    right; simpa [Value.ownBlock] using hk.symm
  · by_cases hroom : n + m ≤ cap
    · have h2 := run_append_room (P := P) w t ty e i ht hi g n cap cur hg a m c news hl hnews h1 hroom (by rw [hl, hcs, ← Nat.add_mul]; exact Nat.mul_le_mul_right _ hroom)
      rw [h2] at hr
      injection hr with hr _
      subst hr
      left; simpa [Value.ownBlock] using hk
    · have h2 := run_append_grow (P := P) w t ty e i z ht hi hz ⟨g, 0, none⟩ n cap xs hown.1 (hown.cells (g := g) rfl) a m c news hl hnews (by omega) (by omega) (growslice_fits (by omega) hbytes)
      rw [h2] at hr
      injection hr with hr _
      subst hr
      right; simpa [Value.ownBlock] using hk.symm
/-- append, its run known. -/
theorem wpList_append_run {P : Program} {w w' : World} {ops : Array Oper} {rest : List Oper} {o : Oper} {a : Act} {Q : Exit → Act → World → Prop} (hgd : o.guard = none) (s x : Operand) (t : TypeId)
    (ho : o.op = .call { callee := .builtin .append, args := #[s, x], argTypes := #[t, t] }) (v u v' : Value) (hs : a.eval s = v) (hx : a.eval x = u) (hr : (Builtin.append_ #[t, t] o.type #[v, u]).run P w = .ok v' w')
    (h : wpList P ops Q rest (a.put o.dst v') w') : wpList P ops Q (o :: rest) a w :=
  wpList_plain hgd fun K hK => by
    unfold Oper.wp execOp
    simp only [ho, resolve, invoke, builtin, Sem.run_bind, Sem.run_pure, Result.andThen_ok, List.map_toArray, List.map_cons, List.map_nil, hs, hx, hr]
    exact hK _ _ h
set_option maxRecDepth 100000 in
set_option maxHeartbeats 1000000 in
theorem goes_any (r : Rec) (out : List Rec) (Bo base : Nat) (A : Nat → Prop) (w : World) (h : OutAt w Bo base A out) (hb : base ≤ w.heap.size) (hA : ∀ k, w.heap.size ≤ k → A k) (hlen : out.length ≤ 1073741824) :
    Calls Tryz.prog 104 #[.agg #[.int .i64 r.pos, .int .i64 r.key, .int .i64 r.val], .pointer (some ⟨Bo, 0, none⟩)] w (GoesQ w Bo base A (out ++ [r])) := by
  obtain ⟨v, hh, hown, hv⟩ := h
  have hlt := (Array.getElem?_eq_some_iff.1 hh).1
  obtain ⟨W0, hW0⟩ : ∃ W0, (w.alloc (.cells #[.int .i64 r.pos, .int .i64 r.key, .int .i64 r.val] 68)).alloc (.cells #[.int .i64 r.pos, .int .i64 r.key, .int .i64 r.val] 68) = W0 := ⟨_, rfl⟩
  have hk0 : Kept none' w W0 := by rw [← hW0]; exact ((Kept.refl _ _).alloc _).alloc _
  have hsz0 : w.heap.size ≤ W0.heap.size := hk0.size
  have hown0 := hk0.owns hown (fun _ _ h => h)
  have hh0 := hk0.heap hh (fun h => h)
  have c0 : w.cell? ⟨Bo, 0, none⟩ = some v := cells_at hh rfl
  obtain ⟨a, cap, rfl⟩ := owns_slice hown
  obtain ⟨i, z, hi, hz, hs, hby, hzs⟩ := Tryz.info68
  have hrd : Reads W0 3 (.slice (some ⟨w.heap.size + 1, 0, none⟩) 1 1) (recs [r]) := by
    have := Reads.lit (w.alloc (.cells #[.int .i64 r.pos, .int .i64 r.key, .int .i64 r.val] 68)) (recs [r]) 68 3 1 rfl (by unfold maxLen; omega)
    rw [World.size_alloc] at this
    rw [← hW0]; exact this
  obtain ⟨v', n', w', g1, g2, g3, g4, g5⟩ := run_append_reads (P := Tryz.prog) base 60 60 68 i z 3 24 Tryz.underlying60 hi hz hs hby hzs (by omega) hown0 hrd (recs_one [r]) (by rw [recs_length]; simp; omega) (by rw [recs_length]; unfold maxLen; simp; omega) (Nat.le_trans hb hk0.size)
  have hwhere : ∀ k, v'.ownBlock = some k → A k := by
    intro k hk
    obtain ⟨_, _, _, e, _, _, _, hcl⟩ := hrd
    cases e
    rcases hcl with hcl | ⟨b', off', e', hcl⟩
    · cases hcl
    · cases e'
      rcases append_where (P := Tryz.prog) base 60 60 68 i z 3 24 Tryz.underlying60 hi hz hs hby _ _ _ hown0 ⟨w.heap.size + 1, 0, none⟩ 1 1 (recs [r]) rfl (fun j u hj => by rw [Addr.add_lit]; exact hcl j u hj) (recs_one [r]) (by omega) (by unfold maxLen; omega) (by omega) g1 k hk with h | h
      · exact hv k h
      · exact hA k (by omega)
  have hn' : n' = (out ++ [r]).length := by rw [recs_length] at g3; simp at g3 ⊢; omega
  subst hn'
  have hBo : ∀ k, Value.ownBlock (.slice a out.length cap) = some k → k ≠ Bo := by
    intro k hk e
    rcases hown.2 with ⟨e', _⟩ | ⟨g, cap', cur, e', _, hg, _⟩
    · rw [e'] at hk; cases hk
    · rw [e'] at hk
      simp [Value.ownBlock] at hk
      rw [← e, ← hk, hg] at hh
      cases hh
  have kw : Kept (fun k => k = Bo ∨ A k) w w' := hk0.pure.trans (Kept.grown g4 (fun k hk _ => .inr (hv k hk)))
  have hh' : w'.heap[Bo]? = some (.cells #[.slice a out.length cap] 60 (0, 0)) := by
    rw [g4.block Bo (by omega) (fun e => hBo Bo e.symm rfl)]; exact hh0
  have c1 : w'.cell? ⟨Bo, 0, none⟩ = some (.slice a out.length cap) := cells_at hh' rfl
  have f1 := free_at hh' 0
  have F : GoesQ w Bo base A (out ++ [r]) (.returned (.tuple #[])) (w'.setCell ⟨Bo, 0, none⟩ v') := by
    refine ⟨rfl, ⟨v', ?_, ?_, hwhere⟩, kw.setCell (p := ⟨Bo, 0, none⟩) (.inl (.inl rfl)) _⟩
    · have := set_at hh' 0 v'
      simpa using this
    · refine ((Kept.refl (one Bo) w').setCell (p := ⟨Bo, 0, none⟩) (.inl rfl) v').owns (by rw [recs_append]; exact g2) (fun k hk e => ?_)
      unfold one at e
      subst e
      rcases g2.2 with ⟨e', _⟩ | ⟨g, cap', cur, e', _, hg, _⟩
      · rw [e'] at hk; cases hk
      · rw [e'] at hk
        simp [Value.ownBlock] at hk
        rw [hk, hh'] at hg
        cases hg
  have F' := Lib.hid F
  rw [← hW0] at g1
  obtain ⟨va, vc, rfl⟩ := owns_slice g2
  have HG := Lib.hid g1
  clear F g1 hW0 hk0 hown hown0 hh hh0 hrd g2 g3 g4 g5 hwhere hBo kw hh' hv hA
  go_enter Tryz.func104, Tryz.ntmps104
  go_wp2_with (at_builtin; refine wpList_append_run rfl (.tmp 3) (.tmp 5) 60 rfl _ _ _ rfl rfl HG.out ?_)
  go_end0
  have F := F'.out
  rw [List.length_append] at F
  exact F
/-- The cells of a node. -/
def NodAt (w : World) (a : Array Value) (nd : Nod) : Prop :=
  ∃ uid inv p cap, a = #[.string uid, .int .u8 nd.kind, inv, .int .u8 nd.x.op, .int .i64 nd.x.n, .slice p nd.x.args.length cap, .int .i64 nd.n] ∧ ExAt w #[.int .u8 nd.x.op, .int .i64 nd.x.n, .slice p nd.x.args.length cap] nd.x ∧
    0 ≤ nd.kind ∧ nd.kind ≤ 255 ∧ R64 nd.n
theorem NodAt.kept {w w' : World} {S : Nat → Prop} (hk : Kept S w w') (hS : ∀ k, S k → ∀ c E f, w.heap[k]? ≠ some (.cells c E f)) {a : Array Value} {nd : Nod} (h : NodAt w a nd) : NodAt w' a nd := by
  obtain ⟨uid, inv, p, cap, h1, h2, h3⟩ := h
  exact ⟨uid, inv, p, cap, h1, h2.kept hk hS, h3⟩
theorem NodAt.pure {w w' : World} (hk : Kept none' w w') {a : Array Value} {nd : Nod} (h : NodAt w a nd) : NodAt w' a nd := h.kept hk (fun _ h => h.elim)
abbrev recV (r : Rec) : Value := .agg #[.int .i64 r.pos, .int .i64 r.key, .int .i64 r.val]
def EachQ (St : Nat → World → Prop) (n : Nat) (e : Ending) (w' : World) : Prop := e = .returned (.tuple #[]) ∧ St n w'
set_option maxRecDepth 100000 in
set_option maxHeartbeats 1000000 in
theorem each_any (c : Nat) (caps : Array Value) (L : List Rec) (v : Value) (Bi : Nat) (St : Nat → World → Prop) (w : World) (hent : ∀ (args : Array Value) (w : World), (callFunc c args).run Tryz.prog w = .ok (.enter c args) w)
    (hin : ∀ k w, St k w → w.cell? ⟨Bi, 0, none⟩ = some v ∧ Reads w 3 v (recs L)) (hall : ∀ k w o, St k w → St k (w.alloc o)) (h0 : St 0 w)
    (hstep : ∀ k r w, L[k]? = some r → St k w → Calls Tryz.prog c (#[recV r, envV (envOf r)] ++ caps) w (EachQ St (k + 1))) :
    Calls Tryz.prog 103 #[.func (.func c) #[] caps, .pointer (some ⟨Bi, 0, none⟩)] w (EachQ St L.length) := by
  obtain ⟨hc, hr⟩ := hin 0 w h0
  obtain ⟨a, cap, rfl, h1, h2, h3⟩ := hr.recAt
  unfold maxLen at h2
  have H0 := Lib.hid h0
  have HI := Lib.hid hin
  have HA := Lib.hid hall
  have HS := Lib.hid hstep
  clear hr h3 h0 hin hall hstep
  go_enter Tryz.func103, Tryz.ntmps103
  go_wp2
  clear hc
  go_loopg [7] L.length (fun g vi wr => ∃ k : Nat, k ≤ L.length ∧ vi = .int .i64 (k : Int) ∧ L.length - k ≤ g ∧ St k wr)
  case atStart => exact ⟨0, by omega, rfl, by omega, H0.out⟩
  case round =>
    obtain ⟨k, hkl, rfl, hg, hst⟩ := hrel
    have G := Lib.hid (And.intro hg hst)
    clear hg hst
    by_cases hlt : k < L.length
    · obtain ⟨r, hr⟩ : ∃ r, L[k]? = some r := ⟨_, List.getElem?_eq_getElem hlt⟩
      obtain ⟨_, hrd⟩ := HI.out k wr G.out.2
      obtain ⟨a', cap', e, _, _, hrc⟩ := hrd.recAt
      cases e
      obtain ⟨b, off, rfl, hc⟩ := hrc.resolve_left (fun h => by rw [h] at hr; cases hr)
      obtain ⟨q0, q1, q2⟩ := hc k r hr
      have HR := Lib.hid hr
      clear hrc hc hr hrd
      go_wp2_with fail
      have cc := HS.out k r _ HR.out (HA.out k wr (.cells #[.int .i64 r.pos, .int .i64 r.key, .int .i64 r.val] 68) G.out.2)
      refine cc.mono ?_
      clear cc
      rintro e w2 ⟨rfl, hs2⟩
      go_wp2_with fail
      go_roundg (L.length - (k + 1))
      case rel => exact ⟨k + 1, by omega, by go_num, Nat.le_refl _, hs2⟩
      case measure => have := G.out.1; omega
    · have hkl : k = L.length := by omega
      subst hkl
      go_wp2_with fail
      go_end0
      exact ⟨rfl, G.out.2⟩
end Go.Proofs.YtglbkodmmogomaaGreatDoor
/-
  What a node makes of records: the closures that know no table.
-/
namespace Go.Proofs.YtglbkodmmogomaaGreatDoor
open Go Go.RowKit
attribute [local irreducible] wpL
theorem OutAt.mono {w : World} {Bo base : Nat} {A A' : Nat → Prop} {out : List Rec} (h : OutAt w Bo base A out) (hA : ∀ k, A k → k < w.heap.size → A' k) : OutAt w Bo base A' out := by
  obtain ⟨v, a, b, c⟩ := h
  exact ⟨v, a, b, fun k hk => hA k (c k hk) (owns_own b hk).2⟩
/-- The state in which the closures of Do are called. -/
structure DoSt (S : Nat → Prop) (w0 w : World) (Bn Bi Bo Bg base : Nat) (na : Array Value) (nd : Nod) (v : Value) (L out : List Rec) : Prop where
  free : ∀ k, S k → k < w0.heap.size ∧ ∀ c E f, w0.heap[k]? ≠ some (.cells c E f)
  kept : Kept S w0 w
  node0 : NodAt w0 na nd
  in0 : Reads w0 3 v (recs L)
  recs0 : ∀ r ∈ L, RecOk r
  node : w.heap[Bn]? = some (.cells na 42 (0, 0))
  ins : w.heap[Bi]? = some (.cells #[v] 60 (0, 0))
  goes : w.heap[Bg]? = some (.cells #[.func (.func 104) #[] #[.pointer (some ⟨Bo, 0, none⟩)]] 184 (0, 0))
  out : OutAt w Bo base (fun k => base ≤ k) out
  lo : w0.heap.size ≤ Bn ∧ w0.heap.size ≤ Bi ∧ w0.heap.size ≤ Bg ∧ w0.heap.size ≤ Bo
  hi : Bn < base ∧ Bi < base ∧ Bg < base ∧ Bo < base ∧ base ≤ w.heap.size
  ne : Bn ≠ Bo ∧ Bi ≠ Bo ∧ Bg ≠ Bo
section
variable {S : Nat → Prop} {w0 w w' : World} {Bn Bi Bo Bg base : Nat} {na : Array Value} {nd : Nod} {v : Value} {L out out' : List Rec}
theorem DoSt.nodAt (h : DoSt S w0 w Bn Bi Bo Bg base na nd v L out) : NodAt w na nd := h.node0.kept h.kept (fun k hk => (h.free k hk).2)
theorem DoSt.reads (h : DoSt S w0 w Bn Bi Bo Bg base na nd v L out) : Reads w 3 v (recs L) :=
  h.in0.kept h.kept (fun b hb hs => by obtain ⟨c, E, f, hc⟩ := h.in0.isCells (by omega) hb; exact (h.free b hs).2 c E f hc)
theorem DoSt.next (h : DoSt S w0 w Bn Bi Bo Bg base na nd v L out) {S' : Nat → Prop} (hk : Kept S' w w') (hS : ∀ k, S' k → k = Bo ∨ base ≤ k ∨ S k) (ho : OutAt w' Bo base (fun k => base ≤ k) out') : DoSt S w0 w' Bn Bi Bo Bg base na nd v L out' := by
  obtain ⟨l1, l2, l3, l4⟩ := h.lo
  obtain ⟨i1, i2, i3, i4, i5⟩ := h.hi
  obtain ⟨n1, n2, n3⟩ := h.ne
  have no : ∀ b, w0.heap.size ≤ b → b < base → b ≠ Bo → ¬ S' b := fun b h1 h2 h3 hs => by
    rcases hS b hs with e | e | e
    · exact h3 e
    · omega
    · have := (h.free b e).1; omega
  exact ⟨h.free, h.kept.new hk (fun i hi hs => by rcases hS i hs with e | e | e; omega; omega; exact e), h.node0, h.in0, h.recs0, hk.heap h.node (no _ l1 i1 n1), hk.heap h.ins (no _ l2 i2 n2), hk.heap h.goes (no _ l3 i3 n3), ho, h.lo,
    ⟨i1, i2, i3, i4, Nat.le_trans i5 hk.size⟩, h.ne⟩
theorem DoSt.alloc (h : DoSt S w0 w Bn Bi Bo Bg base na nd v L out) (o : Obj) : DoSt S w0 (w.alloc o) Bn Bi Bo Bg base na nd v L out :=
  h.next ((Kept.refl none' w).alloc o) (fun _ h => h.elim) (h.out.pure ((Kept.refl none' w).alloc o))
end
def DoStQ (S : Nat → Prop) (w0 : World) (Bn Bi Bo Bg base : Nat) (na : Array Value) (nd : Nod) (v : Value) (L out : List Rec) (e : Ending) (w' : World) : Prop :=
  e = .returned (.tuple #[]) ∧ DoSt S w0 w' Bn Bi Bo Bg base na nd v L out

set_option maxRecDepth 100000 in
set_option maxHeartbeats 1000000 in
theorem clos_map {S : Nat → Prop} {w0 w : World} {Bn Bi Bo Bg base : Nat} {na : Array Value} {nd : Nod} {v : Value} {L out : List Rec} (h : DoSt S w0 w Bn Bi Bo Bg base na nd v L out) (r : Rec) (hr : RecOk r) (hlen : out.length ≤ 1073741824) :
    Calls Tryz.prog 105 #[recV r, envV (envOf r), .pointer (some ⟨Bn, 0, none⟩), .pointer (some ⟨Bg, 0, none⟩)] w (DoStQ S w0 Bn Bi Bo Bg base na nd v L (out ++ [{ r with val := exInt nd.x (envOf r) }])) := by
  obtain ⟨uid, inv, p, cap, hna, hx, hk0, hk1, hn⟩ := h.nodAt
  have hnode := h.node
  rw [hna] at hnode
  clear hna
  have x0 : w.cell? ⟨Bn, 3, none⟩ = some (.int .u8 nd.x.op) := cells_at hnode rfl
  have x1 : w.cell? ⟨Bn, 4, none⟩ = some (.int .i64 nd.x.n) := cells_at hnode rfl
  have x2 : w.cell? ⟨Bn, 5, none⟩ = some (.slice p nd.x.args.length cap) := cells_at hnode rfl
  have g0 : w.cell? ⟨Bg, 0, none⟩ = some (.func (.func 104) #[] #[.pointer (some ⟨Bo, 0, none⟩)]) := cells_at h.goes rfl
  obtain ⟨l1, l2, l3, l4⟩ := h.lo
  obtain ⟨i1, i2, i3, i4, i5⟩ := h.hi
  have hlb : Bn < w.heap.size := by omega
  have hlg : Bg < w.heap.size := by omega
  have H := Lib.hid h
  have HX := Lib.hid hx
  have HR := Lib.hid hr
  clear h hx hr hnode
  go_enter Tryz.func105, Tryz.ntmps105
  go_wp2_with fail
  obtain ⟨W0, hW0⟩ : ∃ W0, (w.alloc (.cells #[.int .i64 r.pos, .int .i64 r.key, .int .i64 r.val] 68)).alloc (.cells #[.int .i64 (envOf r).key, .int .i64 (envOf r).val, .int .i64 (envOf r).acc] 182) = W0 := ⟨_, rfl⟩
  have k0 : Kept none' w W0 := by rw [← hW0]; exact ((Kept.refl _ _).alloc _).alloc _
  have hB : W0.heap[w.heap.size]? = some (.cells #[.int .i64 r.pos, .int .i64 r.key, .int .i64 r.val] 68 (0, 0)) := by
    rw [← hW0]
    exact ((Kept.refl none' (w.alloc (.cells #[.int .i64 r.pos, .int .i64 r.key, .int .i64 r.val] 68))).alloc _).heap (heap_alloc_new w (.cells #[.int .i64 r.pos, .int .i64 r.key, .int .i64 r.val] 68)) (fun h => h)
  rw [hW0]
  have c := int_any nd.x _ (envOf r) W0 (ExAt.pure k0 HX.out) (envOf_ok HR.out)
  refine c.mono ?_
  clear c
  rintro e W1 ⟨rfl, k1⟩
  have k2 : Kept none' w W1 := k0.trans k1
  have hB1 := k1.heap hB (fun h => h)
  have b0 : W1.cell? ⟨w.heap.size, 0, none⟩ = some (.int .i64 r.pos) := cells_at hB1 rfl
  have b1 : W1.cell? ⟨w.heap.size, 1, none⟩ = some (.int .i64 r.key) := cells_at hB1 rfl
  have b2 : W1.cell? ⟨w.heap.size, 2, none⟩ = some (.int .i64 r.val) := cells_at hB1 rfl
  have f2 := free_at hB1 2
  have g1 := k2.cell (p := ⟨Bg, 0, none⟩) (fun h => h) g0
  have hbg : Bg ≠ w.heap.size := by omega
  obtain ⟨X, hX⟩ : ∃ X, exInt nd.x (envOf r) = X := ⟨_, rfl⟩
  have ks : Kept (one w.heap.size) W1 (W1.setCell ⟨w.heap.size, 2, none⟩ (.int .i64 X)) := (Kept.refl (one w.heap.size) W1).setCell (p := ⟨w.heap.size, 2, none⟩) (.inl rfl) _
  have hout : OutAt (W1.setCell ⟨w.heap.size, 2, none⟩ (.int .i64 X)) Bo base (fun k => base ≤ k) out :=
    ((((H.out.out.mono (A' := fun k => base ≤ k ∧ k < w.heap.size) (fun k h1 h2 => ⟨h1, h2⟩)).pure k2).kept ks (fun e => by unfold one at e; omega) (fun k h e => by unfold one at e; omega)).mono (fun k h _ => h.1))
  have G := Lib.hid (And.intro k2 (And.intro ks hout))
  have hsz : base ≤ (W1.setCell ⟨w.heap.size, 2, none⟩ (.int .i64 X)).heap.size := Nat.le_trans i5 (Nat.le_trans k2.size ks.size)
  have HSZ := Lib.hid hsz
  clear k0 k1 k2 hB hB1 hW0 x0 x1 x2 g0 ks hout hsz
  rw [hX]
  have HX' := Lib.hid hX
  clear hX
  go_wp2_with fail
  have c := goes_any { r with val := X } out Bo base (fun k => base ≤ k) _ G.out.2.2 HSZ.out (fun k hk => Nat.le_trans HSZ.out hk) hlen
  refine c.mono ?_
  clear c
  rintro e W2 ⟨rfl, o2, k3⟩
  have F : DoStQ S w0 Bn Bi Bo Bg base na nd v L (out ++ [{ r with val := exInt nd.x (envOf r) }]) (.returned (.tuple #[])) W2 := by
    rw [HX'.out]
    refine ⟨rfl, H.out.next (S' := fun k => k = Bo ∨ base ≤ k) (G.out.1.pure.trans ((G.out.2.1.mono (fun k _ e => by unfold one at e; right; omega)).trans k3)) (fun k h => by rcases h with h | h; exact .inl h; exact .inr (.inl h)) o2⟩
  have F' := Lib.hid F
  clear F o2 k3
  go_wp2_with fail
  go_end0
  exact F'.out
set_option maxRecDepth 100000 in
set_option maxHeartbeats 1000000 in
theorem clos_key {S : Nat → Prop} {w0 w : World} {Bn Bi Bo Bg base : Nat} {na : Array Value} {nd : Nod} {v : Value} {L out : List Rec} (h : DoSt S w0 w Bn Bi Bo Bg base na nd v L out) (r : Rec) (hr : RecOk r) (hlen : out.length ≤ 1073741824) :
    Calls Tryz.prog 107 #[recV r, envV (envOf r), .pointer (some ⟨Bn, 0, none⟩), .pointer (some ⟨Bg, 0, none⟩)] w (DoStQ S w0 Bn Bi Bo Bg base na nd v L (out ++ [{ r with key := exInt nd.x (envOf r) }])) := by
  obtain ⟨uid, inv, p, cap, hna, hx, hk0, hk1, hn⟩ := h.nodAt
  have hnode := h.node
  rw [hna] at hnode
  clear hna
  have x0 : w.cell? ⟨Bn, 3, none⟩ = some (.int .u8 nd.x.op) := cells_at hnode rfl
  have x1 : w.cell? ⟨Bn, 4, none⟩ = some (.int .i64 nd.x.n) := cells_at hnode rfl
  have x2 : w.cell? ⟨Bn, 5, none⟩ = some (.slice p nd.x.args.length cap) := cells_at hnode rfl
  have g0 : w.cell? ⟨Bg, 0, none⟩ = some (.func (.func 104) #[] #[.pointer (some ⟨Bo, 0, none⟩)]) := cells_at h.goes rfl
  obtain ⟨l1, l2, l3, l4⟩ := h.lo
  obtain ⟨i1, i2, i3, i4, i5⟩ := h.hi
  have hlb : Bn < w.heap.size := by omega
  have hlg : Bg < w.heap.size := by omega
  have H := Lib.hid h
  have HX := Lib.hid hx
  have HR := Lib.hid hr
  clear h hx hr hnode
  go_enter Tryz.func107, Tryz.ntmps107
  go_wp2_with fail
  obtain ⟨W0, hW0⟩ : ∃ W0, (w.alloc (.cells #[.int .i64 r.pos, .int .i64 r.key, .int .i64 r.val] 68)).alloc (.cells #[.int .i64 (envOf r).key, .int .i64 (envOf r).val, .int .i64 (envOf r).acc] 182) = W0 := ⟨_, rfl⟩
  have k0 : Kept none' w W0 := by rw [← hW0]; exact ((Kept.refl _ _).alloc _).alloc _
  have hB : W0.heap[w.heap.size]? = some (.cells #[.int .i64 r.pos, .int .i64 r.key, .int .i64 r.val] 68 (0, 0)) := by
    rw [← hW0]
    exact ((Kept.refl none' (w.alloc (.cells #[.int .i64 r.pos, .int .i64 r.key, .int .i64 r.val] 68))).alloc _).heap (heap_alloc_new w (.cells #[.int .i64 r.pos, .int .i64 r.key, .int .i64 r.val] 68)) (fun h => h)
  rw [hW0]
  have c := int_any nd.x _ (envOf r) W0 (ExAt.pure k0 HX.out) (envOf_ok HR.out)
  refine c.mono ?_
  clear c
  rintro e W1 ⟨rfl, k1⟩
  have k2 : Kept none' w W1 := k0.trans k1
  have hB1 := k1.heap hB (fun h => h)
  have b0 : W1.cell? ⟨w.heap.size, 0, none⟩ = some (.int .i64 r.pos) := cells_at hB1 rfl
  have b1 : W1.cell? ⟨w.heap.size, 1, none⟩ = some (.int .i64 r.key) := cells_at hB1 rfl
  have b2 : W1.cell? ⟨w.heap.size, 2, none⟩ = some (.int .i64 r.val) := cells_at hB1 rfl
  have f2 := free_at hB1 1
  have g1 := k2.cell (p := ⟨Bg, 0, none⟩) (fun h => h) g0
  have hbg : Bg ≠ w.heap.size := by omega
  obtain ⟨X, hX⟩ : ∃ X, exInt nd.x (envOf r) = X := ⟨_, rfl⟩
  have ks : Kept (one w.heap.size) W1 (W1.setCell ⟨w.heap.size, 1, none⟩ (.int .i64 X)) := (Kept.refl (one w.heap.size) W1).setCell (p := ⟨w.heap.size, 1, none⟩) (.inl rfl) _
  have hout : OutAt (W1.setCell ⟨w.heap.size, 1, none⟩ (.int .i64 X)) Bo base (fun k => base ≤ k) out :=
    ((((H.out.out.mono (A' := fun k => base ≤ k ∧ k < w.heap.size) (fun k h1 h2 => ⟨h1, h2⟩)).pure k2).kept ks (fun e => by unfold one at e; omega) (fun k h e => by unfold one at e; omega)).mono (fun k h _ => h.1))
  have G := Lib.hid (And.intro k2 (And.intro ks hout))
  have hsz : base ≤ (W1.setCell ⟨w.heap.size, 1, none⟩ (.int .i64 X)).heap.size := Nat.le_trans i5 (Nat.le_trans k2.size ks.size)
  have HSZ := Lib.hid hsz
  clear k0 k1 k2 hB hB1 hW0 x0 x1 x2 g0 ks hout hsz
  rw [hX]
  have HX' := Lib.hid hX
  clear hX
  go_wp2_with fail
  have c := goes_any { r with key := X } out Bo base (fun k => base ≤ k) _ G.out.2.2 HSZ.out (fun k hk => Nat.le_trans HSZ.out hk) hlen
  refine c.mono ?_
  clear c
  rintro e W2 ⟨rfl, o2, k3⟩
  have F : DoStQ S w0 Bn Bi Bo Bg base na nd v L (out ++ [{ r with key := exInt nd.x (envOf r) }]) (.returned (.tuple #[])) W2 := by
    rw [HX'.out]
    refine ⟨rfl, H.out.next (S' := fun k => k = Bo ∨ base ≤ k) (G.out.1.pure.trans ((G.out.2.1.mono (fun k _ e => by unfold one at e; right; omega)).trans k3)) (fun k h => by rcases h with h | h; exact .inl h; exact .inr (.inl h)) o2⟩
  have F' := Lib.hid F
  clear F o2 k3
  go_wp2_with fail
  go_end0
  exact F'.out
end Go.Proofs.YtglbkodmmogomaaGreatDoor
/-
  What a node makes of records: filter and flat.
-/
namespace Go.Proofs.YtglbkodmmogomaaGreatDoor
open Go Go.RowKit
attribute [local irreducible] wpL
def fltL (b : Bool) (r : Rec) : List Rec := if b then [r] else []
theorem flatL_succ (r : Rec) (k : Nat) : flatL r (k + 1) = flatL r k ++ [⟨wrap64 (wrap64 (8 * r.pos) + (k : Int)), r.key, wrap64 (r.val + (k : Int))⟩] := by
  unfold flatL; rw [List.range_succ, List.map_append]; rfl
theorem flatL_length (r : Rec) (k : Nat) : (flatL r k).length = k := by simp [flatL]

set_option maxRecDepth 100000 in
set_option maxHeartbeats 1000000 in
theorem clos_filter {S : Nat → Prop} {w0 w : World} {Bn Bi Bo Bg base : Nat} {na : Array Value} {nd : Nod} {v : Value} {L out : List Rec} (h : DoSt S w0 w Bn Bi Bo Bg base na nd v L out) (r : Rec) (hr : RecOk r) (hlen : out.length ≤ 1000000000) :
    Calls Tryz.prog 108 #[recV r, envV (envOf r), .pointer (some ⟨Bn, 0, none⟩), .pointer (some ⟨Bg, 0, none⟩)] w (DoStQ S w0 Bn Bi Bo Bg base na nd v L (out ++ fltL (exBool nd.x (envOf r)) r)) := by
  obtain ⟨uid, inv, p, cap, hna, hx, hk0, hk1, hn⟩ := h.nodAt
  have hnode := h.node
  rw [hna] at hnode
  clear hna
  have x0 : w.cell? ⟨Bn, 3, none⟩ = some (.int .u8 nd.x.op) := cells_at hnode rfl
  have x1 : w.cell? ⟨Bn, 4, none⟩ = some (.int .i64 nd.x.n) := cells_at hnode rfl
  have x2 : w.cell? ⟨Bn, 5, none⟩ = some (.slice p nd.x.args.length cap) := cells_at hnode rfl
  have g0 : w.cell? ⟨Bg, 0, none⟩ = some (.func (.func 104) #[] #[.pointer (some ⟨Bo, 0, none⟩)]) := cells_at h.goes rfl
  obtain ⟨l1, l2, l3, l4⟩ := h.lo
  obtain ⟨i1, i2, i3, i4, i5⟩ := h.hi
  have hlb : Bn < w.heap.size := by omega
  have hlg : Bg < w.heap.size := by omega
  have H := Lib.hid h
  have HX := Lib.hid hx
  have HR := Lib.hid hr
  clear h hx hr hnode
  go_enter Tryz.func108, Tryz.ntmps108
  go_wp2_with fail
  obtain ⟨W0, hW0⟩ : ∃ W0, (w.alloc (.cells #[.int .i64 r.pos, .int .i64 r.key, .int .i64 r.val] 68)).alloc (.cells #[.int .i64 (envOf r).key, .int .i64 (envOf r).val, .int .i64 (envOf r).acc] 182) = W0 := ⟨_, rfl⟩
  have k0 : Kept none' w W0 := by rw [← hW0]; exact ((Kept.refl _ _).alloc _).alloc _
  have hsz2 : w.heap.size + 1 < W0.heap.size := by rw [← hW0]; simp
  have hB : W0.heap[w.heap.size]? = some (.cells #[.int .i64 r.pos, .int .i64 r.key, .int .i64 r.val] 68 (0, 0)) := by
    rw [← hW0]
    exact ((Kept.refl none' (w.alloc (.cells #[.int .i64 r.pos, .int .i64 r.key, .int .i64 r.val] 68))).alloc _).heap (heap_alloc_new w (.cells #[.int .i64 r.pos, .int .i64 r.key, .int .i64 r.val] 68)) (fun h => h)
  rw [hW0]
  have c := bool_any nd.x _ (envOf r) W0 (ExAt.pure k0 HX.out) (envOf_ok HR.out)
  refine c.mono ?_
  clear c
  rintro e W1 ⟨rfl, k1⟩
  have k2 : Kept none' w W1 := k0.trans k1
  have hB1 := k1.heap hB (fun h => h)
  have b0 : W1.cell? ⟨w.heap.size, 0, none⟩ = some (.int .i64 r.pos) := cells_at hB1 rfl
  have b1 : W1.cell? ⟨w.heap.size, 1, none⟩ = some (.int .i64 r.key) := cells_at hB1 rfl
  have b2 : W1.cell? ⟨w.heap.size, 2, none⟩ = some (.int .i64 r.val) := cells_at hB1 rfl
  have g1 := k2.cell (p := ⟨Bg, 0, none⟩) (fun h => h) g0
  have hbg : Bg ≠ w.heap.size := by omega
  have hout := H.out.out.pure k2
  have hsz : base ≤ W1.heap.size := Nat.le_trans i5 k2.size
  have G := Lib.hid (And.intro k2 hout)
  clear k0 k1 k2 hB hB1 hW0 x0 x1 x2 g0 hout hsz2
  cases hb : exBool nd.x (envOf r) with
  | false =>
    have F : DoStQ S w0 Bn Bi Bo Bg base na nd v L (out ++ fltL false r) (.returned (.tuple #[])) W1 := by
      refine ⟨rfl, H.out.next (S' := none') G.out.1 (fun k h => h.elim) ?_⟩
      show OutAt W1 Bo base (fun k => base ≤ k) (out ++ [])
      rw [List.append_nil]; exact G.out.2
    have F' := Lib.hid F
    have HBB := Lib.hid hb
    clear F hb
    go_wp2_with fail
    go_end0
    rw [HBB.out]
    exact F'.out
  | true =>
    have HBB := Lib.hid hb
    clear hb
    go_wp2_with fail
    have c := goes_any r out Bo base (fun k => base ≤ k) W1 G.out.2 hsz (fun k hk => Nat.le_trans hsz hk) (by omega)
    refine c.mono ?_
    clear c
    rintro e W2 ⟨rfl, o2, k3⟩
    have F : DoStQ S w0 Bn Bi Bo Bg base na nd v L (out ++ fltL true r) (.returned (.tuple #[])) W2 := by
      exact ⟨rfl, H.out.next (S' := fun k => k = Bo ∨ base ≤ k) (G.out.1.pure.trans k3) (fun k h => by rcases h with h | h; exact .inl h; exact .inr (.inl h)) o2⟩
    have F' := Lib.hid F
    clear F o2 k3
    go_wp2_with fail
    go_end0
    rw [HBB.out]
    exact F'.out
set_option maxRecDepth 100000 in
set_option maxHeartbeats 1000000 in
theorem clos_flat {S : Nat → Prop} {w0 w : World} {Bn Bi Bo Bg base : Nat} {na : Array Value} {nd : Nod} {v : Value} {L out : List Rec} (h : DoSt S w0 w Bn Bi Bo Bg base na nd v L out) (r : Rec) (hr : RecOk r) (hlen : out.length ≤ 1000000000) :
    Calls Tryz.prog 110 #[recV r, envV (envOf r), .pointer (some ⟨Bn, 0, none⟩), .pointer (some ⟨Bg, 0, none⟩)] w (DoStQ S w0 Bn Bi Bo Bg base na nd v L (out ++ flatL r (flatN (exInt nd.x (envOf r))))) := by
  obtain ⟨uid, inv, p, cap, hna, hx, hk0, hk1, hn⟩ := h.nodAt
  have hnode := h.node
  rw [hna] at hnode
  clear hna
  have x0 : w.cell? ⟨Bn, 3, none⟩ = some (.int .u8 nd.x.op) := cells_at hnode rfl
  have x1 : w.cell? ⟨Bn, 4, none⟩ = some (.int .i64 nd.x.n) := cells_at hnode rfl
  have x2 : w.cell? ⟨Bn, 5, none⟩ = some (.slice p nd.x.args.length cap) := cells_at hnode rfl
  have g0 : w.cell? ⟨Bg, 0, none⟩ = some (.func (.func 104) #[] #[.pointer (some ⟨Bo, 0, none⟩)]) := cells_at h.goes rfl
  obtain ⟨l1, l2, l3, l4⟩ := h.lo
  obtain ⟨i1, i2, i3, i4, i5⟩ := h.hi
  have hlb : Bn < w.heap.size := by omega
  have hlg : Bg < w.heap.size := by omega
  have H := Lib.hid h
  have HX := Lib.hid hx
  have HR := Lib.hid hr
  clear h hx hr hnode
  go_enter Tryz.func110, Tryz.ntmps110
  go_wp2_with fail
  obtain ⟨W0, hW0⟩ : ∃ W0, (w.alloc (.cells #[.int .i64 r.pos, .int .i64 r.key, .int .i64 r.val] 68)).alloc (.cells #[.int .i64 (envOf r).key, .int .i64 (envOf r).val, .int .i64 (envOf r).acc] 182) = W0 := ⟨_, rfl⟩
  have k0 : Kept none' w W0 := by rw [← hW0]; exact ((Kept.refl _ _).alloc _).alloc _
  have hsz2 : w.heap.size + 1 < W0.heap.size := by rw [← hW0]; simp
  have hB : W0.heap[w.heap.size]? = some (.cells #[.int .i64 r.pos, .int .i64 r.key, .int .i64 r.val] 68 (0, 0)) := by
    rw [← hW0]
    exact ((Kept.refl none' (w.alloc (.cells #[.int .i64 r.pos, .int .i64 r.key, .int .i64 r.val] 68))).alloc _).heap (heap_alloc_new w (.cells #[.int .i64 r.pos, .int .i64 r.key, .int .i64 r.val] 68)) (fun h => h)
  rw [hW0]
  have c := int_any nd.x _ (envOf r) W0 (ExAt.pure k0 HX.out) (envOf_ok HR.out)
  refine c.mono ?_
  clear c
  rintro e W1 ⟨rfl, k1⟩
  have k2 : Kept none' w W1 := k0.trans k1
  have hB1 := k1.heap hB (fun h => h)
  have b0 : W1.cell? ⟨w.heap.size, 0, none⟩ = some (.int .i64 r.pos) := cells_at hB1 rfl
  have b1 : W1.cell? ⟨w.heap.size, 1, none⟩ = some (.int .i64 r.key) := cells_at hB1 rfl
  have b2 : W1.cell? ⟨w.heap.size, 2, none⟩ = some (.int .i64 r.val) := cells_at hB1 rfl
  have g1 := k2.cell (p := ⟨Bg, 0, none⟩) (fun h => h) g0
  have hbg : Bg ≠ w.heap.size := by omega
  have hout : OutAt W1 Bo base (fun k => base ≤ k ∧ k ≠ w.heap.size) out :=
    ((H.out.out.mono (A' := fun k => base ≤ k ∧ k < w.heap.size) (fun k h1 h2 => ⟨h1, h2⟩)).pure k2).mono (fun k h _ => ⟨h.1, by omega⟩)
  have hsz : base ≤ W1.heap.size ∧ w.heap.size < W1.heap.size := ⟨Nat.le_trans i5 k2.size, by have := k1.size; omega⟩
  have hX64 := exInt_r64 HX.out (envOf_ok HR.out)
  obtain ⟨X, hX⟩ : ∃ X, exInt nd.x (envOf r) = X := ⟨_, rfl⟩
  rw [hX] at hX64 ⊢
  have HXX := Lib.hid hX
  obtain ⟨hX1, hX2⟩ := hX64
  have G := Lib.hid (And.intro k2 (And.intro hout (And.intro hsz hB1)))
  clear k0 k1 k2 hB hB1 hW0 x0 x1 x2 g0 hout hsz b0 b1 b2 g1 hX
  have hfN : flatN X ≤ 4 := by unfold flatN; omega
  have hFN := Lib.hid (show flatN X = (min X 4).toNat from rfl)
  go_wp2_with fail
  go_loopg [12] (flatN X) (fun g vi wr => ∃ k : Nat, k ≤ flatN X ∧ vi = .int .i64 (k : Int) ∧ flatN X - k ≤ g ∧ OutAt wr Bo base (fun k => base ≤ k ∧ k ≠ w.heap.size) (out ++ flatL r k) ∧ Kept (fun k => k = Bo ∨ (base ≤ k ∧ k ≠ w.heap.size)) W1 wr)
  case atStart => exact ⟨0, by omega, rfl, by omega, by simpa [flatL] using G.out.2.1, Kept.refl _ _⟩
  case round =>
    obtain ⟨k, hkl, rfl, hg, ho, hkp⟩ := hrel
    have hB2 := hkp.heap G.out.2.2.2 (fun h => by rcases h with h | h; omega; exact h.2 rfl)
    have b0 : wr.cell? ⟨w.heap.size, 0, none⟩ = some (.int .i64 r.pos) := cells_at hB2 rfl
    have b1 : wr.cell? ⟨w.heap.size, 1, none⟩ = some (.int .i64 r.key) := cells_at hB2 rfl
    have b2 : wr.cell? ⟨w.heap.size, 2, none⟩ = some (.int .i64 r.val) := cells_at hB2 rfl
    have g1 : wr.cell? ⟨Bg, 0, none⟩ = some (.func (.func 104) #[] #[.pointer (some ⟨Bo, 0, none⟩)]) := cells_at (hkp.heap (G.out.1.heap H.out.goes (fun h => h)) (fun h => by have := H.out.ne; rcases h with h | h; exact this.2.2 h; omega)) rfl
    have hszr := hkp.size
    have A := Lib.hid (And.intro hg (And.intro ho (And.intro hkp hszr)))
    clear hg ho hkp hB2 hszr
    by_cases hlt : k < flatN X
    · have hlt2 : (k : Int) < min X 4 := by have := hFN.out; omega
      have hlt3 : decide ((k : Int) < min X 4) = true := decide_eq_true hlt2
      have hk4 : k ≤ 4 := by omega
      go_wp2_with fail
      have c := goes_any ⟨wrap64 (wrap64 (8 * r.pos) + (k : Int)), r.key, wrap64 (r.val + (k : Int))⟩ (out ++ flatL r k) Bo base (fun k => base ≤ k ∧ k ≠ w.heap.size) wr A.out.2.1 (Nat.le_trans G.out.2.2.1.1 A.out.2.2.2) (fun k hk => ⟨Nat.le_trans G.out.2.2.1.1 (Nat.le_trans A.out.2.2.2 hk), by have := G.out.2.2.1.2; have := A.out.2.2.2; omega⟩) (by rw [List.length_append, flatL_length]; omega)
      refine c.mono ?_
      clear c
      rintro e W2 ⟨rfl, o2, k3⟩
      rw [List.append_assoc, ← flatL_succ] at o2
      go_wp2_with fail
      go_roundg (flatN X - (k + 1))
      case rel => exact ⟨k + 1, by omega, by go_num, Nat.le_refl _, o2, A.out.2.2.1.trans k3⟩
      case measure => have := A.out.1; omega
    · have hlt2 : ¬ (k : Int) < min X 4 := by have := hFN.out; omega
      have hlt3 : decide ((k : Int) < min X 4) = false := decide_eq_false hlt2
      have hkl : k = flatN X := by omega
      go_wp2_with fail
      go_end0
      rw [HXX.out, ← hkl]
      exact ⟨rfl, H.out.next (S' := fun k => k = Bo ∨ (base ≤ k ∧ k ≠ w.heap.size)) (G.out.1.pure.trans A.out.2.2.1) (fun k h => by rcases h with h | h; exact .inl h; exact .inr (.inl h.1)) (A.out.2.1.mono (fun k h _ => h.1))⟩
end Go.Proofs.YtglbkodmmogomaaGreatDoor
/-
  The row's step, with the reach; slices of records that came in.
-/
namespace Go.Proofs.YtglbkodmmogomaaGreatDoor
open Go Go.RowKit Go.ChangeShapes Go.WideShapes Go.ChangeAt Go.Deep
end Go.Proofs.YtglbkodmmogomaaGreatDoor
