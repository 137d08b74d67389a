/-
  slices.Equal, slices.Index, slices.Contains over records.
-/
import Derived.Test.YtglbkodmmogomaaGreatDoorF12
import Derived.Test.YtglbkodmmogomaaGreatDoorF06
import Derived.Test.YtglbkodmmogomaaGreatDoorF17
import Derived.Laws.EntriesVeiled
set_option linter.unusedVariables false
set_option linter.unusedSimpArgs false
namespace Go.Proofs.YtglbkodmmogomaaGreatDoor
open Go Go.RowKit
attribute [local irreducible] wpL wpH
def eqR (xs ys : List Rec) : Bool := decide (xs = ys)
theorem takeR_succ {xs ys : List Rec} {k : Nat} {x y : Rec} (h : xs.take k = ys.take k) (hx : xs[k]? = some x) (hy : ys[k]? = some y) (e : x = y) : xs.take (k + 1) = ys.take (k + 1) := by
  rw [List.take_add_one, List.take_add_one, h, hx, hy, e]
theorem eqR_len {xs ys : List Rec} (h : xs.length ≠ ys.length) : eqR xs ys = false := decide_eq_false (fun e => h (by rw [e]))
theorem eqR_at {xs ys : List Rec} {k : Nat} {x y : Rec} (hx : xs[k]? = some x) (hy : ys[k]? = some y) (h : x ≠ y) : eqR xs ys = false :=
  decide_eq_false (fun e => by rw [e, hy] at hx; cases hx; exact h rfl)
theorem eqR_full {xs ys : List Rec} {k : Nat} (h : xs.take k = ys.take k) (hk : xs.length ≤ k) (hl : xs.length = ys.length) : eqR xs ys = true :=
  decide_eq_true (by rwa [List.take_of_length_le hk, List.take_of_length_le (by omega)] at h)
theorem recA_ne {x y : Rec} (h : x ≠ y) : x.pos ≠ y.pos ∨ x.key ≠ y.key ∨ x.val ≠ y.val := by
  by_cases h1 : x.pos = y.pos
  · by_cases h2 : x.key = y.key
    · by_cases h3 : x.val = y.val
      · exfalso; apply h; cases x; cases y; simp only at h1 h2 h3; rw [h1, h2, h3]
      · exact .inr (.inr h3)
    · exact .inr (.inl h2)
  · exact .inl h1
set_option maxRecDepth 100000 in
set_option maxHeartbeats 400000 in
theorem equalRec (a b : Value) (xs ys : List Rec) (w : World) (ha : Reads w 3 a (recs xs)) (hb : Reads w 3 b (recs ys)) :
    Calls Tryz.prog 26 #[a, b] w (Gives w (.bool (eqR xs ys))) := by
  obtain ⟨pa, ca, rfl, a1, a2, a3⟩ := ha.recAt
  obtain ⟨pb, cb, rfl, b1, b2, b3⟩ := hb.recAt
  unfold maxLen at a2 b2
  clear ha hb
  by_cases hl : xs.length = ys.length
  · have hne : (((xs.length : Nat) : Int) != ((ys.length : Nat) : Int)) = false := by rw [hl]; simp
    have A3 := Lib.hid a3
    have B3 := Lib.hid b3
    have HL := Lib.hid hl
    clear a3 b3 hl
    go_enter Tryz.func26, Tryz.ntmps26
    go_wp2
    go_loopw [13] (fun i wr => ∃ k : Nat, k ≤ xs.length ∧ i = .int .i64 k ∧ xs.take k = ys.take k ∧ Kept none' w wr) (fun i _ => xs.length - (intOf i).toNat)
    case atStart => exact ⟨0, by omega, rfl, by simp, Kept.refl _ _⟩
    case round =>
      obtain ⟨k, hk, rfl, ht, hkp⟩ := hrel
      have HT := Lib.hid ht
      clear ht
      by_cases hlt : k < xs.length
      · obtain ⟨x, hx⟩ : ∃ x, xs[k]? = some x := ⟨_, List.getElem?_eq_getElem hlt⟩
        obtain ⟨y, hy⟩ : ∃ y, ys[k]? = some y := ⟨_, List.getElem?_eq_getElem (by rw [← HL.out]; exact hlt)⟩
        obtain ⟨b0, off, rfl, hc⟩ := A3.out.resolve_left (fun h => by rw [h] at hlt; simp at hlt)
        obtain ⟨b1, off1, rfl, hd⟩ := B3.out.resolve_left (fun h => by rw [h] at hy; simp at hy)
        obtain ⟨x0, x1, x2⟩ := (hc k x hx).pure hkp
        obtain ⟨y0, y1, y2⟩ := (hd k y hy).pure hkp
        have HX := Lib.hid (And.intro hx hy)
        have hlt2 : k < ys.length := by rw [← HL.out]; exact hlt
        clear hc hd hx hy A3 B3
        go_wp2_with fail
        refine wp_region_eager [0, 1, 2, 3, 4, 5, 6, 7, 8] (fun W => Kept none' wr W) (by kernel_rfl) (by kernel_rfl) rfl (Kept.refl _ _).drew ?_
        simp only [List.map_cons, List.map_nil, List.getElem?_toArray, List.getElem?_cons_zero, List.getElem?_cons_succ, Option.getD_some]
        iterate 8 (apply wpL_float rfl rfl; (intro W hW; have c0 := hW.cell (fun h => h) x0; have c1 := hW.cell (fun h => h) x1; have c2 := hW.cell (fun h => h) x2; have d0 := hW.cell (fun h => h) y0; have d1 := hW.cell (fun h => h) y1; have d2 := hW.cell (fun h => h) y2; go_simp; rfl); go_frame)
        refine wpL_float (v := .bool (decide (x ≠ y))) rfl rfl ?_ ?_
        · intro W hW
          go_simp
          by_cases hxy : x = y
          · subst hxy; simp
          · rcases recA_ne hxy with h | h | h
            · simp [h, hxy]
            · simp [h, hxy]
            · simp [h, hxy]
        go_frame
        refine wpL_nil (fun _ => (Kept.refl _ _).drew) ?_
        clear x0 x1 x2 y0 y1 y2
        by_cases hxy : x = y
        · have hf : decide (x ≠ y) = false := by simp [hxy]
          rw [hf]
          have HXY := Lib.hid hxy
          clear hxy hf
          go_wp2_with fail
          go_roundw
          case rel => exact ⟨k + 1, by omega, by go_num, takeR_succ HT.out HX.out.1 HX.out.2 HXY.out, hkp.drew⟩
          case measure => simp [intOf]; omega
        · have hf : decide (x ≠ y) = true := by simp [hxy]
          rw [hf]
          have HXY := Lib.hid hxy
          clear hxy hf
          go_wp2_with fail
          go_ret
          exact ⟨ret_bool (eqR_at HX.out.1 HX.out.2 HXY.out).symm, hkp.drew⟩
      · go_wp2_with fail
        go_ret
        exact ⟨ret_bool (eqR_full HT.out (by omega) HL.out).symm, hkp⟩
  · have hne : (((xs.length : Nat) : Int) != ((ys.length : Nat) : Int)) = true := by simp; omega
    have HL := Lib.hid hl
    clear a3 b3 hl
    go_enter Tryz.func26, Tryz.ntmps26
    go_wp2
    go_ret
    exact ⟨ret_bool (eqR_len HL.out).symm, Kept.refl _ _⟩
end Go.Proofs.YtglbkodmmogomaaGreatDoor
/-
  What a node makes of records: Do.
-/
namespace Go.Proofs.YtglbkodmmogomaaGreatDoor
open Go Go.RowKit Go.Shelf
attribute [local irreducible] wpL
set_option maxRecDepth 100000 in
set_option maxHeartbeats 400000 in
theorem clone_rec (v : Value) (cs : List Value) (w : World) (hr : Reads w 3 v cs) (h1 : ∀ x ∈ cs, x.oneCell' = true) (hlen : cs.length ≤ 1099511627776) :
    Calls Tryz.prog 102 #[v] w (OwnsNew w 68 3 cs) := by
  obtain ⟨i0, z0, hi, hz0, hz1, hz2, hz3⟩ := Tryz.info68
  obtain ⟨a, n, cap, rfl, hn, hc, hl, hp, hcell⟩ := hr.slice
  have hnil := fun (w : World) a n c => Lib.run_eql_slice_nil (P := Tryz.prog) w 60 68 a n c 0 0 Tryz.underlying60
  cases a with
  | none =>
    have hcs : cs = [] := by
      rcases hp with rfl | h | ⟨b, off, h⟩
      · exact List.eq_nil_of_length_eq_zero (by simpa using hl)
      · cases h
      · cases h
    subst hcs
    clear hcell hp h1 hr
    go_enter Tryz.func102, Tryz.ntmps102
    go_wp2
    go_ret
    exact ⟨_, 0, rfl, World.ownsRow_nil _ _ _ _, rfl, Kept.refl _ _⟩
  | some ad =>
    have H := Lib.hid hr
    have HH := Lib.hid hl
    have HC := Lib.hid hlen
    clear hcell hp hr hl hlen
    go_enter Tryz.func102, Tryz.ntmps102
    have hnew : (w.alloc (.cells #[] 68)).ownsRow w.heap.size 68 3 (.slice (some ⟨w.heap.size, 0, none⟩) 0 0) 0 [] := World.ownsRow_made w #[] 0 (Nat.le_refl _) (Nat.zero_le _) rfl
    have hrd := H.out.pure ((Kept.refl none' w).alloc (.cells #[] 68))
    have N1 := Lib.hid hnew
    have N2 := Lib.hid hrd
    clear hnew hrd
    have B1 := Lib.hid (show (0 * 3 + cs.length) * 24 ≤ 140737488355328 by have := HC.out; omega)
    have B2 := Lib.hid (show 0 * 3 + cs.length ≤ maxLen by have := HC.out; unfold maxLen; omega)
    go_wp2_with (at_builtin; (refine wpList_append_reads rfl (.tmp 5) (.tmp 6) 60 rfl w.heap.size 68 i0 z0 3 24 Tryz.underlying60 hi hz0 hz1 hz2 hz3 (by decide) _ 0 [] rfl N1.out _ cs rfl N2.out h1 B1.out B2.out (by simp) ?_); intro v' n' w' g1 g2 g3 g4)
    go_ret
    refine ⟨v', n', rfl, g1, by simpa using g2, ?_⟩
    exact ((Kept.refl none' w).alloc _).new (Kept.grown (S := one w.heap.size) g3 (fun k hk _ => by cases hk; rfl)) (fun k hk e => by unfold one at e; omega)
/-- A kind that knows no table. -/
def PlainK (k : Int) : Prop := k ≠ 6 ∧ k ≠ 7
def outP (nd : Nod) (L : List Rec) : List Rec := (doNode nd [] L).1
theorem step_plain {nd : Nod} (h : PlainK nd.kind) (T : Tab) (r : Rec) : stepNode nd T r = ((stepNode nd [] r).1, T) := by
  obtain ⟨h1, h2⟩ := h
  unfold stepNode
  split
  · rfl
  · split
    · rfl
    · split
      · rfl
      · split
        · rfl
        · first | rfl | (rw [if_neg h1, if_neg h2])
theorem do_plain {nd : Nod} (h : PlainK nd.kind) : ∀ (L : List Rec) (T : Tab), doNode nd T L = (outP nd L, T)
  | [], T => rfl
  | r :: L, T => by
    unfold outP
    simp only [doNode]
    rw [step_plain h T r, step_plain h [] r]
    simp only []
    rw [do_plain h L T, do_plain h L []]
theorem outP_snoc {nd : Nod} (h : PlainK nd.kind) {L : List Rec} {k : Nat} {r : Rec} (hr : L[k]? = some r) : outP nd (L.take (k + 1)) = outP nd (L.take k) ++ (stepNode nd [] r).1 := by
  rw [List.take_add_one, hr]
  show (doNode nd [] (L.take k ++ [r])).1 = _
  rw [doNode_snoc, do_plain h]
theorem step_len (nd : Nod) (T : Tab) (r : Rec) : (stepNode nd T r).1.length ≤ 4 := by
  have hf : ∀ x, (flatL r (flatN x)).length ≤ 4 := fun x => by rw [flatL_length]; unfold flatN; omega
  unfold stepNode
  repeat' split
  all_goals first | exact hf _ | simp
theorem do_len (nd : Nod) : ∀ (L : List Rec) (T : Tab), (doNode nd T L).1.length ≤ 4 * L.length
  | [], T => Nat.zero_le _
  | r :: L, T => by
    simp only [doNode, List.length_append, List.length_cons]
    have := step_len nd T r
    have := do_len nd L (stepNode nd T r).2
    omega
theorem do_len_take (nd : Nod) (L : List Rec) (T : Tab) (k : Nat) : (doNode nd T (L.take k)).1.length ≤ 4 * L.length := by
  have h1 := do_len nd (L.take k) T
  have h2 := List.length_take_le k L
  have h3 := List.length_take_le' k L
  omega
theorem DoSt.init {S : Nat → Prop} {w : World} {na : Array Value} {nd : Nod} {v tv : Value} {L : List Rec} (hfree : ∀ k, S k → k < w.heap.size ∧ ∀ c E f, w.heap[k]? ≠ some (.cells c E f)) (hn : NodAt w na nd) (hr : Reads w 3 v (recs L)) (hok : ∀ r ∈ L, RecOk r) {W : World}
    (hW : ((((w.alloc (.cells na 42)).alloc (.cells #[tv] 43)).alloc (.cells #[v] 60)).alloc (.cells #[.slice none 0 0] 60)).alloc (.cells #[.func (.func 104) #[] #[.pointer (some ⟨w.heap.size + 1 + 1 + 1, 0, none⟩)]] 184) = W) :
    DoSt S w W w.heap.size (w.heap.size + 1 + 1) (w.heap.size + 1 + 1 + 1) (w.heap.size + 1 + 1 + 1 + 1) (w.heap.size + 5) na nd v L [] ∧ W.heap[w.heap.size + 1]? = some (.cells #[tv] 43 (0, 0)) ∧ Kept none' w W ∧ W.heap.size = w.heap.size + 5 := by
  subst hW
  have e1 := heap_alloc_new w (.cells na 42)
  have e2 := heap_alloc_new (w.alloc (.cells na 42)) (.cells #[tv] 43)
  have e3 := heap_alloc_new ((w.alloc (.cells na 42)).alloc (.cells #[tv] 43)) (.cells #[v] 60)
  have e4 := heap_alloc_new (((w.alloc (.cells na 42)).alloc (.cells #[tv] 43)).alloc (.cells #[v] 60)) (.cells #[.slice none 0 0] 60)
  have e5 := heap_alloc_new ((((w.alloc (.cells na 42)).alloc (.cells #[tv] 43)).alloc (.cells #[v] 60)).alloc (.cells #[.slice none 0 0] 60)) (.cells #[.func (.func 104) #[] #[.pointer (some ⟨w.heap.size + 1 + 1 + 1, 0, none⟩)]] 184)
  simp only [World.size_alloc] at e1 e2 e3 e4 e5
  have kk : ∀ (w : World) (o : Obj), Kept none' w (w.alloc o) := fun w o => (Kept.refl _ _).alloc _
  have no : ∀ k, ¬ none' k := fun _ h => h
  have f1 := (kk _ (.cells #[.func (.func 104) #[] #[.pointer (some ⟨w.heap.size + 1 + 1 + 1, 0, none⟩)]] 184)).heap ((kk _ (.cells #[.slice none 0 0] 60)).heap ((kk _ (.cells #[v] 60)).heap ((kk _ (.cells #[tv] 43)).heap e1 (no _)) (no _)) (no _)) (no _)
  have f2 := (kk _ (.cells #[.func (.func 104) #[] #[.pointer (some ⟨w.heap.size + 1 + 1 + 1, 0, none⟩)]] 184)).heap ((kk _ (.cells #[.slice none 0 0] 60)).heap ((kk _ (.cells #[v] 60)).heap e2 (no _)) (no _)) (no _)
  have f3 := (kk _ (.cells #[.func (.func 104) #[] #[.pointer (some ⟨w.heap.size + 1 + 1 + 1, 0, none⟩)]] 184)).heap ((kk _ (.cells #[.slice none 0 0] 60)).heap e3 (no _)) (no _)
  have f4 := (kk _ (.cells #[.func (.func 104) #[] #[.pointer (some ⟨w.heap.size + 1 + 1 + 1, 0, none⟩)]] 184)).heap e4 (no _)
  have kall := (((kk w (.cells na 42)).trans (kk _ (.cells #[tv] 43))).trans (kk _ (.cells #[v] 60))).trans ((kk _ (.cells #[.slice none 0 0] 60)).trans (kk _ (.cells #[.func (.func 104) #[] #[.pointer (some ⟨w.heap.size + 1 + 1 + 1, 0, none⟩)]] 184)))
  exact ⟨⟨hfree, kall.pure, hn, hr, hok, f1, f3, e5, ⟨_, f4, World.ownsRow_nil _ _ _ _, fun k hk => by cases hk⟩, ⟨by omega, by omega, by omega, by omega⟩, ⟨by omega, by omega, by omega, by omega, by simp⟩, ⟨by omega, by omega, by omega⟩⟩, f2, kall, by simp⟩
/-- What Do answers, where no table turns. -/
def DoPQ (w : World) (out : List Rec) (e : Ending) (w' : World) : Prop := ∃ v, e = .returned v ∧ Reads w' 3 v (recs out) ∧ (∀ b, Value.blk v = some b → w.heap.size ≤ b) ∧ Kept none' w w'
theorem DoSt.fin {w W : World} {Bn Bi Bo Bg base : Nat} {na : Array Value} {nd : Nod} {v : Value} {L out : List Rec} {S : Nat → Prop} (h : DoSt S w W Bn Bi Bo Bg base na nd v L out) :
    ∃ a cap, W.cell? ⟨Bo, 0, none⟩ = some (.slice a out.length cap) ∧ Reads W 3 (.slice a out.length cap) (recs out) ∧ ∀ b, Value.blk (.slice a out.length cap) = some b → w.heap.size ≤ b := by
  obtain ⟨u, h1, h2, h3⟩ := h.out
  obtain ⟨a, cap, rfl⟩ := owns_slice h2
  exact ⟨a, cap, cells_at h1 rfl, Reads.of_owns h2, fun b hb => by have := (owns_blk h2 hb).1; have := h.lo; have := h.hi; omega⟩

theorem step_map {nd : Nod} (h : nd.kind = 2) (r : Rec) : (stepNode nd [] r).1 = [{ r with val := exInt nd.x (envOf r) }] := by
  unfold stepNode
  rw [if_pos h]
set_option maxRecDepth 100000 in
set_option maxHeartbeats 1000000 in
theorem do_map (na : Array Value) (nd : Nod) (tv v : Value) (L : List Rec) (w : World) (hn : NodAt w na nd) (hk : nd.kind = 2) (hr : Reads w 3 v (recs L)) (hok : ∀ r ∈ L, RecOk r) (hlen : L.length ≤ 100000000) (ht : ∃ p, tv = .pointer p) :
    Calls Tryz.prog 69 #[.agg na, tv, v] w (DoPQ w (outP nd L)) := by
  obtain ⟨tp, rfl⟩ := ht
  obtain ⟨va, vcap, rfl, hv1, hv2⟩ := hr.len
  obtain ⟨uid, inv, p, cap, rfl, hx, hk0, hk1, hn64⟩ := hn
  have hp : PlainK nd.kind := by unfold PlainK; rw [hk]; omega
  have N := Lib.hid (show NodAt w _ nd from ⟨uid, inv, p, cap, rfl, hx, hk0, hk1, hn64⟩)
  have HR := Lib.hid hr
  have HOK := Lib.hid hok
  have HP := Lib.hid hp
  have HK := Lib.hid hk
  obtain ⟨kk, hkk⟩ : ∃ kk, nd.kind = kk := ⟨_, rfl⟩
  rw [hkk] at hk N ⊢
  subst hk
  have HKK := Lib.hid hkk
  clear hx hr hok hp hkk hk0 hk1
  go_enter Tryz.func69, Tryz.ntmps69
  go_wp2_with fail
  obtain ⟨W0, hW0⟩ : ∃ W0, ((((w.alloc (.cells #[.string uid, .int .u8 2, inv, .int .u8 nd.x.op, .int .i64 nd.x.n, .slice p nd.x.args.length cap, .int .i64 nd.n] 42)).alloc (.cells #[.pointer tp] 43)).alloc (.cells #[.slice va L.length vcap] 60)).alloc (.cells #[.slice none 0 0] 60)).alloc (.cells #[.func (.func 104) #[] #[.pointer (some ⟨w.heap.size + 1 + 1 + 1, 0, none⟩)]] 184) = W0 := ⟨_, rfl⟩
  rw [hW0]
  obtain ⟨i1, i2, i3, i4⟩ := DoSt.init (S := none') (fun _ h => h.elim) N.out HR.out HOK.out hW0
  have c := each_any 105 #[.pointer (some ⟨w.heap.size, 0, none⟩), .pointer (some ⟨w.heap.size + 1 + 1 + 1 + 1, 0, none⟩)] L (.slice va L.length vcap) (w.heap.size + 1 + 1) (fun k w' => DoSt none' w w' w.heap.size (w.heap.size + 1 + 1) (w.heap.size + 1 + 1 + 1) (w.heap.size + 1 + 1 + 1 + 1) (w.heap.size + 5) _ nd (.slice va L.length vcap) L (outP nd (L.take k))) W0
    (enters_of Tryz.func105 (by kernel_rfl) rfl) (fun k w' h => ⟨cells_at h.ins rfl, h.reads⟩) (fun k w' o h => h.alloc o) i1 (fun k r w' hr h => by
      have hs := outP_snoc HP.out hr
      rw [step_map HK.out r] at hs
      have hl := do_len_take nd L [] k
      show Calls Tryz.prog 105 #[recV r, envV (envOf r), .pointer (some ⟨w.heap.size, 0, none⟩), .pointer (some ⟨w.heap.size + 1 + 1 + 1 + 1, 0, none⟩)] w' _
      refine (clos_map h r (HOK.out r (List.mem_of_getElem? hr)) (by unfold outP; omega)).mono ?_
      rintro e w2 ⟨rfl, h2⟩
      rw [← hs] at h2
      exact ⟨rfl, h2⟩)
  (with_reducible refine c.mono ?_)
  clear c
  rintro e W1 ⟨rfl, d1⟩
  rw [List.take_of_length_le (Nat.le_refl _)] at d1
  obtain ⟨a, rcap, r1, r2, r3⟩ := d1.fin
  have F := Lib.hid (show DoPQ w (outP nd L) (.returned (.slice a (outP nd L).length rcap)) W1 from ⟨_, rfl, r2, r3, d1.kept⟩)
  clear d1 r2 r3 i1 i2 i3 i4 hW0
  go_wp2_with fail
  go_ret
  exact F.out
theorem step_key {nd : Nod} (h : nd.kind = 5) (r : Rec) : (stepNode nd [] r).1 = [{ r with key := exInt nd.x (envOf r) }] := by
  unfold stepNode
  rw [if_neg (by omega), if_pos h]
set_option maxRecDepth 100000 in
set_option maxHeartbeats 1000000 in
theorem do_key (na : Array Value) (nd : Nod) (tv v : Value) (L : List Rec) (w : World) (hn : NodAt w na nd) (hk : nd.kind = 5) (hr : Reads w 3 v (recs L)) (hok : ∀ r ∈ L, RecOk r) (hlen : L.length ≤ 100000000) (ht : ∃ p, tv = .pointer p) :
    Calls Tryz.prog 69 #[.agg na, tv, v] w (DoPQ w (outP nd L)) := by
  obtain ⟨tp, rfl⟩ := ht
  obtain ⟨va, vcap, rfl, hv1, hv2⟩ := hr.len
  obtain ⟨uid, inv, p, cap, rfl, hx, hk0, hk1, hn64⟩ := hn
  have hp : PlainK nd.kind := by unfold PlainK; rw [hk]; omega
  have N := Lib.hid (show NodAt w _ nd from ⟨uid, inv, p, cap, rfl, hx, hk0, hk1, hn64⟩)
  have HR := Lib.hid hr
  have HOK := Lib.hid hok
  have HP := Lib.hid hp
  have HK := Lib.hid hk
  obtain ⟨kk, hkk⟩ : ∃ kk, nd.kind = kk := ⟨_, rfl⟩
  rw [hkk] at hk N ⊢
  subst hk
  have HKK := Lib.hid hkk
  clear hx hr hok hp hkk hk0 hk1
  go_enter Tryz.func69, Tryz.ntmps69
  go_wp2_with fail
  obtain ⟨W0, hW0⟩ : ∃ W0, ((((w.alloc (.cells #[.string uid, .int .u8 5, inv, .int .u8 nd.x.op, .int .i64 nd.x.n, .slice p nd.x.args.length cap, .int .i64 nd.n] 42)).alloc (.cells #[.pointer tp] 43)).alloc (.cells #[.slice va L.length vcap] 60)).alloc (.cells #[.slice none 0 0] 60)).alloc (.cells #[.func (.func 104) #[] #[.pointer (some ⟨w.heap.size + 1 + 1 + 1, 0, none⟩)]] 184) = W0 := ⟨_, rfl⟩
  rw [hW0]
  obtain ⟨i1, i2, i3, i4⟩ := DoSt.init (S := none') (fun _ h => h.elim) N.out HR.out HOK.out hW0
  have c := each_any 107 #[.pointer (some ⟨w.heap.size, 0, none⟩), .pointer (some ⟨w.heap.size + 1 + 1 + 1 + 1, 0, none⟩)] L (.slice va L.length vcap) (w.heap.size + 1 + 1) (fun k w' => DoSt none' w w' w.heap.size (w.heap.size + 1 + 1) (w.heap.size + 1 + 1 + 1) (w.heap.size + 1 + 1 + 1 + 1) (w.heap.size + 5) _ nd (.slice va L.length vcap) L (outP nd (L.take k))) W0
    (enters_of Tryz.func107 (by kernel_rfl) rfl) (fun k w' h => ⟨cells_at h.ins rfl, h.reads⟩) (fun k w' o h => h.alloc o) i1 (fun k r w' hr h => by
      have hs := outP_snoc HP.out hr
      rw [step_key HK.out r] at hs
      have hl := do_len_take nd L [] k
      show Calls Tryz.prog 107 #[recV r, envV (envOf r), .pointer (some ⟨w.heap.size, 0, none⟩), .pointer (some ⟨w.heap.size + 1 + 1 + 1 + 1, 0, none⟩)] w' _
      refine (clos_key h r (HOK.out r (List.mem_of_getElem? hr)) (by unfold outP; omega)).mono ?_
      rintro e w2 ⟨rfl, h2⟩
      rw [← hs] at h2
      exact ⟨rfl, h2⟩)
  (with_reducible refine c.mono ?_)
  clear c
  rintro e W1 ⟨rfl, d1⟩
  rw [List.take_of_length_le (Nat.le_refl _)] at d1
  obtain ⟨a, rcap, r1, r2, r3⟩ := d1.fin
  have F := Lib.hid (show DoPQ w (outP nd L) (.returned (.slice a (outP nd L).length rcap)) W1 from ⟨_, rfl, r2, r3, d1.kept⟩)
  clear d1 r2 r3 i1 i2 i3 i4 hW0
  go_wp2_with fail
  go_ret
  exact F.out
theorem step_filter {nd : Nod} (h : nd.kind = 3) (r : Rec) : (stepNode nd [] r).1 = fltL (exBool nd.x (envOf r)) r := by
  unfold stepNode
  rw [if_neg (by omega), if_neg (by omega), if_pos h]; rfl
set_option maxRecDepth 100000 in
set_option maxHeartbeats 1000000 in
theorem do_filter (na : Array Value) (nd : Nod) (tv v : Value) (L : List Rec) (w : World) (hn : NodAt w na nd) (hk : nd.kind = 3) (hr : Reads w 3 v (recs L)) (hok : ∀ r ∈ L, RecOk r) (hlen : L.length ≤ 100000000) (ht : ∃ p, tv = .pointer p) :
    Calls Tryz.prog 69 #[.agg na, tv, v] w (DoPQ w (outP nd L)) := by
  obtain ⟨tp, rfl⟩ := ht
  obtain ⟨va, vcap, rfl, hv1, hv2⟩ := hr.len
  obtain ⟨uid, inv, p, cap, rfl, hx, hk0, hk1, hn64⟩ := hn
  have hp : PlainK nd.kind := by unfold PlainK; rw [hk]; omega
  have N := Lib.hid (show NodAt w _ nd from ⟨uid, inv, p, cap, rfl, hx, hk0, hk1, hn64⟩)
  have HR := Lib.hid hr
  have HOK := Lib.hid hok
  have HP := Lib.hid hp
  have HK := Lib.hid hk
  obtain ⟨kk, hkk⟩ : ∃ kk, nd.kind = kk := ⟨_, rfl⟩
  rw [hkk] at hk N ⊢
  subst hk
  have HKK := Lib.hid hkk
  clear hx hr hok hp hkk hk0 hk1
  go_enter Tryz.func69, Tryz.ntmps69
  go_wp2_with fail
  obtain ⟨W0, hW0⟩ : ∃ W0, ((((w.alloc (.cells #[.string uid, .int .u8 3, inv, .int .u8 nd.x.op, .int .i64 nd.x.n, .slice p nd.x.args.length cap, .int .i64 nd.n] 42)).alloc (.cells #[.pointer tp] 43)).alloc (.cells #[.slice va L.length vcap] 60)).alloc (.cells #[.slice none 0 0] 60)).alloc (.cells #[.func (.func 104) #[] #[.pointer (some ⟨w.heap.size + 1 + 1 + 1, 0, none⟩)]] 184) = W0 := ⟨_, rfl⟩
  rw [hW0]
  obtain ⟨i1, i2, i3, i4⟩ := DoSt.init (S := none') (fun _ h => h.elim) N.out HR.out HOK.out hW0
  have c := each_any 108 #[.pointer (some ⟨w.heap.size, 0, none⟩), .pointer (some ⟨w.heap.size + 1 + 1 + 1 + 1, 0, none⟩)] L (.slice va L.length vcap) (w.heap.size + 1 + 1) (fun k w' => DoSt none' w w' w.heap.size (w.heap.size + 1 + 1) (w.heap.size + 1 + 1 + 1) (w.heap.size + 1 + 1 + 1 + 1) (w.heap.size + 5) _ nd (.slice va L.length vcap) L (outP nd (L.take k))) W0
    (enters_of Tryz.func108 (by kernel_rfl) rfl) (fun k w' h => ⟨cells_at h.ins rfl, h.reads⟩) (fun k w' o h => h.alloc o) i1 (fun k r w' hr h => by
      have hs := outP_snoc HP.out hr
      rw [step_filter HK.out r] at hs
      have hl := do_len_take nd L [] k
      show Calls Tryz.prog 108 #[recV r, envV (envOf r), .pointer (some ⟨w.heap.size, 0, none⟩), .pointer (some ⟨w.heap.size + 1 + 1 + 1 + 1, 0, none⟩)] w' _
      refine (clos_filter h r (HOK.out r (List.mem_of_getElem? hr)) (by unfold outP; omega)).mono ?_
      rintro e w2 ⟨rfl, h2⟩
      rw [← hs] at h2
      exact ⟨rfl, h2⟩)
  (with_reducible refine c.mono ?_)
  clear c
  rintro e W1 ⟨rfl, d1⟩
  rw [List.take_of_length_le (Nat.le_refl _)] at d1
  obtain ⟨a, rcap, r1, r2, r3⟩ := d1.fin
  have F := Lib.hid (show DoPQ w (outP nd L) (.returned (.slice a (outP nd L).length rcap)) W1 from ⟨_, rfl, r2, r3, d1.kept⟩)
  clear d1 r2 r3 i1 i2 i3 i4 hW0
  go_wp2_with fail
  go_ret
  exact F.out
theorem step_flat {nd : Nod} (h : nd.kind = 4) (r : Rec) : (stepNode nd [] r).1 = flatL r (flatN (exInt nd.x (envOf r))) := by
  unfold stepNode
  rw [if_neg (by omega), if_neg (by omega), if_neg (by omega), if_pos h]
set_option maxRecDepth 100000 in
set_option maxHeartbeats 1000000 in
theorem do_flat (na : Array Value) (nd : Nod) (tv v : Value) (L : List Rec) (w : World) (hn : NodAt w na nd) (hk : nd.kind = 4) (hr : Reads w 3 v (recs L)) (hok : ∀ r ∈ L, RecOk r) (hlen : L.length ≤ 100000000) (ht : ∃ p, tv = .pointer p) :
    Calls Tryz.prog 69 #[.agg na, tv, v] w (DoPQ w (outP nd L)) := by
  obtain ⟨tp, rfl⟩ := ht
  obtain ⟨va, vcap, rfl, hv1, hv2⟩ := hr.len
  obtain ⟨uid, inv, p, cap, rfl, hx, hk0, hk1, hn64⟩ := hn
  have hp : PlainK nd.kind := by unfold PlainK; rw [hk]; omega
  have N := Lib.hid (show NodAt w _ nd from ⟨uid, inv, p, cap, rfl, hx, hk0, hk1, hn64⟩)
  have HR := Lib.hid hr
  have HOK := Lib.hid hok
  have HP := Lib.hid hp
  have HK := Lib.hid hk
  obtain ⟨kk, hkk⟩ : ∃ kk, nd.kind = kk := ⟨_, rfl⟩
  rw [hkk] at hk N ⊢
  subst hk
  have HKK := Lib.hid hkk
  clear hx hr hok hp hkk hk0 hk1
  go_enter Tryz.func69, Tryz.ntmps69
  go_wp2_with fail
  obtain ⟨W0, hW0⟩ : ∃ W0, ((((w.alloc (.cells #[.string uid, .int .u8 4, inv, .int .u8 nd.x.op, .int .i64 nd.x.n, .slice p nd.x.args.length cap, .int .i64 nd.n] 42)).alloc (.cells #[.pointer tp] 43)).alloc (.cells #[.slice va L.length vcap] 60)).alloc (.cells #[.slice none 0 0] 60)).alloc (.cells #[.func (.func 104) #[] #[.pointer (some ⟨w.heap.size + 1 + 1 + 1, 0, none⟩)]] 184) = W0 := ⟨_, rfl⟩
  rw [hW0]
  obtain ⟨i1, i2, i3, i4⟩ := DoSt.init (S := none') (fun _ h => h.elim) N.out HR.out HOK.out hW0
  have c := each_any 110 #[.pointer (some ⟨w.heap.size, 0, none⟩), .pointer (some ⟨w.heap.size + 1 + 1 + 1 + 1, 0, none⟩)] L (.slice va L.length vcap) (w.heap.size + 1 + 1) (fun k w' => DoSt none' w w' w.heap.size (w.heap.size + 1 + 1) (w.heap.size + 1 + 1 + 1) (w.heap.size + 1 + 1 + 1 + 1) (w.heap.size + 5) _ nd (.slice va L.length vcap) L (outP nd (L.take k))) W0
    (enters_of Tryz.func110 (by kernel_rfl) rfl) (fun k w' h => ⟨cells_at h.ins rfl, h.reads⟩) (fun k w' o h => h.alloc o) i1 (fun k r w' hr h => by
      have hs := outP_snoc HP.out hr
      rw [step_flat HK.out r] at hs
      have hl := do_len_take nd L [] k
      show Calls Tryz.prog 110 #[recV r, envV (envOf r), .pointer (some ⟨w.heap.size, 0, none⟩), .pointer (some ⟨w.heap.size + 1 + 1 + 1 + 1, 0, none⟩)] w' _
      refine (clos_flat h r (HOK.out r (List.mem_of_getElem? hr)) (by unfold outP; omega)).mono ?_
      rintro e w2 ⟨rfl, h2⟩
      rw [← hs] at h2
      exact ⟨rfl, h2⟩)
  (with_reducible refine c.mono ?_)
  clear c
  rintro e W1 ⟨rfl, d1⟩
  rw [List.take_of_length_le (Nat.le_refl _)] at d1
  obtain ⟨a, rcap, r1, r2, r3⟩ := d1.fin
  have F := Lib.hid (show DoPQ w (outP nd L) (.returned (.slice a (outP nd L).length rcap)) W1 from ⟨_, rfl, r2, r3, d1.kept⟩)
  clear d1 r2 r3 i1 i2 i3 i4 hW0
  go_wp2_with fail
  go_ret
  exact F.out
theorem step_other {nd : Nod} (h : PlainK nd.kind) (h' : nd.kind ≠ 2 ∧ nd.kind ≠ 3 ∧ nd.kind ≠ 4 ∧ nd.kind ≠ 5) (r : Rec) : (stepNode nd [] r).1 = [r] := by
  obtain ⟨h1, h2⟩ := h
  obtain ⟨a, b, c, d⟩ := h'
  unfold stepNode
  rw [if_neg a, if_neg d, if_neg b, if_neg c, if_neg h1, if_neg h2]
theorem outP_other {nd : Nod} (h : PlainK nd.kind) (h' : nd.kind ≠ 2 ∧ nd.kind ≠ 3 ∧ nd.kind ≠ 4 ∧ nd.kind ≠ 5) : ∀ L : List Rec, outP nd L = L
  | [] => rfl
  | r :: L => by
    have := outP_other h h' L
    unfold outP at this ⊢
    simp only [doNode]
    rw [step_other h h', step_plain h [] r, this]; rfl
set_option maxRecDepth 100000 in
set_option maxHeartbeats 1000000 in
theorem do_other (na : Array Value) (nd : Nod) (tv v : Value) (L : List Rec) (w : World) (hn : NodAt w na nd) (hp : PlainK nd.kind) (hk : nd.kind ≠ 2 ∧ nd.kind ≠ 3 ∧ nd.kind ≠ 4 ∧ nd.kind ≠ 5) (hr : Reads w 3 v (recs L)) (hok : ∀ r ∈ L, RecOk r) (hlen : L.length ≤ 100000000) (ht : ∃ p, tv = .pointer p) :
    Calls Tryz.prog 69 #[.agg na, tv, v] w (DoPQ w (outP nd L)) := by
  rw [outP_other hp hk]
  obtain ⟨tp, rfl⟩ := ht
  obtain ⟨va, vcap, rfl, hv1, hv2⟩ := hr.len
  obtain ⟨uid, inv, p, cap, rfl, hx, hk0, hk1, hn64⟩ := hn
  have N := Lib.hid (show NodAt w _ nd from ⟨uid, inv, p, cap, rfl, hx, hk0, hk1, hn64⟩)
  have HR := Lib.hid hr
  have HOK := Lib.hid hok
  obtain ⟨p6, p7⟩ := hp
  obtain ⟨p2, p3, p4, p5⟩ := hk
  have q2 : (nd.kind == 2) = false := by simp [p2]
  have q3 : (nd.kind == 3) = false := by simp [p3]
  have q4 : (nd.kind == 4) = false := by simp [p4]
  have q5 : (nd.kind == 5) = false := by simp [p5]
  have q6 : (nd.kind == 6) = false := by simp [p6]
  have q7 : (nd.kind == 7) = false := by simp [p7]
  clear hx hr hok p2 p3 p4 p5 p6 p7
  go_enter Tryz.func69, Tryz.ntmps69
  go_wp2_with fail
  obtain ⟨W0, hW0⟩ : ∃ W0, ((((w.alloc (.cells #[.string uid, .int .u8 nd.kind, inv, .int .u8 nd.x.op, .int .i64 nd.x.n, .slice p nd.x.args.length cap, .int .i64 nd.n] 42)).alloc (.cells #[.pointer tp] 43)).alloc (.cells #[.slice va L.length vcap] 60)).alloc (.cells #[.slice none 0 0] 60)).alloc (.cells #[.func (.func 104) #[] #[.pointer (some ⟨w.heap.size + 1 + 1 + 1, 0, none⟩)]] 184) = W0 := ⟨_, rfl⟩
  rw [hW0]
  obtain ⟨i1, i2, i3, i4⟩ := DoSt.init (S := none') (fun _ h => h.elim) N.out HR.out HOK.out hW0
  have c := clone_rec (.slice va L.length vcap) (recs L) W0 (HR.out.pure i3) (recs_one L) (by rw [recs_length]; omega)
  (with_reducible refine c.mono ?_)
  clear c
  rintro e W1 ⟨v', n', rfl, g1, g2, g3⟩
  obtain ⟨oa, oc, rfl⟩ := owns_slice g1
  rw [recs_length] at g2
  have hn' : n' = L.length := by omega
  subst hn'
  obtain ⟨u, h1, h2, h3⟩ := i1.out
  have hB := g3.heap h1 (fun h => h)
  have s0 : W1.cell? ⟨w.heap.size + 1 + 1 + 1, 0, none⟩ = some u := cells_at hB rfl
  have s1 := free_at hB 0
  have hrow := Reads.of_owns g1
  have kst : Kept (one (w.heap.size + 1 + 1 + 1)) W1 (W1.setCell ⟨w.heap.size + 1 + 1 + 1, 0, none⟩ (.slice oa L.length oc)) := (Kept.refl (one (w.heap.size + 1 + 1 + 1)) W1).setCell (p := ⟨w.heap.size + 1 + 1 + 1, 0, none⟩) (.inl rfl) _
  have F := Lib.hid (show DoPQ w L (.returned (.slice oa L.length oc)) (W1.setCell ⟨w.heap.size + 1 + 1 + 1, 0, none⟩ (.slice oa L.length oc)) from
    ⟨_, rfl, hrow.kept kst (fun b hb e => by have := (owns_blk g1 hb).1; unfold one at e; omega), fun b hb => by have := (owns_blk g1 hb).1; omega, (i3.trans g3).new kst (fun i hi e => by unfold one at e; omega)⟩)
  clear g1 g2 g3 hB h1 h2 h3 hrow kst i1 i2 i3 hW0
  go_wp2_with fail
  go_ret
  exact F.out
theorem doP_any (na : Array Value) (nd : Nod) (tv v : Value) (L : List Rec) (w : World) (hn : NodAt w na nd) (hp : PlainK nd.kind) (hr : Reads w 3 v (recs L)) (hok : ∀ r ∈ L, RecOk r) (hlen : L.length ≤ 100000000) (ht : ∃ p, tv = .pointer p) :
    Calls Tryz.prog 69 #[.agg na, tv, v] w (DoPQ w (outP nd L)) := by
  by_cases h2 : nd.kind = 2
  · exact do_map na nd tv v L w hn h2 hr hok hlen ht
  · by_cases h5 : nd.kind = 5
    · exact do_key na nd tv v L w hn h5 hr hok hlen ht
    · by_cases h3 : nd.kind = 3
      · exact do_filter na nd tv v L w hn h3 hr hok hlen ht
      · by_cases h4 : nd.kind = 4
        · exact do_flat na nd tv v L w hn h4 hr hok hlen ht
        · exact do_other na nd tv v L w hn hp ⟨h2, h3, h4, h5⟩ hr hok hlen ht
end Go.Proofs.YtglbkodmmogomaaGreatDoor
/-
  What a node makes of records: Do, with a table.
-/
namespace Go.Proofs.YtglbkodmmogomaaGreatDoor
open Go Go.RowKit Go.Shelf
attribute [local irreducible] wpL
abbrev AnyB : Nat → Prop := fun _ => True
theorem TabAt.any {w : World} {M : Nat → Prop} {b m : Nat} {T : Tab} (h : TabAt w M b m T) : TabAt w AnyB b m T := h.mono (fun _ _ _ => trivial)
theorem TabAt.notCells {w : World} {M : Nat → Prop} {b m : Nat} {T : Tab} (h : TabAt w M b m T) : ∀ c E f, w.heap[m]? ≠ some (.cells c E f) := by
  obtain ⟨l, hl, _⟩ := h.map
  obtain ⟨L, cl, hL, _⟩ := hl
  intro c E f e
  rw [hL.heap] at e; cases e
def DoMQ (M : Nat → Prop) (w : World) (tb tm : Nat) (out : List Rec) (T : Tab) (e : Ending) (w' : World) : Prop :=
  ∃ v, e = .returned v ∧ Reads w' 3 v (recs out) ∧ (∀ b, Value.blk v = some b → w.heap.size ≤ b) ∧ TabAt w' (fun k => M k ∨ w.heap.size ≤ k) tb tm T ∧ Kept (one tm) w w'
theorem step_reduce {nd : Nod} (h : nd.kind = 6) (T : Tab) (r : Rec) : stepNode nd T r = (redL T r (exInt nd.x { envOf r with acc := (cellOf T r.key).1 }), putT T r.key (exInt nd.x { envOf r with acc := (cellOf T r.key).1 }, [])) := by
  unfold stepNode redL
  rw [if_neg (by omega), if_neg (by omega), if_neg (by omega), if_neg (by omega), if_pos h]
theorem step_window {nd : Nod} (h : nd.kind = 7) (T : Tab) (r : Rec) : stepNode nd T r = (winL T r nd.n ((cellOf T r.key).2 ++ [r.val]), winT T r nd.n (cellOf T r.key).1 ((cellOf T r.key).2 ++ [r.val])) := by
  unfold stepNode winL winT winB
  rw [if_neg (by omega), if_neg (by omega), if_neg (by omega), if_neg (by omega), if_neg (by omega), if_pos h, List.length_append]
  simp only [List.length_cons, List.length_nil, Nat.zero_add]
  split <;> rfl
theorem doNode_take {nd : Nod} {T : Tab} {L : List Rec} {k : Nat} {r : Rec} (hr : L[k]? = some r) : doNode nd T (L.take (k + 1)) = ((doNode nd T (L.take k)).1 ++ (stepNode nd (doNode nd T (L.take k)).2 r).1, (stepNode nd (doNode nd T (L.take k)).2 r).2) := by
  rw [List.take_add_one, hr]; exact doNode_snoc nd r (L.take k) T

set_option maxRecDepth 100000 in
set_option maxHeartbeats 1000000 in
theorem do_reduce (na : Array Value) (nd : Nod) (tb tm : Nat) (T : Tab) (M : Nat → Prop) (v : Value) (L : List Rec) (w : World) (hn : NodAt w na nd) (hk : nd.kind = 6) (hr : Reads w 3 v (recs L)) (hok : ∀ r ∈ L, RecOk r) (hlen : L.length ≤ 100000000) (ht : TabAt w M tb tm T) :
    Calls Tryz.prog 69 #[.agg na, .pointer (some ⟨tb, 0, none⟩), v] w (DoMQ M w tb tm (doNode nd T L).1 (doNode nd T L).2) := by
  obtain ⟨va, vcap, rfl, hv1, hv2⟩ := hr.len
  obtain ⟨uid, inv, p, cap, rfl, hx, hk0, hk1, hn64⟩ := hn
  have htl := ht.lt
  have N := Lib.hid (show NodAt w _ nd from ⟨uid, inv, p, cap, rfl, hx, hk0, hk1, hn64⟩)
  have HR := Lib.hid hr
  have HOK := Lib.hid hok
  have HK := Lib.hid hk
  have HT := Lib.hid ht
  obtain ⟨kk, hkk⟩ : ∃ kk, nd.kind = kk := ⟨_, rfl⟩
  rw [hkk] at hk N ⊢
  subst hk
  have HKK := Lib.hid hkk
  clear hx hr hok hkk hk0 hk1 ht
  go_enter Tryz.func69, Tryz.ntmps69
  go_wp2_with fail
  obtain ⟨W0, hW0⟩ : ∃ W0, ((((w.alloc (.cells #[.string uid, .int .u8 6, inv, .int .u8 nd.x.op, .int .i64 nd.x.n, .slice p nd.x.args.length cap, .int .i64 nd.n] 42)).alloc (.cells #[.pointer (some ⟨tb, 0, none⟩)] 43)).alloc (.cells #[.slice va L.length vcap] 60)).alloc (.cells #[.slice none 0 0] 60)).alloc (.cells #[.func (.func 104) #[] #[.pointer (some ⟨w.heap.size + 1 + 1 + 1, 0, none⟩)]] 184) = W0 := ⟨_, rfl⟩
  rw [hW0]
  obtain ⟨i1, i2, i3, i4⟩ := DoSt.init (S := one tm) (fun k h => by unfold one at h; subst h; exact ⟨htl.1, HT.out.notCells⟩) N.out HR.out HOK.out hW0
  have i5 : TbSt M w W0 w.heap.size (w.heap.size + 1 + 1) (w.heap.size + 1 + 1 + 1) (w.heap.size + 1 + 1 + 1 + 1) (w.heap.size + 1) (w.heap.size + 5) tb tm #[.string uid, .int .u8 6, inv, .int .u8 nd.x.op, .int .i64 nd.x.n, .slice p nd.x.args.length cap, .int .i64 nd.n] nd (.slice va L.length vcap) L [] T := by
    refine ⟨i1, i2, ⟨by omega, by omega, by omega, htl.1⟩, ⟨fun _ => False, fun k => M k ∧ k < w.heap.size, ?_, (HT.out.mono (fun k h hl => ⟨h, hl⟩)).pure i3, fun _ h => h.elim, fun h => by omega, fun _ h => h.elim, fun k h => .inl h.1⟩⟩
    obtain ⟨u, h1, h2, h3⟩ := i1.out
    refine ⟨u, h1, h2, fun k hk => ?_⟩
    have e1 := (owns_own h2 hk).1
    have e2 := (owns_own h2 hk).2
    omega
  have c := each_any 111 #[.pointer (some ⟨w.heap.size + 1, 0, none⟩), .pointer (some ⟨w.heap.size, 0, none⟩), .pointer (some ⟨w.heap.size + 1 + 1 + 1 + 1, 0, none⟩)] L (.slice va L.length vcap) (w.heap.size + 1 + 1) (fun k w' => TbSt M w w' w.heap.size (w.heap.size + 1 + 1) (w.heap.size + 1 + 1 + 1) (w.heap.size + 1 + 1 + 1 + 1) (w.heap.size + 1) (w.heap.size + 5) tb tm _ nd (.slice va L.length vcap) L (doNode nd T (L.take k)).1 (doNode nd T (L.take k)).2) W0
    (enters_of Tryz.func111 (by kernel_rfl) rfl) (fun k w' h => ⟨cells_at h.st.ins rfl, h.st.reads⟩) (fun k w' o h => h.alloc o) i5 (fun k r w' hr h => by
      have hs := doNode_take (nd := nd) (T := T) hr
      rw [step_reduce HK.out] at hs
      have hl := do_len_take nd L T k
      show Calls Tryz.prog 111 #[recV r, envV (envOf r), .pointer (some ⟨w.heap.size + 1, 0, none⟩), .pointer (some ⟨w.heap.size, 0, none⟩), .pointer (some ⟨w.heap.size + 1 + 1 + 1 + 1, 0, none⟩)] w' _
      refine (clos_reduce h r (HOK.out r (List.mem_of_getElem? hr)) (by omega)).mono ?_
      rintro e w2 ⟨rfl, h2⟩
      refine ⟨rfl, ?_⟩
      simp only [hs]
      exact h2)
  (with_reducible refine c.mono ?_)
  clear c
  rintro e W1 ⟨rfl, d1⟩
  rw [List.take_of_length_le (Nat.le_refl _)] at d1
  obtain ⟨a, rcap, r1, r2, r3⟩ := d1.st.fin
  obtain ⟨A, M', _, t1, _, _, _, t1m⟩ := d1.sep
  have F := Lib.hid (show DoMQ M w tb tm (doNode nd T L).1 (doNode nd T L).2 (.returned (.slice a (doNode nd T L).1.length rcap)) W1 from ⟨_, rfl, r2, r3, t1.mono (fun k hk _ => (t1m k hk).imp id (fun h => by omega)), d1.st.kept⟩)
  clear d1 r2 r3 i1 i2 i3 i4 i5 hW0 t1
  go_wp2_with fail
  go_ret
  exact F.out
set_option maxRecDepth 100000 in
set_option maxHeartbeats 1000000 in
theorem do_window (na : Array Value) (nd : Nod) (tb tm : Nat) (T : Tab) (M : Nat → Prop) (v : Value) (L : List Rec) (w : World) (hn : NodAt w na nd) (hk : nd.kind = 7) (hr : Reads w 3 v (recs L)) (hok : ∀ r ∈ L, RecOk r) (hlen : L.length ≤ 100000000) (ht : TabAt w M tb tm T) :
    Calls Tryz.prog 69 #[.agg na, .pointer (some ⟨tb, 0, none⟩), v] w (DoMQ M w tb tm (doNode nd T L).1 (doNode nd T L).2) := by
  obtain ⟨va, vcap, rfl, hv1, hv2⟩ := hr.len
  obtain ⟨uid, inv, p, cap, rfl, hx, hk0, hk1, hn64⟩ := hn
  have htl := ht.lt
  have N := Lib.hid (show NodAt w _ nd from ⟨uid, inv, p, cap, rfl, hx, hk0, hk1, hn64⟩)
  have HR := Lib.hid hr
  have HOK := Lib.hid hok
  have HK := Lib.hid hk
  have HT := Lib.hid ht
  obtain ⟨kk, hkk⟩ : ∃ kk, nd.kind = kk := ⟨_, rfl⟩
  rw [hkk] at hk N ⊢
  subst hk
  have HKK := Lib.hid hkk
  clear hx hr hok hkk hk0 hk1 ht
  go_enter Tryz.func69, Tryz.ntmps69
  go_wp2_with fail
  obtain ⟨W0, hW0⟩ : ∃ W0, ((((w.alloc (.cells #[.string uid, .int .u8 7, inv, .int .u8 nd.x.op, .int .i64 nd.x.n, .slice p nd.x.args.length cap, .int .i64 nd.n] 42)).alloc (.cells #[.pointer (some ⟨tb, 0, none⟩)] 43)).alloc (.cells #[.slice va L.length vcap] 60)).alloc (.cells #[.slice none 0 0] 60)).alloc (.cells #[.func (.func 104) #[] #[.pointer (some ⟨w.heap.size + 1 + 1 + 1, 0, none⟩)]] 184) = W0 := ⟨_, rfl⟩
  rw [hW0]
  obtain ⟨i1, i2, i3, i4⟩ := DoSt.init (S := one tm) (fun k h => by unfold one at h; subst h; exact ⟨htl.1, HT.out.notCells⟩) N.out HR.out HOK.out hW0
  have i5 : TbSt M w W0 w.heap.size (w.heap.size + 1 + 1) (w.heap.size + 1 + 1 + 1) (w.heap.size + 1 + 1 + 1 + 1) (w.heap.size + 1) (w.heap.size + 5) tb tm #[.string uid, .int .u8 7, inv, .int .u8 nd.x.op, .int .i64 nd.x.n, .slice p nd.x.args.length cap, .int .i64 nd.n] nd (.slice va L.length vcap) L [] T := by
    refine ⟨i1, i2, ⟨by omega, by omega, by omega, htl.1⟩, ⟨fun _ => False, fun k => M k ∧ k < w.heap.size, ?_, (HT.out.mono (fun k h hl => ⟨h, hl⟩)).pure i3, fun _ h => h.elim, fun h => by omega, fun _ h => h.elim, fun k h => .inl h.1⟩⟩
    obtain ⟨u, h1, h2, h3⟩ := i1.out
    refine ⟨u, h1, h2, fun k hk => ?_⟩
    have e1 := (owns_own h2 hk).1
    have e2 := (owns_own h2 hk).2
    omega
  have c := each_any 113 #[.pointer (some ⟨w.heap.size + 1, 0, none⟩), .pointer (some ⟨w.heap.size, 0, none⟩), .pointer (some ⟨w.heap.size + 1 + 1 + 1 + 1, 0, none⟩)] L (.slice va L.length vcap) (w.heap.size + 1 + 1) (fun k w' => TbSt M w w' w.heap.size (w.heap.size + 1 + 1) (w.heap.size + 1 + 1 + 1) (w.heap.size + 1 + 1 + 1 + 1) (w.heap.size + 1) (w.heap.size + 5) tb tm _ nd (.slice va L.length vcap) L (doNode nd T (L.take k)).1 (doNode nd T (L.take k)).2) W0
    (enters_of Tryz.func113 (by kernel_rfl) rfl) (fun k w' h => ⟨cells_at h.st.ins rfl, h.st.reads⟩) (fun k w' o h => h.alloc o) i5 (fun k r w' hr h => by
      have hs := doNode_take (nd := nd) (T := T) hr
      rw [step_window HK.out] at hs
      have hl := do_len_take nd L T k
      show Calls Tryz.prog 113 #[recV r, envV (envOf r), .pointer (some ⟨w.heap.size + 1, 0, none⟩), .pointer (some ⟨w.heap.size, 0, none⟩), .pointer (some ⟨w.heap.size + 1 + 1 + 1 + 1, 0, none⟩)] w' _
      refine (clos_window h r (HOK.out r (List.mem_of_getElem? hr)) (by omega)).mono ?_
      rintro e w2 ⟨rfl, h2⟩
      refine ⟨rfl, ?_⟩
      simp only [hs]
      exact h2)
  (with_reducible refine c.mono ?_)
  clear c
  rintro e W1 ⟨rfl, d1⟩
  rw [List.take_of_length_le (Nat.le_refl _)] at d1
  obtain ⟨a, rcap, r1, r2, r3⟩ := d1.st.fin
  obtain ⟨A, M', _, t1, _, _, _, t1m⟩ := d1.sep
  have F := Lib.hid (show DoMQ M w tb tm (doNode nd T L).1 (doNode nd T L).2 (.returned (.slice a (doNode nd T L).1.length rcap)) W1 from ⟨_, rfl, r2, r3, t1.mono (fun k hk _ => (t1m k hk).imp id (fun h => by omega)), d1.st.kept⟩)
  clear d1 r2 r3 i1 i2 i3 i4 i5 hW0 t1
  go_wp2_with fail
  go_ret
  exact F.out
theorem doM_any (na : Array Value) (nd : Nod) (tb tm : Nat) (T : Tab) (M : Nat → Prop) (v : Value) (L : List Rec) (w : World) (hn : NodAt w na nd) (hr : Reads w 3 v (recs L)) (hok : ∀ r ∈ L, RecOk r) (hlen : L.length ≤ 100000000) (ht : TabAt w M tb tm T) :
    Calls Tryz.prog 69 #[.agg na, .pointer (some ⟨tb, 0, none⟩), v] w (DoMQ M w tb tm (doNode nd T L).1 (doNode nd T L).2) := by
  by_cases h6 : nd.kind = 6
  · exact do_reduce na nd tb tm T M v L w hn h6 hr hok hlen ht
  · by_cases h7 : nd.kind = 7
    · exact do_window na nd tb tm T M v L w hn h7 hr hok hlen ht
    · rw [do_plain ⟨h6, h7⟩]
      refine (doP_any na nd _ v L w hn ⟨h6, h7⟩ hr hok hlen ⟨_, rfl⟩).mono ?_
      rintro e w' ⟨u, rfl, h1, h2, h3⟩
      exact ⟨u, rfl, h1, h2, (ht.pure h3).mono (fun k hk _ => .inl hk), h3.pure⟩
end Go.Proofs.YtglbkodmmogomaaGreatDoor
/-
  'works' of layer 17: a node of two, and what it makes.
-/
namespace Go.Proofs.YtglbkodmmogomaaGreatDoor
open Go Go.RowKit
attribute [local irreducible] wpL
def ex2 (op a b : Int) : Ex := .mk op 0 [.mk a 0 [], .mk b 0 []]
theorem ExAt.leaf (w : World) (a : Int) (h0 : 0 ≤ a) (h1 : a ≤ 255) : ExAt w #[.int .u8 a, .int .i64 0, .slice none 0 0] (.mk a 0 []) :=
  .mk h0 h1 zero_r64 (Reads.nil w 3) rfl (fun i x h => by cases h)
theorem ExAt.two {w : World} {op a b : Int} {v : Value} (ho : 0 ≤ op ∧ op ≤ 255) (ha : 0 ≤ a ∧ a ≤ 255) (hb : 0 ≤ b ∧ b ≤ 255) (hr : Reads w 3 v [.int .u8 a, .int .i64 0, .slice none 0 0, .int .u8 b, .int .i64 0, .slice none 0 0]) :
    ExAt w #[.int .u8 op, .int .i64 0, v] (ex2 op a b) := by
  refine .mk ho.1 ho.2 zero_r64 hr rfl (fun i x h => ?_)
  match i, h with
  | 0, h => cases h; exact ExAt.leaf w a ha.1 ha.2
  | 1, h => cases h; exact ExAt.leaf w b hb.1 hb.2
end Go.Proofs.YtglbkodmmogomaaGreatDoor
