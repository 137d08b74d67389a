/-
  What a node makes of records: Do, with a table.
-/
import Derived.Test.YtaalpijohdlabaaOpe7
namespace Go.Proofs.Ytaalpijohdlabaa
open Go Go.RowKit Go.Shelf
attribute [local irreducible] wpL
abbrev AnyB : Nat → Prop := fun _ => True
theorem TabAt.any {w : World} {M : Nat → Prop} {b m : Nat} {T : Tab} (h : TabAt w M b m T) : TabAt w AnyB b m T := h.mono (fun _ _ _ => trivial)
theorem TabAt.notCells {w : World} {M : Nat → Prop} {b m : Nat} {T : Tab} (h : TabAt w M b m T) : ∀ c E f, w.heap[m]? ≠ some (.cells c E f) := by
  obtain ⟨l, hl, _⟩ := h.map
  obtain ⟨L, cl, hL, _⟩ := hl
  intro c E f e
  rw [hL.heap] at e; cases e
/-- What Do answers, and what it leaves in the table. -/
def DoTQ (w : World) (tb tm : Nat) (out : List Rec) (T : Tab) (e : Ending) (w' : World) : Prop :=
  ∃ v, e = .returned v ∧ Reads w' 3 v (recs out) ∧ (∀ b, Value.blk v = some b → w.heap.size ≤ b) ∧ TabAt w' AnyB tb tm T ∧ Kept (one tm) w w'
theorem step_reduce {nd : Nod} (h : nd.kind = 6) (T : Tab) (r : Rec) : stepNode nd T r = (redL T r (exInt nd.x { envOf r with acc := (cellOf T r.key).1 }), putT T r.key (exInt nd.x { envOf r with acc := (cellOf T r.key).1 }, [])) := by
  unfold stepNode redL
  rw [if_neg (by omega), if_neg (by omega), if_neg (by omega), if_neg (by omega), if_pos h]
theorem step_window {nd : Nod} (h : nd.kind = 7) (T : Tab) (r : Rec) : stepNode nd T r = (winL T r nd.n ((cellOf T r.key).2 ++ [r.val]), winT T r nd.n (cellOf T r.key).1 ((cellOf T r.key).2 ++ [r.val])) := by
  unfold stepNode winL winT winB
  rw [if_neg (by omega), if_neg (by omega), if_neg (by omega), if_neg (by omega), if_neg (by omega), if_pos h, List.length_append]
  simp only [List.length_cons, List.length_nil, Nat.zero_add]
  split <;> rfl
theorem doNode_take {nd : Nod} {T : Tab} {L : List Rec} {k : Nat} {r : Rec} (hr : L[k]? = some r) : doNode nd T (L.take (k + 1)) = ((doNode nd T (L.take k)).1 ++ (stepNode nd (doNode nd T (L.take k)).2 r).1, (stepNode nd (doNode nd T (L.take k)).2 r).2) := by
  rw [List.take_add_one, hr]; exact doNode_snoc nd r (L.take k) T

set_option maxRecDepth 100000 in
set_option maxHeartbeats 1000000 in
theorem do_reduce (na : Array Value) (nd : Nod) (tb tm : Nat) (T : Tab) (M : Nat → Prop) (v : Value) (L : List Rec) (w : World) (hn : NodAt w na nd) (hk : nd.kind = 6) (hr : Reads w 3 v (recs L)) (hok : ∀ r ∈ L, RecOk r) (hlen : L.length ≤ 100000000) (ht : TabAt w M tb tm T) :
    Calls Try.prog 27 #[.agg na, .pointer (some ⟨tb, 0, none⟩), v] w (DoTQ w tb tm (doNode nd T L).1 (doNode nd T L).2) := by
  obtain ⟨va, vcap, rfl, hv1, hv2⟩ := hr.len
  obtain ⟨uid, inv, p, cap, rfl, hx, hk0, hk1, hn64⟩ := hn
  have htl := ht.lt
  have N := Lib.hid (show NodAt w _ nd from ⟨uid, inv, p, cap, rfl, hx, hk0, hk1, hn64⟩)
  have HR := Lib.hid hr
  have HOK := Lib.hid hok
  have HK := Lib.hid hk
  have HT := Lib.hid ht
  obtain ⟨kk, hkk⟩ : ∃ kk, nd.kind = kk := ⟨_, rfl⟩
  rw [hkk] at hk N ⊢
  subst hk
  have HKK := Lib.hid hkk
  clear hx hr hok hkk hk0 hk1 ht
  go_enter Try.func27, Try.ntmps27
  go_wp2_with fail
  obtain ⟨W0, hW0⟩ : ∃ W0, ((((w.alloc (.cells #[.string uid, .int .u8 6, inv, .int .u8 nd.x.op, .int .i64 nd.x.n, .slice p nd.x.args.length cap, .int .i64 nd.n] 54)).alloc (.cells #[.pointer (some ⟨tb, 0, none⟩)] 24)).alloc (.cells #[.slice va L.length vcap] 42)).alloc (.cells #[.slice none 0 0] 42)).alloc (.cells #[.func (.func 63) #[] #[.pointer (some ⟨w.heap.size + 1 + 1 + 1, 0, none⟩)]] 104) = W0 := ⟨_, rfl⟩
  rw [hW0]
  obtain ⟨i1, i2, i3, i4⟩ := DoSt.init (S := one tm) (fun k h => by unfold one at h; subst h; exact ⟨htl.1, HT.out.notCells⟩) N.out HR.out HOK.out hW0
  have i5 : TbSt w W0 w.heap.size (w.heap.size + 1 + 1) (w.heap.size + 1 + 1 + 1) (w.heap.size + 1 + 1 + 1 + 1) (w.heap.size + 1) (w.heap.size + 5) tb tm #[.string uid, .int .u8 6, inv, .int .u8 nd.x.op, .int .i64 nd.x.n, .slice p nd.x.args.length cap, .int .i64 nd.n] nd (.slice va L.length vcap) L [] T := by
    refine ⟨i1, i2, ⟨by omega, by omega, by omega, htl.1⟩, ⟨fun _ => False, fun k => M k ∧ k < w.heap.size, ?_, (HT.out.mono (fun k h hl => ⟨h, hl⟩)).pure i3, fun _ h => h.elim, fun h => by omega, fun _ h => h.elim⟩⟩
    obtain ⟨u, h1, h2, h3⟩ := i1.out
    refine ⟨u, h1, h2, fun k hk => ?_⟩
    have e1 := (owns_own h2 hk).1
    have e2 := (owns_own h2 hk).2
    omega
  have c := each_any 70 #[.pointer (some ⟨w.heap.size + 1, 0, none⟩), .pointer (some ⟨w.heap.size, 0, none⟩), .pointer (some ⟨w.heap.size + 1 + 1 + 1 + 1, 0, none⟩)] L (.slice va L.length vcap) (w.heap.size + 1 + 1) (fun k w' => TbSt w w' w.heap.size (w.heap.size + 1 + 1) (w.heap.size + 1 + 1 + 1) (w.heap.size + 1 + 1 + 1 + 1) (w.heap.size + 1) (w.heap.size + 5) tb tm _ nd (.slice va L.length vcap) L (doNode nd T (L.take k)).1 (doNode nd T (L.take k)).2) W0
    (enters_of Try.func70 (by kernel_rfl) rfl) (fun k w' h => ⟨cells_at h.st.ins rfl, h.st.reads⟩) (fun k w' o h => h.alloc o) i5 (fun k r w' hr h => by
      have hs := doNode_take (nd := nd) (T := T) hr
      rw [step_reduce HK.out] at hs
      have hl := do_len_take nd L T k
      show Calls Try.prog 70 #[recV r, envV (envOf r), .pointer (some ⟨w.heap.size + 1, 0, none⟩), .pointer (some ⟨w.heap.size, 0, none⟩), .pointer (some ⟨w.heap.size + 1 + 1 + 1 + 1, 0, none⟩)] w' _
      refine (clos_reduce h r (HOK.out r (List.mem_of_getElem? hr)) (by omega)).mono ?_
      rintro e w2 ⟨rfl, h2⟩
      refine ⟨rfl, ?_⟩
      simp only [hs]
      exact h2)
  (with_reducible refine c.mono ?_)
  clear c
  rintro e W1 ⟨rfl, d1⟩
  rw [List.take_of_length_le (Nat.le_refl _)] at d1
  obtain ⟨a, rcap, r1, r2, r3⟩ := d1.st.fin
  obtain ⟨A, M', _, t1, _⟩ := d1.sep
  have F := Lib.hid (show DoTQ w tb tm (doNode nd T L).1 (doNode nd T L).2 (.returned (.slice a (doNode nd T L).1.length rcap)) W1 from ⟨_, rfl, r2, r3, t1.any, d1.st.kept⟩)
  clear d1 r2 r3 i1 i2 i3 i4 i5 hW0 t1
  go_wp2_with fail
  go_ret
  exact F.out
set_option maxRecDepth 100000 in
set_option maxHeartbeats 1000000 in
theorem do_window (na : Array Value) (nd : Nod) (tb tm : Nat) (T : Tab) (M : Nat → Prop) (v : Value) (L : List Rec) (w : World) (hn : NodAt w na nd) (hk : nd.kind = 7) (hr : Reads w 3 v (recs L)) (hok : ∀ r ∈ L, RecOk r) (hlen : L.length ≤ 100000000) (ht : TabAt w M tb tm T) :
    Calls Try.prog 27 #[.agg na, .pointer (some ⟨tb, 0, none⟩), v] w (DoTQ w tb tm (doNode nd T L).1 (doNode nd T L).2) := by
  obtain ⟨va, vcap, rfl, hv1, hv2⟩ := hr.len
  obtain ⟨uid, inv, p, cap, rfl, hx, hk0, hk1, hn64⟩ := hn
  have htl := ht.lt
  have N := Lib.hid (show NodAt w _ nd from ⟨uid, inv, p, cap, rfl, hx, hk0, hk1, hn64⟩)
  have HR := Lib.hid hr
  have HOK := Lib.hid hok
  have HK := Lib.hid hk
  have HT := Lib.hid ht
  obtain ⟨kk, hkk⟩ : ∃ kk, nd.kind = kk := ⟨_, rfl⟩
  rw [hkk] at hk N ⊢
  subst hk
  have HKK := Lib.hid hkk
  clear hx hr hok hkk hk0 hk1 ht
  go_enter Try.func27, Try.ntmps27
  go_wp2_with fail
  obtain ⟨W0, hW0⟩ : ∃ W0, ((((w.alloc (.cells #[.string uid, .int .u8 7, inv, .int .u8 nd.x.op, .int .i64 nd.x.n, .slice p nd.x.args.length cap, .int .i64 nd.n] 54)).alloc (.cells #[.pointer (some ⟨tb, 0, none⟩)] 24)).alloc (.cells #[.slice va L.length vcap] 42)).alloc (.cells #[.slice none 0 0] 42)).alloc (.cells #[.func (.func 63) #[] #[.pointer (some ⟨w.heap.size + 1 + 1 + 1, 0, none⟩)]] 104) = W0 := ⟨_, rfl⟩
  rw [hW0]
  obtain ⟨i1, i2, i3, i4⟩ := DoSt.init (S := one tm) (fun k h => by unfold one at h; subst h; exact ⟨htl.1, HT.out.notCells⟩) N.out HR.out HOK.out hW0
  have i5 : TbSt w W0 w.heap.size (w.heap.size + 1 + 1) (w.heap.size + 1 + 1 + 1) (w.heap.size + 1 + 1 + 1 + 1) (w.heap.size + 1) (w.heap.size + 5) tb tm #[.string uid, .int .u8 7, inv, .int .u8 nd.x.op, .int .i64 nd.x.n, .slice p nd.x.args.length cap, .int .i64 nd.n] nd (.slice va L.length vcap) L [] T := by
    refine ⟨i1, i2, ⟨by omega, by omega, by omega, htl.1⟩, ⟨fun _ => False, fun k => M k ∧ k < w.heap.size, ?_, (HT.out.mono (fun k h hl => ⟨h, hl⟩)).pure i3, fun _ h => h.elim, fun h => by omega, fun _ h => h.elim⟩⟩
    obtain ⟨u, h1, h2, h3⟩ := i1.out
    refine ⟨u, h1, h2, fun k hk => ?_⟩
    have e1 := (owns_own h2 hk).1
    have e2 := (owns_own h2 hk).2
    omega
  have c := each_any 71 #[.pointer (some ⟨w.heap.size + 1, 0, none⟩), .pointer (some ⟨w.heap.size, 0, none⟩), .pointer (some ⟨w.heap.size + 1 + 1 + 1 + 1, 0, none⟩)] L (.slice va L.length vcap) (w.heap.size + 1 + 1) (fun k w' => TbSt w w' w.heap.size (w.heap.size + 1 + 1) (w.heap.size + 1 + 1 + 1) (w.heap.size + 1 + 1 + 1 + 1) (w.heap.size + 1) (w.heap.size + 5) tb tm _ nd (.slice va L.length vcap) L (doNode nd T (L.take k)).1 (doNode nd T (L.take k)).2) W0
    (enters_of Try.func71 (by kernel_rfl) rfl) (fun k w' h => ⟨cells_at h.st.ins rfl, h.st.reads⟩) (fun k w' o h => h.alloc o) i5 (fun k r w' hr h => by
      have hs := doNode_take (nd := nd) (T := T) hr
      rw [step_window HK.out] at hs
      have hl := do_len_take nd L T k
      show Calls Try.prog 71 #[recV r, envV (envOf r), .pointer (some ⟨w.heap.size + 1, 0, none⟩), .pointer (some ⟨w.heap.size, 0, none⟩), .pointer (some ⟨w.heap.size + 1 + 1 + 1 + 1, 0, none⟩)] w' _
      refine (clos_window h r (HOK.out r (List.mem_of_getElem? hr)) (by omega)).mono ?_
      rintro e w2 ⟨rfl, h2⟩
      refine ⟨rfl, ?_⟩
      simp only [hs]
      exact h2)
  (with_reducible refine c.mono ?_)
  clear c
  rintro e W1 ⟨rfl, d1⟩
  rw [List.take_of_length_le (Nat.le_refl _)] at d1
  obtain ⟨a, rcap, r1, r2, r3⟩ := d1.st.fin
  obtain ⟨A, M', _, t1, _⟩ := d1.sep
  have F := Lib.hid (show DoTQ w tb tm (doNode nd T L).1 (doNode nd T L).2 (.returned (.slice a (doNode nd T L).1.length rcap)) W1 from ⟨_, rfl, r2, r3, t1.any, d1.st.kept⟩)
  clear d1 r2 r3 i1 i2 i3 i4 i5 hW0 t1
  go_wp2_with fail
  go_ret
  exact F.out
theorem doT_any (na : Array Value) (nd : Nod) (tb tm : Nat) (T : Tab) (M : Nat → Prop) (v : Value) (L : List Rec) (w : World) (hn : NodAt w na nd) (hr : Reads w 3 v (recs L)) (hok : ∀ r ∈ L, RecOk r) (hlen : L.length ≤ 100000000) (ht : TabAt w M tb tm T) :
    Calls Try.prog 27 #[.agg na, .pointer (some ⟨tb, 0, none⟩), v] w (DoTQ w tb tm (doNode nd T L).1 (doNode nd T L).2) := by
  by_cases h6 : nd.kind = 6
  · exact do_reduce na nd tb tm T M v L w hn h6 hr hok hlen ht
  · by_cases h7 : nd.kind = 7
    · exact do_window na nd tb tm T M v L w hn h7 hr hok hlen ht
    · rw [do_plain ⟨h6, h7⟩]
      refine (doP_any na nd _ v L w hn ⟨h6, h7⟩ hr hok hlen ⟨_, rfl⟩).mono ?_
      rintro e w' ⟨u, rfl, h1, h2, h3⟩
      exact ⟨u, rfl, h1, h2, (ht.pure h3).any, h3.pure⟩
end Go.Proofs.Ytaalpijohdlabaa
