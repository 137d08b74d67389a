/-
  OperRows: its walk.
-/
import Derived.Test.YtaalpijohdlabaaRefD
import Derived.Test.YtaalpijohdlabaaGts
import Derived.Test.YtaalpijohdlabaaTab9
import Derived.Test.YtaalpijohdlabaaMrg1
namespace Go.Proofs.Ytaalpijohdlabaa
open Go Go.RowKit
attribute [local irreducible] wpL
theorem stepNode_len (nd : Nod) (T : Tab) (r : Rec) : (stepNode nd T r).1.length ≤ 4 := by
  unfold stepNode
  repeat' split
  all_goals first | (simp; done) | (unfold flatL flatN; rw [List.length_map, List.length_range]; omega)
theorem doNode_len (nd : Nod) : ∀ (L : List Rec) (T : Tab), (doNode nd T L).1.length ≤ 4 * L.length
  | [], T => by simp [doNode]
  | r :: l, T => by
    have h1 := stepNode_len nd T r
    have h2 := doNode_len nd l (stepNode nd T r).2
    simp only [doNode, List.length_append, List.length_cons]
    omega
/-- A cut of the records does not show. -/
theorem doNode_cut (nd : Nod) (T : Tab) (L : List Rec) (k : Nat) : doNode nd T L = ((doNode nd T (L.take k)).1 ++ (doNode nd (doNode nd T (L.take k)).2 (L.drop k)).1, (doNode nd (doNode nd T (L.take k)).2 (L.drop k)).2) := by
  have h := doNode_append nd (L.take k) (L.drop k) T
  rw [List.take_append_drop] at h
  exact h
theorem TabAt.noCells {w : World} {B : Nat → Prop} {b m : Nat} {T : Tab} (h : TabAt w B b m T) (B' : Nat → Prop) : NoCells w (one m) B' := by
  obtain ⟨l, hl, _⟩ := h.map
  exact .map hl _
theorem NodAt.keptN {S : Nat → Prop} {w w' : World} {a : Array Value} {nd : Nod} (h : NodAt w a nd) (hk : Kept S w w') (hS : NoCells w S (fun _ => True)) : NodAt w' a nd :=
  h.kept hk (fun k hs c E f e => hS k hs trivial (Array.getElem?_eq_some_iff.1 e).1 c E f e)
theorem sl_drop_all {w : World} {a : Option Addr} {n cap k : Nat} {L : List Rec} (h : Reads w 3 (.slice a n cap) (recs L)) (hk : k ≤ n) :
    ∃ a' n' cap', (∀ W, (Instr.slice 42 (.slice a n cap) (some (.int .i64 (k : Int))) none none).run Try.prog W = .ok (.slice a' n' cap') W) ∧ Reads w 3 (.slice a' n' cap') (recs (L.drop k)) := by
  obtain ⟨v, h1, h2⟩ := sl_drop h hk
  obtain ⟨a', n', cap', e, b1, b2, b3, b4⟩ := h
  cases e
  have hall : ∀ W, (Instr.slice 42 (.slice a n cap) (some (.int .i64 (k : Int))) none none).run Try.prog W = .ok (.slice (if cap = k then a else a.map (·.add (k * 3))) (n - k) (cap - k)) W := by
    intro W
    have hb : (Instr.sliceBounds true n cap (some (.int .i64 (k : Int))) none none).run Try.prog W = .ok (k, n, cap) W := by
      simp [Instr.sliceBounds, Instr.sliceBound, asIntOf]
      intro h; omega
    simp only [Instr.slice, Sem.run_bind, run_underlying Try.underlying42, Result.andThen_ok, hb, size46, Sem.run_pure]
  have e := (hall w).symm.trans h1
  injection e with e
  exact ⟨_, _, _, hall, e ▸ h2⟩
theorem sl_take_all {w : World} {a : Option Addr} {n cap k : Nat} {L : List Rec} (h : Reads w 3 (.slice a n cap) (recs L)) (hk : k ≤ n) :
    ∀ W, (Instr.slice 42 (.slice a n cap) none (some (.int .i64 (k : Int))) none).run Try.prog W = .ok (.slice a k cap) W := by
  obtain ⟨a', n', cap', e, b1, b2, b3, b4⟩ := h
  cases e
  intro W
  have hb : (Instr.sliceBounds true n cap none (some (.int .i64 (k : Int))) none).run Try.prog W = .ok (0, k, cap) W := by
    simp [Instr.sliceBounds, Instr.sliceBound, asIntOf]
    intro h; omega
  simp only [Instr.slice, Sem.run_bind, run_underlying Try.underlying42, Result.andThen_ok, hb, size46, Sem.run_pure]
  cases a with
  | none => simp
  | some a => simp [Addr.add]
set_option maxRecDepth 100000 in
set_option maxHeartbeats 4000000 in
theorem oper_rows_walk (na : Array Value) (nd : Nod) (vo v : Value) (ops : List Op) (L : List Rec) (at' : Int) (w : World) (hn : NodAt w na nd) (ho : OpsAt w vo ops) (hr : Reads w 3 v (recs L)) (hok : ∀ r ∈ L, RecOk r) (hsz : L.length ≤ 5864062014805) (hat : R64 at') :
    Calls Try.prog 13 #[.agg na, vo, v, .int .i64 at'] w (Gives w (.bool true)) := by
  have HN := Lib.hid hn
  have HO := Lib.hid ho
  have HR := Lib.hid hr
  have HOK := Lib.hid hok
  obtain ⟨uid, inv, p, cap, rfl, hx, hk0, hk1, hn64⟩ := hn
  obtain ⟨va, vc, rfl, hv1, hv2⟩ := hr.len
  obtain ⟨oa, oc, rfl, _⟩ := ho
  unfold maxLen at hv2
  clear hx hok hr
  go_enter Try.func13, Try.ntmps13
  go_wp2_with fail
  obtain ⟨W0, hW0⟩ : ∃ W0, w.alloc (.cells #[.string uid, .int .u8 nd.kind, inv, .int .u8 nd.x.op, .int .i64 nd.x.n, .slice p nd.x.args.length cap, .int .i64 nd.n] 54) = W0 := ⟨_, rfl⟩
  have q0 : Kept none' w W0 := by rw [← hW0]; exact (Kept.refl _ _).alloc _
  have d0 : W0.cell? ⟨w.heap.size, 0, none⟩ = some (.string uid) := by rw [← hW0]; simp
  have d1 : W0.cell? ⟨w.heap.size, 1, none⟩ = some (.int .u8 nd.kind) := by rw [← hW0]; simp
  have d2 : W0.cell? ⟨w.heap.size, 2, none⟩ = some inv := by rw [← hW0]; simp
  have d3 : W0.cell? ⟨w.heap.size, 3, none⟩ = some (.int .u8 nd.x.op) := by rw [← hW0]; simp
  have d4 : W0.cell? ⟨w.heap.size, 4, none⟩ = some (.int .i64 nd.x.n) := by rw [← hW0]; simp
  have d5 : W0.cell? ⟨w.heap.size, 5, none⟩ = some (.slice p nd.x.args.length cap) := by rw [← hW0]; simp
  have d6 : W0.cell? ⟨w.heap.size, 6, none⟩ = some (.int .i64 nd.n) := by rw [← hW0]; simp
  have hbx : w.heap.size < W0.heap.size := by rw [← hW0]; simp
  have hs0 : w.heap.size + 1 = W0.heap.size := by rw [← hW0]; simp
  rw [hW0]
  clear hW0
  go_wp2_with fail
  try rw [hs0]
  have c := hvy_any _ nd (.slice oa ops.length oc) (.slice (some ⟨W0.heap.size, 0, none⟩) 1 1) ops [L] (W0.alloc (.cells #[.slice va L.length vc] 42)) (NodAt.pure (q0.alloc _) HN.out) (HO.out.pure (q0.alloc _)) (Rows2.one (HR.out.pure q0)) (by intro L' h; cases List.mem_singleton.1 h; exact hsz)
  (with_reducible refine c.mono ?_)
  clear c
  rintro e Wh ⟨b, rfl, hb, kh'⟩
  have kh : Kept none' W0 Wh := ((Kept.refl _ _).alloc _).trans kh'
  clear kh'
  have d0 := kh.cell (p := ⟨w.heap.size, 0, none⟩) (fun h => h) d0
  have d1 := kh.cell (p := ⟨w.heap.size, 1, none⟩) (fun h => h) d1
  have d2 := kh.cell (p := ⟨w.heap.size, 2, none⟩) (fun h => h) d2
  have d3 := kh.cell (p := ⟨w.heap.size, 3, none⟩) (fun h => h) d3
  have d4 := kh.cell (p := ⟨w.heap.size, 4, none⟩) (fun h => h) d4
  have d5 := kh.cell (p := ⟨w.heap.size, 5, none⟩) (fun h => h) d5
  have d6 := kh.cell (p := ⟨w.heap.size, 6, none⟩) (fun h => h) d6
  have hbh : w.heap.size < Wh.heap.size := Nat.lt_of_lt_of_le hbx kh.size
  have K0 := Lib.hid (q0.trans kh)
  clear kh q0 hbx
  have bad : b = true ∨ (b = false ∧ at' < 0) ∨ (b = false ∧ 0 ≤ at' ∧ (L.length : Int) < at') ∨ (b = false ∧ ∃ k : Nat, at' = (k : Int) ∧ k ≤ L.length) := by
    cases b with
    | true => exact .inl rfl
    | false =>
      by_cases h1 : at' < 0
      · exact .inr (.inl ⟨rfl, h1⟩)
      · by_cases h2 : (L.length : Int) < at'
        · exact .inr (.inr (.inl ⟨rfl, by omega, h2⟩))
        · exact .inr (.inr (.inr ⟨rfl, at'.toNat, by omega, by omega⟩))
  have hcl : Calls Try.prog 23 #[] Wh (Gives Wh (.bool true)) := works17 Wh
  rcases bad with rfl | ⟨rfl, h1⟩ | ⟨rfl, h1, h2⟩ | ⟨rfl, k, rfl, hk⟩
  · clear hb
    go_wp2_with fail
    (with_reducible refine hcl.mono ?_)
    rintro e W1 ⟨rfl, k1⟩
    go_wp2_with fail
    go_ret
    exact ⟨rfl, K0.out.trans k1⟩
  · clear hb
    go_wp2_with fail
    (with_reducible refine hcl.mono ?_)
    rintro e W1 ⟨rfl, k1⟩
    go_wp2_with fail
    go_ret
    exact ⟨rfl, K0.out.trans k1⟩
  · clear hb
    have h1n : ¬ at' < 0 := by omega
    go_wp2_with fail
    (with_reducible refine hcl.mono ?_)
    rintro e W1 ⟨rfl, k1⟩
    go_wp2_with fail
    go_ret
    exact ⟨rfl, K0.out.trans k1⟩
  · obtain ⟨_, hb2, hb3⟩ := hb rfl
    have hlen : L.length ≤ 500 := by unfold totL at hb2; simpa using hb2
    have hll := (heavyB_false hb3).2
    have HLL := Lib.hid (show ∀ o ∈ ops, o.l.length ≤ 17592186044416 from fun o h => by have := hll o h; omega)
    clear hb hb2 hb3 hll hcl
    have hn1 : ¬ ((k : Nat) : Int) < 0 := by omega
    have hn2 : ¬ ((L.length : Nat) : Int) < ((k : Nat) : Int) := by omega
    go_wp2_with fail
    have c := made_any (.slice oa ops.length oc) ops Wh (HO.out.pure K0.out) HLL.out
    (with_reducible refine c.mono ?_)
    clear c
    rintro e W1 ⟨b1, m1, e1, rfl, i1⟩
    have I1 := Lib.hid i1
    clear i1
    go_wp2_with fail
    have c := made_any (.slice oa ops.length oc) ops W1 (HO.out.pure (K0.out.trans I1.out.kept)) HLL.out
    (with_reducible refine c.mono ?_)
    clear c
    rintro e W2 ⟨b2, m2, e2, rfl, i2⟩
    have I2 := Lib.hid i2
    clear i2
    have K2 := Lib.hid (I1.out.kept.trans I2.out.kept)
    have d0 := K2.out.cell (p := ⟨w.heap.size, 0, none⟩) (fun h => h) d0
    have d1 := K2.out.cell (p := ⟨w.heap.size, 1, none⟩) (fun h => h) d1
    have d2 := K2.out.cell (p := ⟨w.heap.size, 2, none⟩) (fun h => h) d2
    have d3 := K2.out.cell (p := ⟨w.heap.size, 3, none⟩) (fun h => h) d3
    have d4 := K2.out.cell (p := ⟨w.heap.size, 4, none⟩) (fun h => h) d4
    have d5 := K2.out.cell (p := ⟨w.heap.size, 5, none⟩) (fun h => h) d5
    have d6 := K2.out.cell (p := ⟨w.heap.size, 6, none⟩) (fun h => h) d6
    obtain ⟨T0, hT0⟩ : ∃ T0, madeT ops = T0 := ⟨_, rfl⟩
    rw [hT0] at I1 I2
    clear hT0
    have A1 := Lib.hid (I1.out.tab.pure I2.out.kept)
    have hm1 : Wh.heap.size ≤ m1 := I1.out.tab.hm.1
    have hm1' : m1 < W1.heap.size := I1.out.tab.lt.1
    have hm2 : W1.heap.size ≤ m2 := I2.out.tab.hm.1
    have hm12 : m2 ≠ m1 := by omega
    have hbm1 : w.heap.size ≠ m1 := by omega
    have hbm2 : w.heap.size ≠ m2 := by omega
    go_wp2_with fail
    have c := doT_any _ nd b1 m1 T0 _ (.slice va L.length vc) L W2 (NodAt.pure (K0.out.trans K2.out) HN.out) (HR.out.pure (K0.out.trans K2.out)) HOK.out (by omega) A1.out
    (with_reducible refine c.mono ?_)
    clear c
    rintro e W3 ⟨v3, rfl, r3, _, t3, k3⟩
    have NC2 := A1.out.noCells (fun _ => True)
    have node3 := (NodAt.pure (K0.out.trans K2.out) HN.out).keptN k3 NC2
    have in3 := (HR.out.pure (K0.out.trans K2.out)).keptN k3 (by omega) NC2
    have tab3 := I2.out.tab.kept k3 (A1.out.noCells _) hm12
    have d0 := k3.cell (p := ⟨w.heap.size, 0, none⟩) hbm1 d0
    have d1 := k3.cell (p := ⟨w.heap.size, 1, none⟩) hbm1 d1
    have d2 := k3.cell (p := ⟨w.heap.size, 2, none⟩) hbm1 d2
    have d3 := k3.cell (p := ⟨w.heap.size, 3, none⟩) hbm1 d3
    have d4 := k3.cell (p := ⟨w.heap.size, 4, none⟩) hbm1 d4
    have d5 := k3.cell (p := ⟨w.heap.size, 5, none⟩) hbm1 d5
    have d6 := k3.cell (p := ⟨w.heap.size, 6, none⟩) hbm1 d6
    have kw3 : Kept none' w W3 := (K0.out.trans K2.out).new k3 (fun i hi e => by unfold one at e; omega)
    have B3 := Lib.hid (And.intro node3 (And.intro in3 (And.intro tab3 (And.intro t3 (And.intro r3 kw3)))))
    clear k3 NC2 node3 in3 tab3 t3 r3 kw3 A1
    go_wp2_with fail
    have hTk := Lib.hid (sl_take_all B3.out.2.1 hk)
    have rTk := Lib.hid (sl_take B3.out.2.1 hk).2
    obtain ⟨ea, en, ec, hDk', rDk'⟩ := sl_drop_all B3.out.2.1 hk
    have hDk := Lib.hid hDk'
    have rDk := Lib.hid rDk'
    clear hDk' rDk'
    have KD := Lib.hid (show Kept (one m2) W3 W3.drew from (Kept.refl _ _).drew)
    refine wp_region_eager [0, 1, 2, 3, 4, 5, 6] (fun W => Kept (one m2) W3 W) (by kernel_rfl) (by kernel_rfl) rfl KD.out ?_
    simp only [List.map_cons, List.map_nil, List.getElem?_toArray, List.getElem?_cons_zero, List.getElem?_cons_succ, Option.getD_some]
    iterate 5 (apply wpL_float rfl rfl; (intro W hW; have z0 := hW.cell (p := ⟨w.heap.size, 0, none⟩) hbm2 d0; have z1 := hW.cell (p := ⟨w.heap.size, 1, none⟩) hbm2 d1; have z2 := hW.cell (p := ⟨w.heap.size, 2, none⟩) hbm2 d2; have z3 := hW.cell (p := ⟨w.heap.size, 3, none⟩) hbm2 d3; have z4 := hW.cell (p := ⟨w.heap.size, 4, none⟩) hbm2 d4; have z5 := hW.cell (p := ⟨w.heap.size, 5, none⟩) hbm2 d5; have z6 := hW.cell (p := ⟨w.heap.size, 6, none⟩) hbm2 d6; have zs := hTk.out W; go_simp; rfl); go_frame)
    apply wpL_loud rfl rfl
    intro K hK
    go_wp2_with fail
    have c := doT_any _ nd b2 m2 T0 _ (.slice va k vc) (L.take k) W3.drew (NodAt.pure (Kept.refl none' W3).drew B3.out.1) (rTk.out.pure (Kept.refl none' W3).drew) (fun r hr => HOK.out r (List.mem_of_mem_take hr)) (by rw [List.length_take]; omega) (B3.out.2.2.1.pure (Kept.refl none' W3).drew)
    (with_reducible refine c.mono ?_)
    clear c
    rintro e W4 ⟨v4, rfl, r4, _, t4, j4⟩
    have k4 : Kept (one m2) W3 W4 := KD.out.trans j4
    refine hK _ _ (fun _ => k4) ?_
    clear hK j4
    apply wpL_float rfl rfl
    · intro W hW; go_simp; rfl
    go_frame
    refine wpL_nil (fun _ => k4) ?_
    have NC := B3.out.2.2.1.noCells (fun _ => True)
    have node4 := B3.out.1.keptN k4 NC
    have rd4 := rDk.out.keptN k4 (by omega) NC
    have r34 := B3.out.2.2.2.2.1.keptN k4 (by omega) NC
    have t34 := B3.out.2.2.2.1.kept k4 (B3.out.2.2.1.noCells _) (fun e => hm12 e.symm)
    have d0 := k4.cell (p := ⟨w.heap.size, 0, none⟩) hbm2 d0
    have d1 := k4.cell (p := ⟨w.heap.size, 1, none⟩) hbm2 d1
    have d2 := k4.cell (p := ⟨w.heap.size, 2, none⟩) hbm2 d2
    have d3 := k4.cell (p := ⟨w.heap.size, 3, none⟩) hbm2 d3
    have d4 := k4.cell (p := ⟨w.heap.size, 4, none⟩) hbm2 d4
    have d5 := k4.cell (p := ⟨w.heap.size, 5, none⟩) hbm2 d5
    have d6 := k4.cell (p := ⟨w.heap.size, 6, none⟩) hbm2 d6
    have kw4 : Kept none' w W4 := B3.out.2.2.2.2.2.new k4 (fun i hi e => by have := (K0.out.trans (I1.out.kept)).size; unfold one at e; omega)
    have B4 := Lib.hid (And.intro node4 (And.intro rd4 (And.intro t4 (And.intro t34 (And.intro r34 (And.intro r4 kw4))))))
    clear node4 rd4 t4 t34 r34 r4 kw4 k4 NC KD
    go_wp2_with fail
    have KD := Lib.hid (show Kept (one m2) W4 W4.drew from (Kept.refl _ _).drew)
    refine wp_region_eager [0, 1, 2, 3, 4, 5, 6] (fun W => Kept (one m2) W4 W) (by kernel_rfl) (by kernel_rfl) rfl KD.out ?_
    simp only [List.map_cons, List.map_nil, List.getElem?_toArray, List.getElem?_cons_zero, List.getElem?_cons_succ, Option.getD_some]
    iterate 5 (apply wpL_float rfl rfl; (intro W hW; have z0 := hW.cell (p := ⟨w.heap.size, 0, none⟩) hbm2 d0; have z1 := hW.cell (p := ⟨w.heap.size, 1, none⟩) hbm2 d1; have z2 := hW.cell (p := ⟨w.heap.size, 2, none⟩) hbm2 d2; have z3 := hW.cell (p := ⟨w.heap.size, 3, none⟩) hbm2 d3; have z4 := hW.cell (p := ⟨w.heap.size, 4, none⟩) hbm2 d4; have z5 := hW.cell (p := ⟨w.heap.size, 5, none⟩) hbm2 d5; have z6 := hW.cell (p := ⟨w.heap.size, 6, none⟩) hbm2 d6; have zs := hDk.out W; go_simp; rfl); go_frame)
    apply wpL_loud rfl rfl
    intro K hK
    go_wp2_with fail
    have c := doT_any _ nd b2 m2 (doNode nd T0 (L.take k)).2 _ (.slice ea en ec) (L.drop k) W4.drew (NodAt.pure (Kept.refl none' W4).drew B4.out.1) (B4.out.2.1.pure (Kept.refl none' W4).drew) (fun r hr => HOK.out r (List.mem_of_mem_drop hr)) (by rw [List.length_drop]; omega) (B4.out.2.2.1.pure (Kept.refl none' W4).drew)
    (with_reducible refine c.mono ?_)
    clear c
    rintro e W5 ⟨v5, rfl, r5, _, t5, j5⟩
    have k5 : Kept (one m2) W4 W5 := KD.out.trans j5
    refine hK _ _ (fun _ => k5) ?_
    clear hK j5
    apply wpL_float rfl rfl
    · intro W hW; go_simp; rfl
    go_frame
    refine wpL_nil (fun _ => k5) ?_
    have NC := B4.out.2.2.1.noCells (fun _ => True)
    have r35 := B4.out.2.2.2.2.1.keptN k5 (by omega) NC
    have r45 := B4.out.2.2.2.2.2.1.keptN k5 (by omega) NC
    have t35 := B4.out.2.2.2.1.kept k5 (B4.out.2.2.1.noCells _) (fun e => hm12 e.symm)
    have kw5 : Kept none' w W5 := B4.out.2.2.2.2.2.2.new k5 (fun i hi e => by have := (K0.out.trans (I1.out.kept)).size; unfold one at e; omega)
    have hcut := doNode_cut nd T0 L k
    have hl4 := doNode_len nd (L.take k) T0
    have hl5 := doNode_len nd (L.drop k) (doNode nd T0 (L.take k)).2
    have hlt4 : (L.take k).length ≤ 500 := by rw [List.length_take]; omega
    have hlt5 : (L.drop k).length ≤ 500 := by rw [List.length_drop]; omega
    obtain ⟨X1, hX1⟩ : ∃ X1, (doNode nd T0 (L.take k)).1 = X1 := ⟨_, rfl⟩
    obtain ⟨X2, hX2⟩ : ∃ X2, (doNode nd (doNode nd T0 (L.take k)).2 (L.drop k)).1 = X2 := ⟨_, rfl⟩
    obtain ⟨T2, hT2⟩ : ∃ T2, (doNode nd (doNode nd T0 (L.take k)).2 (L.drop k)).2 = T2 := ⟨_, rfl⟩
    rw [hX1, hX2, hT2] at hcut
    rw [hcut] at r35 t35
    rw [hX1] at r45 hl4
    rw [hX2] at r5 hl5
    rw [hT2] at t5
    obtain ⟨pa4, pc4, rfl, _, _⟩ := r45.len
    obtain ⟨pa5, pc5, rfl, _, _⟩ := r5.len
    have B5 := Lib.hid (And.intro t5 (And.intro t35 (And.intro r35 (And.intro r45 (And.intro r5 kw5)))))
    clear t5 t35 r35 r45 r5 kw5 k5 NC KD hcut hX1 hX2 hT2
    go_wp2_with fail
    have c := concat_any _ [X1, X2] (W5.alloc (.cells #[.slice pa4 X1.length pc4, .slice pa5 X2.length pc5] 42)) (Rows2.two B5.out.2.2.2.1 B5.out.2.2.2.2.1) (by simp; omega)
    (with_reducible refine c.mono ?_)
    clear c
    rintro e W6 ⟨v6, rfl, own6, j6⟩
    have k6 : Kept none' W5 W6 := ((Kept.refl none' W5).alloc _).trans j6
    have r6 := Reads.of_owns own6
    rw [show [X1, X2].flatten = X1 ++ X2 by simp] at r6
    have K6 := Lib.hid k6
    have R6 := Lib.hid r6
    clear k6 r6 own6 j6
    go_wp2_with fail
    have c := equalRec v3 v6 (X1 ++ X2) (X1 ++ X2) W6 (B5.out.2.2.1.pure K6.out) R6.out
    (with_reducible refine c.mono ?_)
    clear c
    rintro e W7 ⟨rfl, k7⟩
    rw [show eqR (X1 ++ X2) (X1 ++ X2) = true from decide_eq_true rfl]
    have K7 := Lib.hid (K6.out.trans k7)
    clear k7
    go_wp2_with fail
    have c := bytes_any _ b1 m1 T2 W7 (B5.out.2.1.pure K7.out)
    (with_reducible refine c.mono ?_)
    clear c
    rintro e W8 ⟨rfl, k8⟩
    have K8 := Lib.hid (K7.out.trans k8)
    clear k8
    go_wp2_with fail
    have c := bytes_any _ b2 m2 T2 W8 (B5.out.1.pure K8.out)
    (with_reducible refine c.mono ?_)
    clear c
    rintro e W9 ⟨rfl, k9⟩
    have K9 := Lib.hid (K8.out.trans k9)
    clear k9
    go_wp2_with fail
    (with_reducible refine (works17 W9).mono ?_)
    rintro e W10 ⟨rfl, k10⟩
    go_wp2_with fail
    go_ret
    exact ⟨rfl, B5.out.2.2.2.2.2.trans (K9.out.trans k10)⟩
end Go.Proofs.Ytaalpijohdlabaa
