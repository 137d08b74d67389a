/-
  What an expression comes to: the walk of do.
-/
import Derived.Test.YtglbkodmmogomaaGreatDoorF14
set_option linter.unusedVariables false
set_option linter.unusedSimpArgs false
namespace Go.Proofs.YtglbkodmmogomaaGreatDoor
open Go Go.RowKit
attribute [local irreducible] wpL
def DoAny (f : Nat) : Prop := ∀ (x : Ex) (a : Array Value) (env : Env) (w : World), ExAt w a x → EnvOk env → exMay f x = true → exTy f x ≠ 0 → Calls Tryz.prog 175 #[.agg a, envV env] w (Gives w (evV (exDo f env x)))
/-- The world in which do has boxed what it was handed. -/
structure DoBox (w W : World) (x : Ex) (p : Option Addr) (cap : Nat) (env : Env) : Prop where
  kept : Kept none' w W
  d0 : W.cell? ⟨w.heap.size, 0, none⟩ = some (.int .u8 x.op)
  d1 : W.cell? ⟨w.heap.size, 1, none⟩ = some (.int .i64 x.n)
  d2 : W.cell? ⟨w.heap.size, 2, none⟩ = some (.slice p x.args.length cap)
  e0 : W.cell? ⟨w.heap.size + 1, 0, none⟩ = some (.int .i64 env.key)
  e1 : W.cell? ⟨w.heap.size + 1, 1, none⟩ = some (.int .i64 env.val)
  e2 : W.cell? ⟨w.heap.size + 1, 2, none⟩ = some (.int .i64 env.acc)
theorem doBox (w : World) (x : Ex) (p : Option Addr) (cap : Nat) (env : Env) :
    DoBox w ((w.alloc (.cells #[.int .u8 x.op, .int .i64 x.n, .slice p x.args.length cap] 40)).alloc (.cells #[.int .i64 env.key, .int .i64 env.val, .int .i64 env.acc] 182)) x p cap env :=
  ⟨((Kept.refl _ _).alloc _).alloc _, by simp, by simp, by simp, by simp, by simp, by simp⟩
set_option maxRecDepth 100000 in
set_option maxHeartbeats 1000000 in
theorem do_leaf (f : Nat) (x : Ex) (a : Array Value) (env : Env) (w : World) (h : ExAt w a x) (hop : x.op = 1 ∨ x.op = 2 ∨ x.op = 3 ∨ x.op = 4) :
    Calls Tryz.prog 175 #[.agg a, envV env] w (Gives w (evV (exDo (f + 1) env x))) := by
  obtain ⟨p, cap, rfl, _, _, _, _, _, _⟩ := h.parts
  clear h
  obtain ⟨op, n, args⟩ := x
  unfold envV
  simp only [Ex.op, Ex.n, Ex.args] at hop ⊢
  rcases hop with rfl | rfl | rfl | rfl
  all_goals
    go_enter Tryz.func175, Tryz.ntmps175
    go_wp2_with fail
    go_ret
    exact ⟨rfl, ((Kept.refl _ _).alloc _).alloc _⟩

set_option maxRecDepth 100000 in
set_option maxHeartbeats 1000000 in
theorem do_neg (f : Nat) (ih : DoAny f) (x : Ex) (a : Array Value) (env : Env) (w : World) (h : ExAt w a x) (he : EnvOk env) (y1 : Ex) (ha : x.args = [y1]) (hop : x.op = 5) (hm : exMay f y1 = true) (ht : exTy f y1 = 1) :
    Calls Tryz.prog 175 #[.agg a, envV env] w (Gives w (evV (exDo (f + 1) env x))) := by
  obtain ⟨p, cap, rfl, o0, o1, hn, h3, h4, h5⟩ := h.parts
  unfold maxLen at h4
  obtain ⟨v1, hv1⟩ : ∃ v1, exDo f env y1 = .num v1 := EV.of1 ((h.subTy he (i := 0) (by rw [ha]; rfl) hm (by omega)).1.trans ht)
  have hres : exDo (f + 1) env x = EV.num (wrap64 (-v1)) := by
    obtain ⟨op, n, args⟩ := x
    simp only [Ex.op, Ex.args] at hop ha
    subst hop ha
    show EV.num (wrap64 (-(exDo f env y1).n)) = _
    rw [hv1]; rfl
  rw [hres]
  have HV := Lib.hid (show evV (exDo f env y1) = .iface 2 (.int .i64 v1) from congrArg evV hv1)
  have HM := Lib.hid hm
  have HT := Lib.hid (show exTy f y1 ≠ 0 by omega)
  clear hv1 hres hm ht
  obtain ⟨b, off, p1, cap1, rfl, q0, q1, q2, hy1⟩ := h5 0 y1 (by rw [ha]; rfl)
  simp only [Nat.zero_mul, Nat.add_zero] at q0 q1 q2
  have hbx := doBox w x (some ⟨b, off, none⟩) cap env
  unfold envV
  obtain ⟨W0, hW0⟩ : ∃ W0, (w.alloc (.cells #[.int .u8 x.op, .int .i64 x.n, .slice (some ⟨b, off, none⟩) x.args.length cap] 40)).alloc (.cells #[.int .i64 env.key, .int .i64 env.val, .int .i64 env.acc] 182) = W0 := ⟨_, rfl⟩
  rw [hW0] at hbx
  obtain ⟨hk0, d0, d1, d2, e0, e1, e2⟩ := hbx
  have r0 := hk0.cell (p := ⟨b, off, none⟩) (fun h => h) q0
  have r1 := hk0.cell (p := ⟨b, off + 1, none⟩) (fun h => h) q1
  have r2 := hk0.cell (p := ⟨b, off + 2, none⟩) (fun h => h) q2
  have hlen : (0 : Int) < (x.args.length : Int) := by rw [ha]; simp
  have hlenN : 0 < x.args.length := by rw [ha]; simp
  have HK := Lib.hid hk0
  have HW0 := Lib.hid hW0
  have HY := Lib.hid (ExAt.pure hk0 hy1)
  have H5 := Lib.hid h5
  have HA := Lib.hid ha
  have HE := Lib.hid he
  have IH := Lib.hid ih
  clear hk0 hW0 hy1 q0 q1 q2 h5 ha he ih h
  have hopB : ∀ k : Int, (x.op == k) = (5 == k) := fun k => by rw [hop]
  have b1 := hopB 1
  have b2 := hopB 2
  have b3 := hopB 3
  have b4 := hopB 4
  have b5 := hopB 5
  have b6 := hopB 6
  simp only [show ((5 : Int) == 1) = false by decide, show ((5 : Int) == 2) = false by decide, show ((5 : Int) == 3) = false by decide, show ((5 : Int) == 4) = false by decide, show ((5 : Int) == 5) = true by decide, show ((5 : Int) == 6) = false by decide] at b1 b2 b3 b4 b5 b6
  clear hop hopB
  have tA := fun v w => as_num v false w
  simp only [Bool.false_eq_true, if_false] at tA
  go_enter Tryz.func175, Tryz.ntmps175
  go_wp2_with fail
  rw [HW0.out]
  refine wp_region_eager [0, 1, 2, 3, 4, 5, 6] (fun W => Kept none' W0 W) (by kernel_rfl) (by kernel_rfl) rfl (Kept.refl _ _).drew ?_
  simp only [List.map_cons, List.map_nil, List.getElem?_toArray, List.getElem?_cons_zero, List.getElem?_cons_succ, Option.getD_some]
  iterate 5 (apply wpL_float rfl rfl; (intro W hW; have z0 := hW.cell (fun h => h) d0; have z1 := hW.cell (fun h => h) d1; have z2 := hW.cell (fun h => h) d2; have z3 := hW.cell (fun h => h) r0; have z4 := hW.cell (fun h => h) r1; have z5 := hW.cell (fun h => h) r2; have z6 := hW.cell (fun h => h) e0; have z7 := hW.cell (fun h => h) e1; have z8 := hW.cell (fun h => h) e2; go_simp; rfl); go_frame)
  apply wpL_loud rfl rfl
  intro K hK
  go_wp2_with fail
  have c := IH.out y1 _ env W0.drew (ExAt.pure (Kept.refl _ _).drew HY.out) HE.out HM.out HT.out
  (with_reducible refine c.mono ?_)
  clear c
  rintro e W1 ⟨rfl, k1⟩
  have k1' : Kept none' W0 W1 := k1.drew_left
  clear k1
  rw [HV.out]
  go_wp2_with fail
  refine hK _ _ (fun _ => k1') ?_
  clear hK
  (apply wpL_float rfl rfl; (intro W hW; go_simp; rfl); go_frame)
  refine wpL_nil (fun _ => k1') ?_
  have d0 := k1'.cell (p := ⟨w.heap.size, 0, none⟩) (fun h => h) d0
  have d1 := k1'.cell (p := ⟨w.heap.size, 1, none⟩) (fun h => h) d1
  have d2 := k1'.cell (p := ⟨w.heap.size, 2, none⟩) (fun h => h) d2
  have e0 := k1'.cell (p := ⟨w.heap.size + 1, 0, none⟩) (fun h => h) e0
  have e1 := k1'.cell (p := ⟨w.heap.size + 1, 1, none⟩) (fun h => h) e1
  have e2 := k1'.cell (p := ⟨w.heap.size + 1, 2, none⟩) (fun h => h) e2
  have K1 := Lib.hid (HK.out.trans k1')
  clear k1'
  go_wp2_with fail
  go_ret
  exact ⟨rfl, K1.out⟩
set_option maxRecDepth 100000 in
set_option maxHeartbeats 1000000 in
theorem do_not (f : Nat) (ih : DoAny f) (x : Ex) (a : Array Value) (env : Env) (w : World) (h : ExAt w a x) (he : EnvOk env) (y1 : Ex) (ha : x.args = [y1]) (hop : x.op = 6) (hm : exMay f y1 = true) (ht : exTy f y1 = 2) :
    Calls Tryz.prog 175 #[.agg a, envV env] w (Gives w (evV (exDo (f + 1) env x))) := by
  obtain ⟨p, cap, rfl, o0, o1, hn, h3, h4, h5⟩ := h.parts
  unfold maxLen at h4
  obtain ⟨v1, hv1⟩ : ∃ v1, exDo f env y1 = .tru v1 := EV.of2 ((h.subTy he (i := 0) (by rw [ha]; rfl) hm (by omega)).1.trans ht)
  have hres : exDo (f + 1) env x = EV.tru (!v1) := by
    obtain ⟨op, n, args⟩ := x
    simp only [Ex.op, Ex.args] at hop ha
    subst hop ha
    show EV.tru (!(exDo f env y1).b) = _
    rw [hv1]; rfl
  rw [hres]
  have HV := Lib.hid (show evV (exDo f env y1) = .iface 4 (.bool v1) from congrArg evV hv1)
  have HM := Lib.hid hm
  have HT := Lib.hid (show exTy f y1 ≠ 0 by omega)
  clear hv1 hres hm ht
  obtain ⟨b, off, p1, cap1, rfl, q0, q1, q2, hy1⟩ := h5 0 y1 (by rw [ha]; rfl)
  simp only [Nat.zero_mul, Nat.add_zero] at q0 q1 q2
  have hbx := doBox w x (some ⟨b, off, none⟩) cap env
  unfold envV
  obtain ⟨W0, hW0⟩ : ∃ W0, (w.alloc (.cells #[.int .u8 x.op, .int .i64 x.n, .slice (some ⟨b, off, none⟩) x.args.length cap] 40)).alloc (.cells #[.int .i64 env.key, .int .i64 env.val, .int .i64 env.acc] 182) = W0 := ⟨_, rfl⟩
  rw [hW0] at hbx
  obtain ⟨hk0, d0, d1, d2, e0, e1, e2⟩ := hbx
  have r0 := hk0.cell (p := ⟨b, off, none⟩) (fun h => h) q0
  have r1 := hk0.cell (p := ⟨b, off + 1, none⟩) (fun h => h) q1
  have r2 := hk0.cell (p := ⟨b, off + 2, none⟩) (fun h => h) q2
  have hlen : (0 : Int) < (x.args.length : Int) := by rw [ha]; simp
  have hlenN : 0 < x.args.length := by rw [ha]; simp
  have HK := Lib.hid hk0
  have HW0 := Lib.hid hW0
  have HY := Lib.hid (ExAt.pure hk0 hy1)
  have H5 := Lib.hid h5
  have HA := Lib.hid ha
  have HE := Lib.hid he
  have IH := Lib.hid ih
  clear hk0 hW0 hy1 q0 q1 q2 h5 ha he ih h
  have hopB : ∀ k : Int, (x.op == k) = (6 == k) := fun k => by rw [hop]
  have b1 := hopB 1
  have b2 := hopB 2
  have b3 := hopB 3
  have b4 := hopB 4
  have b5 := hopB 5
  have b6 := hopB 6
  simp only [show ((6 : Int) == 1) = false by decide, show ((6 : Int) == 2) = false by decide, show ((6 : Int) == 3) = false by decide, show ((6 : Int) == 4) = false by decide, show ((6 : Int) == 5) = false by decide, show ((6 : Int) == 6) = true by decide] at b1 b2 b3 b4 b5 b6
  clear hop hopB
  have tA := fun v w => as_tru v false w
  simp only [Bool.false_eq_true, if_false] at tA
  go_enter Tryz.func175, Tryz.ntmps175
  go_wp2_with fail
  rw [HW0.out]
  refine wp_region_eager [0, 1, 2, 3, 4, 5, 6] (fun W => Kept none' W0 W) (by kernel_rfl) (by kernel_rfl) rfl (Kept.refl _ _).drew ?_
  simp only [List.map_cons, List.map_nil, List.getElem?_toArray, List.getElem?_cons_zero, List.getElem?_cons_succ, Option.getD_some]
  iterate 5 (apply wpL_float rfl rfl; (intro W hW; have z0 := hW.cell (fun h => h) d0; have z1 := hW.cell (fun h => h) d1; have z2 := hW.cell (fun h => h) d2; have z3 := hW.cell (fun h => h) r0; have z4 := hW.cell (fun h => h) r1; have z5 := hW.cell (fun h => h) r2; have z6 := hW.cell (fun h => h) e0; have z7 := hW.cell (fun h => h) e1; have z8 := hW.cell (fun h => h) e2; go_simp; rfl); go_frame)
  apply wpL_loud rfl rfl
  intro K hK
  go_wp2_with fail
  have c := IH.out y1 _ env W0.drew (ExAt.pure (Kept.refl _ _).drew HY.out) HE.out HM.out HT.out
  (with_reducible refine c.mono ?_)
  clear c
  rintro e W1 ⟨rfl, k1⟩
  have k1' : Kept none' W0 W1 := k1.drew_left
  clear k1
  rw [HV.out]
  go_wp2_with fail
  refine hK _ _ (fun _ => k1') ?_
  clear hK
  (apply wpL_float rfl rfl; (intro W hW; go_simp; rfl); go_frame)
  refine wpL_nil (fun _ => k1') ?_
  have d0 := k1'.cell (p := ⟨w.heap.size, 0, none⟩) (fun h => h) d0
  have d1 := k1'.cell (p := ⟨w.heap.size, 1, none⟩) (fun h => h) d1
  have d2 := k1'.cell (p := ⟨w.heap.size, 2, none⟩) (fun h => h) d2
  have e0 := k1'.cell (p := ⟨w.heap.size + 1, 0, none⟩) (fun h => h) e0
  have e1 := k1'.cell (p := ⟨w.heap.size + 1, 1, none⟩) (fun h => h) e1
  have e2 := k1'.cell (p := ⟨w.heap.size + 1, 2, none⟩) (fun h => h) e2
  have K1 := Lib.hid (HK.out.trans k1')
  clear k1'
  go_wp2_with fail
  go_ret
  exact ⟨rfl, K1.out⟩
set_option maxRecDepth 100000 in
set_option maxHeartbeats 1000000 in
theorem do_two (f : Nat) (ih : DoAny f) (x : Ex) (a : Array Value) (env : Env) (w : World) (h : ExAt w a x) (he : EnvOk env) (y1 y2 : Ex) (ha : x.args = [y1, y2]) (hop : 7 ≤ x.op ∧ x.op ≤ 17) (hm : exMay f y1 = true) (ht : exTy f y1 ≠ 0) (hm2 : exMay f y2 = true) (ht2 : exTy f y2 ≠ 0) (h2 : TwoOk x.op (exDo f env y1) (exDo f env y2)) :
    Calls Tryz.prog 175 #[.agg a, envV env] w (Gives w (evV (exDo (f + 1) env x))) := by
  obtain ⟨p, cap, rfl, o0, o1, hn, h3, h4, h5⟩ := h.parts
  unfold maxLen at h4
  have hres : exDo (f + 1) env x = exTwo x.op (exDo f env y1) (exDo f env y2) := by
    obtain ⟨op, n, args⟩ := x
    simp only [Ex.op, Ex.args] at hop ha
    subst ha
    simp only [exDo]
    rw [if_neg (by omega), if_neg (by omega), if_neg (by omega), if_neg (by omega), if_neg (by omega), if_neg (by omega), if_neg (by omega)]
    rfl
  rw [hres]
  have HM := Lib.hid hm
  have HT := Lib.hid ht
  have HM2 := Lib.hid hm2
  have HT2 := Lib.hid ht2
  have H2 := Lib.hid h2
  clear hres hm ht hm2 ht2 h2
  obtain ⟨b, off, p1, cap1, rfl, q0, q1, q2, hy1⟩ := h5 0 y1 (by rw [ha]; rfl)
  simp only [Nat.zero_mul, Nat.add_zero] at q0 q1 q2
  have hbx := doBox w x (some ⟨b, off, none⟩) cap env
  unfold envV
  obtain ⟨W0, hW0⟩ : ∃ W0, (w.alloc (.cells #[.int .u8 x.op, .int .i64 x.n, .slice (some ⟨b, off, none⟩) x.args.length cap] 40)).alloc (.cells #[.int .i64 env.key, .int .i64 env.val, .int .i64 env.acc] 182) = W0 := ⟨_, rfl⟩
  rw [hW0] at hbx
  obtain ⟨hk0, d0, d1, d2, e0, e1, e2⟩ := hbx
  have r0 := hk0.cell (p := ⟨b, off, none⟩) (fun h => h) q0
  have r1 := hk0.cell (p := ⟨b, off + 1, none⟩) (fun h => h) q1
  have r2 := hk0.cell (p := ⟨b, off + 2, none⟩) (fun h => h) q2
  have hlen : (0 : Int) < (x.args.length : Int) := by rw [ha]; simp
  have hlenN : 0 < x.args.length := by rw [ha]; simp
  have HK := Lib.hid hk0
  have HW0 := Lib.hid hW0
  have HY := Lib.hid (ExAt.pure hk0 hy1)
  have H5 := Lib.hid h5
  have HA := Lib.hid ha
  have HE := Lib.hid he
  have IH := Lib.hid ih
  clear hk0 hW0 hy1 q0 q1 q2 h5 ha he ih h
  have hlen1 : (1 : Int) < (x.args.length : Int) := by have := HA.out; rw [this]; simp
  have hlenN1 : 1 < x.args.length := by have := HA.out; rw [this]; simp
  have b1 : (x.op == 1) = false := by simp; omega
  have b2 : (x.op == 2) = false := by simp; omega
  have b3 : (x.op == 3) = false := by simp; omega
  have b4 : (x.op == 4) = false := by simp; omega
  have b5 : (x.op == 5) = false := by simp; omega
  have b6 : (x.op == 6) = false := by simp; omega
  have b7 : (x.op == 18) = false := by simp; omega
  clear hop
  go_enter Tryz.func175, Tryz.ntmps175
  go_wp2_with fail
  rw [HW0.out]
  refine wp_region_eager [0, 1, 2, 3, 4, 5, 6] (fun W => Kept none' W0 W) (by kernel_rfl) (by kernel_rfl) rfl (Kept.refl _ _).drew ?_
  simp only [List.map_cons, List.map_nil, List.getElem?_toArray, List.getElem?_cons_zero, List.getElem?_cons_succ, Option.getD_some]
  iterate 5 (apply wpL_float rfl rfl; (intro W hW; have z0 := hW.cell (fun h => h) d0; have z1 := hW.cell (fun h => h) d1; have z2 := hW.cell (fun h => h) d2; have z3 := hW.cell (fun h => h) r0; have z4 := hW.cell (fun h => h) r1; have z5 := hW.cell (fun h => h) r2; have z6 := hW.cell (fun h => h) e0; have z7 := hW.cell (fun h => h) e1; have z8 := hW.cell (fun h => h) e2; go_simp; rfl); go_frame)
  apply wpL_loud rfl rfl
  intro K hK
  go_wp2_with fail
  have c := IH.out y1 _ env W0.drew (ExAt.pure (Kept.refl _ _).drew HY.out) HE.out HM.out HT.out
  (with_reducible refine c.mono ?_)
  clear c
  rintro e W1 ⟨rfl, k1⟩
  have k1' : Kept none' W0 W1 := k1.drew_left
  clear k1
  go_wp2_with fail
  refine hK _ _ (fun _ => k1') ?_
  clear hK
  (apply wpL_float rfl rfl; (intro W hW; go_simp; rfl); go_frame)
  refine wpL_nil (fun _ => k1') ?_
  have d0 := k1'.cell (p := ⟨w.heap.size, 0, none⟩) (fun h => h) d0
  have d1 := k1'.cell (p := ⟨w.heap.size, 1, none⟩) (fun h => h) d1
  have d2 := k1'.cell (p := ⟨w.heap.size, 2, none⟩) (fun h => h) d2
  have e0 := k1'.cell (p := ⟨w.heap.size + 1, 0, none⟩) (fun h => h) e0
  have e1 := k1'.cell (p := ⟨w.heap.size + 1, 1, none⟩) (fun h => h) e1
  have e2 := k1'.cell (p := ⟨w.heap.size + 1, 2, none⟩) (fun h => h) e2
  have K1 := Lib.hid (HK.out.trans k1')
  clear k1'
  obtain ⟨b2, off2, p2, cap2, hb2, q0, q1, q2, hy2⟩ := H5.out 1 y2 (by rw [HA.out]; rfl)
  cases hb2
  have r0 := K1.out.cell (p := ⟨b, off + 1 * 3, none⟩) (fun h => h) q0
  have r1 := K1.out.cell (p := ⟨b, off + 1 * 3 + 1, none⟩) (fun h => h) q1
  have r2 := K1.out.cell (p := ⟨b, off + 1 * 3 + 2, none⟩) (fun h => h) q2
  have HY2 := Lib.hid (ExAt.pure K1.out hy2)
  simp only [Nat.one_mul, Nat.add_assoc, Nat.reduceAdd] at r0 r1 r2
  clear q0 q1 q2 hy2
  go_wp2_with fail
  refine wp_region_eager [0, 1, 2, 3, 4, 5, 6, 7, 8, 9, 10] (fun W => Kept none' W1 W) (by kernel_rfl) (by kernel_rfl) rfl (Kept.refl _ _).drew ?_
  simp only [List.map_cons, List.map_nil, List.getElem?_toArray, List.getElem?_cons_zero, List.getElem?_cons_succ, Option.getD_some]
  iterate 8 (apply wpL_float rfl rfl; (intro W hW; have z0 := hW.cell (fun h => h) d0; have z1 := hW.cell (fun h => h) d1; have z2 := hW.cell (fun h => h) d2; have z3 := hW.cell (fun h => h) r0; have z4 := hW.cell (fun h => h) r1; have z5 := hW.cell (fun h => h) r2; have z6 := hW.cell (fun h => h) e0; have z7 := hW.cell (fun h => h) e1; have z8 := hW.cell (fun h => h) e2; go_simp; rfl); go_frame)
  apply wpL_loud rfl rfl
  intro K hK
  go_wp2_with fail
  have c := IH.out y2 _ env W1.drew (ExAt.pure (Kept.refl _ _).drew HY2.out) HE.out HM2.out HT2.out
  (with_reducible refine c.mono ?_)
  clear c
  rintro e W2 ⟨rfl, k2⟩
  have k2' : Kept none' W1 W2 := k2.drew_left
  clear k2
  go_wp2_with fail
  refine hK _ _ (fun _ => k2') ?_
  clear hK
  apply wpL_loud rfl rfl
  intro K hK
  go_wp2_with fail
  (with_reducible refine (two_any x.op _ _ _ H2.out).mono ?_)
  rintro e W3 ⟨rfl, k3⟩
  have k3' : Kept none' W1 W3 := k2'.trans k3
  clear k2' k3
  go_wp2_with fail
  refine hK _ _ (fun _ => k3') ?_
  clear hK
  (apply wpL_float rfl rfl; (intro W hW; go_simp; rfl); go_frame)
  refine wpL_nil (fun _ => k3') ?_
  go_wp2_with fail
  go_ret
  exact ⟨rfl, K1.out.trans k3'⟩
set_option maxRecDepth 100000 in
set_option maxHeartbeats 1000000 in
theorem do_if_then (f : Nat) (ih : DoAny f) (x : Ex) (a : Array Value) (env : Env) (w : World) (h : ExAt w a x) (he : EnvOk env) (y1 y2 y3 : Ex) (ha : x.args = [y1, y2, y3]) (hop : x.op = 18) (hm : exMay f y1 = true) (ht : exTy f y1 ≠ 0) (hm2 : exMay f y2 = true) (ht2 : exTy f y2 ≠ 0) (hv1 : exDo f env y1 = .tru true) :
    Calls Tryz.prog 175 #[.agg a, envV env] w (Gives w (evV (exDo (f + 1) env x))) := by
  obtain ⟨p, cap, rfl, o0, o1, hn, h3, h4, h5⟩ := h.parts
  unfold maxLen at h4
  have hres : exDo (f + 1) env x = exDo f env y2 := by
    obtain ⟨op, n, args⟩ := x
    simp only [Ex.op, Ex.args] at hop ha
    subst hop ha
    show (if (exDo f env y1).b then exDo f env y2 else exDo f env y3) = _
    rw [hv1]; rfl
  rw [hres]
  have HM := Lib.hid hm
  have HT := Lib.hid ht
  have HM2 := Lib.hid hm2
  have HT2 := Lib.hid ht2
  have HV := Lib.hid (show evV (exDo f env y1) = .iface 4 (.bool true) from congrArg evV hv1)
  clear hres hm ht hm2 ht2 hv1
  obtain ⟨b, off, p1, cap1, rfl, q0, q1, q2, hy1⟩ := h5 0 y1 (by rw [ha]; rfl)
  simp only [Nat.zero_mul, Nat.add_zero] at q0 q1 q2
  have hbx := doBox w x (some ⟨b, off, none⟩) cap env
  unfold envV
  obtain ⟨W0, hW0⟩ : ∃ W0, (w.alloc (.cells #[.int .u8 x.op, .int .i64 x.n, .slice (some ⟨b, off, none⟩) x.args.length cap] 40)).alloc (.cells #[.int .i64 env.key, .int .i64 env.val, .int .i64 env.acc] 182) = W0 := ⟨_, rfl⟩
  rw [hW0] at hbx
  obtain ⟨hk0, d0, d1, d2, e0, e1, e2⟩ := hbx
  have r0 := hk0.cell (p := ⟨b, off, none⟩) (fun h => h) q0
  have r1 := hk0.cell (p := ⟨b, off + 1, none⟩) (fun h => h) q1
  have r2 := hk0.cell (p := ⟨b, off + 2, none⟩) (fun h => h) q2
  have hlen : (0 : Int) < (x.args.length : Int) := by rw [ha]; simp
  have hlenN : 0 < x.args.length := by rw [ha]; simp
  have HK := Lib.hid hk0
  have HW0 := Lib.hid hW0
  have HY := Lib.hid (ExAt.pure hk0 hy1)
  have H5 := Lib.hid h5
  have HA := Lib.hid ha
  have HE := Lib.hid he
  have IH := Lib.hid ih
  clear hk0 hW0 hy1 q0 q1 q2 h5 ha he ih h
  have hlen1 : (1 : Int) < (x.args.length : Int) := by have := HA.out; rw [this]; simp
  have hlenN1 : 1 < x.args.length := by have := HA.out; rw [this]; simp
  have b1 : (x.op == 1) = false := by simp [hop]
  have b2 : (x.op == 2) = false := by simp [hop]
  have b3 : (x.op == 3) = false := by simp [hop]
  have b4 : (x.op == 4) = false := by simp [hop]
  have b5 : (x.op == 5) = false := by simp [hop]
  have b6 : (x.op == 6) = false := by simp [hop]
  have b7 : (x.op == 18) = true := by simp [hop]
  clear hop
  have tA := fun v w => as_tru v false w
  simp only [Bool.false_eq_true, if_false] at tA
  go_enter Tryz.func175, Tryz.ntmps175
  go_wp2_with fail
  rw [HW0.out]
  refine wp_region_eager [0, 1, 2, 3, 4, 5, 6] (fun W => Kept none' W0 W) (by kernel_rfl) (by kernel_rfl) rfl (Kept.refl _ _).drew ?_
  simp only [List.map_cons, List.map_nil, List.getElem?_toArray, List.getElem?_cons_zero, List.getElem?_cons_succ, Option.getD_some]
  iterate 5 (apply wpL_float rfl rfl; (intro W hW; have z0 := hW.cell (fun h => h) d0; have z1 := hW.cell (fun h => h) d1; have z2 := hW.cell (fun h => h) d2; have z3 := hW.cell (fun h => h) r0; have z4 := hW.cell (fun h => h) r1; have z5 := hW.cell (fun h => h) r2; have z6 := hW.cell (fun h => h) e0; have z7 := hW.cell (fun h => h) e1; have z8 := hW.cell (fun h => h) e2; go_simp; rfl); go_frame)
  apply wpL_loud rfl rfl
  intro K hK
  go_wp2_with fail
  have c := IH.out y1 _ env W0.drew (ExAt.pure (Kept.refl _ _).drew HY.out) HE.out HM.out HT.out
  (with_reducible refine c.mono ?_)
  clear c
  rintro e W1 ⟨rfl, k1⟩
  have k1' : Kept none' W0 W1 := k1.drew_left
  clear k1
  rw [HV.out]
  go_wp2_with fail
  refine hK _ _ (fun _ => k1') ?_
  clear hK
  (apply wpL_float rfl rfl; (intro W hW; go_simp; rfl); go_frame)
  refine wpL_nil (fun _ => k1') ?_
  have d0 := k1'.cell (p := ⟨w.heap.size, 0, none⟩) (fun h => h) d0
  have d1 := k1'.cell (p := ⟨w.heap.size, 1, none⟩) (fun h => h) d1
  have d2 := k1'.cell (p := ⟨w.heap.size, 2, none⟩) (fun h => h) d2
  have e0 := k1'.cell (p := ⟨w.heap.size + 1, 0, none⟩) (fun h => h) e0
  have e1 := k1'.cell (p := ⟨w.heap.size + 1, 1, none⟩) (fun h => h) e1
  have e2 := k1'.cell (p := ⟨w.heap.size + 1, 2, none⟩) (fun h => h) e2
  have K1 := Lib.hid (HK.out.trans k1')
  clear k1'
  obtain ⟨b2, off2, p2, cap2, hb2, q0, q1, q2, hy2⟩ := H5.out 1 y2 (by rw [HA.out]; rfl)
  cases hb2
  have r0 := K1.out.cell (p := ⟨b, off + 1 * 3, none⟩) (fun h => h) q0
  have r1 := K1.out.cell (p := ⟨b, off + 1 * 3 + 1, none⟩) (fun h => h) q1
  have r2 := K1.out.cell (p := ⟨b, off + 1 * 3 + 2, none⟩) (fun h => h) q2
  have HY2 := Lib.hid (ExAt.pure K1.out hy2)
  simp only [Nat.one_mul, Nat.add_assoc, Nat.reduceAdd] at r0 r1 r2
  clear q0 q1 q2 hy2
  go_wp2_with fail
  refine wp_region_eager [0, 1, 2, 3, 4, 5, 6] (fun W => Kept none' W1 W) (by kernel_rfl) (by kernel_rfl) rfl (Kept.refl _ _).drew ?_
  simp only [List.map_cons, List.map_nil, List.getElem?_toArray, List.getElem?_cons_zero, List.getElem?_cons_succ, Option.getD_some]
  iterate 5 (apply wpL_float rfl rfl; (intro W hW; have z0 := hW.cell (fun h => h) d0; have z1 := hW.cell (fun h => h) d1; have z2 := hW.cell (fun h => h) d2; have z3 := hW.cell (fun h => h) r0; have z4 := hW.cell (fun h => h) r1; have z5 := hW.cell (fun h => h) r2; have z6 := hW.cell (fun h => h) e0; have z7 := hW.cell (fun h => h) e1; have z8 := hW.cell (fun h => h) e2; go_simp; rfl); go_frame)
  apply wpL_loud rfl rfl
  intro K hK
  go_wp2_with fail
  have c := IH.out y2 _ env W1.drew (ExAt.pure (Kept.refl _ _).drew HY2.out) HE.out HM2.out HT2.out
  (with_reducible refine c.mono ?_)
  clear c
  rintro e W2 ⟨rfl, k2⟩
  have k2' : Kept none' W1 W2 := k2.drew_left
  clear k2
  go_wp2_with fail
  refine hK _ _ (fun _ => k2') ?_
  clear hK
  (apply wpL_float rfl rfl; (intro W hW; go_simp; rfl); go_frame)
  refine wpL_nil (fun _ => k2') ?_
  go_wp2_with fail
  go_ret
  exact ⟨rfl, K1.out.trans k2'⟩
set_option maxRecDepth 100000 in
set_option maxHeartbeats 1000000 in
theorem do_if_else (f : Nat) (ih : DoAny f) (x : Ex) (a : Array Value) (env : Env) (w : World) (h : ExAt w a x) (he : EnvOk env) (y1 y2 y3 : Ex) (ha : x.args = [y1, y2, y3]) (hop : x.op = 18) (hm : exMay f y1 = true) (ht : exTy f y1 ≠ 0) (hm2 : exMay f y3 = true) (ht2 : exTy f y3 ≠ 0) (hv1 : exDo f env y1 = .tru false) :
    Calls Tryz.prog 175 #[.agg a, envV env] w (Gives w (evV (exDo (f + 1) env x))) := by
  obtain ⟨p, cap, rfl, o0, o1, hn, h3, h4, h5⟩ := h.parts
  unfold maxLen at h4
  have hres : exDo (f + 1) env x = exDo f env y3 := by
    obtain ⟨op, n, args⟩ := x
    simp only [Ex.op, Ex.args] at hop ha
    subst hop ha
    show (if (exDo f env y1).b then exDo f env y2 else exDo f env y3) = _
    rw [hv1]; rfl
  rw [hres]
  have HM := Lib.hid hm
  have HT := Lib.hid ht
  have HM2 := Lib.hid hm2
  have HT2 := Lib.hid ht2
  have HV := Lib.hid (show evV (exDo f env y1) = .iface 4 (.bool false) from congrArg evV hv1)
  clear hres hm ht hm2 ht2 hv1
  obtain ⟨b, off, p1, cap1, rfl, q0, q1, q2, hy1⟩ := h5 0 y1 (by rw [ha]; rfl)
  simp only [Nat.zero_mul, Nat.add_zero] at q0 q1 q2
  have hbx := doBox w x (some ⟨b, off, none⟩) cap env
  unfold envV
  obtain ⟨W0, hW0⟩ : ∃ W0, (w.alloc (.cells #[.int .u8 x.op, .int .i64 x.n, .slice (some ⟨b, off, none⟩) x.args.length cap] 40)).alloc (.cells #[.int .i64 env.key, .int .i64 env.val, .int .i64 env.acc] 182) = W0 := ⟨_, rfl⟩
  rw [hW0] at hbx
  obtain ⟨hk0, d0, d1, d2, e0, e1, e2⟩ := hbx
  have r0 := hk0.cell (p := ⟨b, off, none⟩) (fun h => h) q0
  have r1 := hk0.cell (p := ⟨b, off + 1, none⟩) (fun h => h) q1
  have r2 := hk0.cell (p := ⟨b, off + 2, none⟩) (fun h => h) q2
  have hlen : (0 : Int) < (x.args.length : Int) := by rw [ha]; simp
  have hlenN : 0 < x.args.length := by rw [ha]; simp
  have HK := Lib.hid hk0
  have HW0 := Lib.hid hW0
  have HY := Lib.hid (ExAt.pure hk0 hy1)
  have H5 := Lib.hid h5
  have HA := Lib.hid ha
  have HE := Lib.hid he
  have IH := Lib.hid ih
  clear hk0 hW0 hy1 q0 q1 q2 h5 ha he ih h
  have hlen1 : (2 : Int) < (x.args.length : Int) := by have := HA.out; rw [this]; simp
  have hlenN1 : 2 < x.args.length := by have := HA.out; rw [this]; simp
  have b1 : (x.op == 1) = false := by simp [hop]
  have b2 : (x.op == 2) = false := by simp [hop]
  have b3 : (x.op == 3) = false := by simp [hop]
  have b4 : (x.op == 4) = false := by simp [hop]
  have b5 : (x.op == 5) = false := by simp [hop]
  have b6 : (x.op == 6) = false := by simp [hop]
  have b7 : (x.op == 18) = true := by simp [hop]
  clear hop
  have tA := fun v w => as_tru v false w
  simp only [Bool.false_eq_true, if_false] at tA
  go_enter Tryz.func175, Tryz.ntmps175
  go_wp2_with fail
  rw [HW0.out]
  refine wp_region_eager [0, 1, 2, 3, 4, 5, 6] (fun W => Kept none' W0 W) (by kernel_rfl) (by kernel_rfl) rfl (Kept.refl _ _).drew ?_
  simp only [List.map_cons, List.map_nil, List.getElem?_toArray, List.getElem?_cons_zero, List.getElem?_cons_succ, Option.getD_some]
  iterate 5 (apply wpL_float rfl rfl; (intro W hW; have z0 := hW.cell (fun h => h) d0; have z1 := hW.cell (fun h => h) d1; have z2 := hW.cell (fun h => h) d2; have z3 := hW.cell (fun h => h) r0; have z4 := hW.cell (fun h => h) r1; have z5 := hW.cell (fun h => h) r2; have z6 := hW.cell (fun h => h) e0; have z7 := hW.cell (fun h => h) e1; have z8 := hW.cell (fun h => h) e2; go_simp; rfl); go_frame)
  apply wpL_loud rfl rfl
  intro K hK
  go_wp2_with fail
  have c := IH.out y1 _ env W0.drew (ExAt.pure (Kept.refl _ _).drew HY.out) HE.out HM.out HT.out
  (with_reducible refine c.mono ?_)
  clear c
  rintro e W1 ⟨rfl, k1⟩
  have k1' : Kept none' W0 W1 := k1.drew_left
  clear k1
  rw [HV.out]
  go_wp2_with fail
  refine hK _ _ (fun _ => k1') ?_
  clear hK
  (apply wpL_float rfl rfl; (intro W hW; go_simp; rfl); go_frame)
  refine wpL_nil (fun _ => k1') ?_
  have d0 := k1'.cell (p := ⟨w.heap.size, 0, none⟩) (fun h => h) d0
  have d1 := k1'.cell (p := ⟨w.heap.size, 1, none⟩) (fun h => h) d1
  have d2 := k1'.cell (p := ⟨w.heap.size, 2, none⟩) (fun h => h) d2
  have e0 := k1'.cell (p := ⟨w.heap.size + 1, 0, none⟩) (fun h => h) e0
  have e1 := k1'.cell (p := ⟨w.heap.size + 1, 1, none⟩) (fun h => h) e1
  have e2 := k1'.cell (p := ⟨w.heap.size + 1, 2, none⟩) (fun h => h) e2
  have K1 := Lib.hid (HK.out.trans k1')
  clear k1'
  obtain ⟨b2, off2, p2, cap2, hb2, q0, q1, q2, hy2⟩ := H5.out 2 y3 (by rw [HA.out]; rfl)
  cases hb2
  have r0 := K1.out.cell (p := ⟨b, off + 2 * 3, none⟩) (fun h => h) q0
  have r1 := K1.out.cell (p := ⟨b, off + 2 * 3 + 1, none⟩) (fun h => h) q1
  have r2 := K1.out.cell (p := ⟨b, off + 2 * 3 + 2, none⟩) (fun h => h) q2
  have HY2 := Lib.hid (ExAt.pure K1.out hy2)
  simp only [Nat.reduceMul, Nat.add_assoc, Nat.reduceAdd] at r0 r1 r2
  clear q0 q1 q2 hy2
  go_wp2_with fail
  refine wp_region_eager [0, 1, 2, 3, 4, 5, 6] (fun W => Kept none' W1 W) (by kernel_rfl) (by kernel_rfl) rfl (Kept.refl _ _).drew ?_
  simp only [List.map_cons, List.map_nil, List.getElem?_toArray, List.getElem?_cons_zero, List.getElem?_cons_succ, Option.getD_some]
  iterate 5 (apply wpL_float rfl rfl; (intro W hW; have z0 := hW.cell (fun h => h) d0; have z1 := hW.cell (fun h => h) d1; have z2 := hW.cell (fun h => h) d2; have z3 := hW.cell (fun h => h) r0; have z4 := hW.cell (fun h => h) r1; have z5 := hW.cell (fun h => h) r2; have z6 := hW.cell (fun h => h) e0; have z7 := hW.cell (fun h => h) e1; have z8 := hW.cell (fun h => h) e2; go_simp; rfl); go_frame)
  apply wpL_loud rfl rfl
  intro K hK
  go_wp2_with fail
  have c := IH.out y3 _ env W1.drew (ExAt.pure (Kept.refl _ _).drew HY2.out) HE.out HM2.out HT2.out
  (with_reducible refine c.mono ?_)
  clear c
  rintro e W2 ⟨rfl, k2⟩
  have k2' : Kept none' W1 W2 := k2.drew_left
  clear k2
  go_wp2_with fail
  refine hK _ _ (fun _ => k2') ?_
  clear hK
  (apply wpL_float rfl rfl; (intro W hW; go_simp; rfl); go_frame)
  refine wpL_nil (fun _ => k2') ?_
  go_wp2_with fail
  go_ret
  exact ⟨rfl, K1.out.trans k2'⟩
theorem do_any : ∀ f, DoAny f
  | 0 => fun x a env w h he hm ht => by cases x; cases hm
  | f + 1 => fun x a env w h he hm ht => by
    have ih := do_any f
    rcases ex_cases hm ht with ⟨_, hop⟩ | ⟨y1, ha, m1, ⟨hop, t1, _⟩ | ⟨hop, t1, _⟩⟩ | ⟨y1, y2, ha, m1, m2, hh⟩ | ⟨y1, y2, y3, ha, m1, m2, m3, hop, t1, t2, t3⟩
    · exact do_leaf f x a env w h hop
    · exact do_neg f ih x a env w h he y1 ha hop m1 t1
    · exact do_not f ih x a env w h he y1 ha hop m1 t1
    · have n1 : exTy f y1 ≠ 0 := by omega
      have n2 : exTy f y2 ≠ 0 := by omega
      have s1 := h.subTy he (i := 0) (by rw [ha]; rfl) m1 n1
      have s2 := h.subTy he (i := 1) (by rw [ha]; rfl) m2 n2
      refine do_two f ih x a env w h he y1 y2 ha (by omega) m1 n1 m2 n2 ?_
      rcases hh with ⟨hop, t1, t2, _⟩ | ⟨hop, t1, t2, _⟩ | ⟨hop, t1, t2, _⟩
      · exact .inl ⟨by omega, s1.1.trans t1, s2.1.trans t2, s1.2, s2.2⟩
      · exact .inl ⟨by omega, s1.1.trans t1, s2.1.trans t2, s1.2, s2.2⟩
      · exact .inr ⟨hop, s1.1.trans t1, s2.1.trans t2⟩
    · have n1 : exTy f y1 ≠ 0 := by omega
      have s1 := h.subTy he (i := 0) (by rw [ha]; rfl) m1 n1
      obtain ⟨v, hv⟩ := EV.of2 (s1.1.trans t1)
      cases v with
      | true => exact do_if_then f ih x a env w h he y1 y2 y3 ha hop m1 n1 m2 (by omega) hv
      | false => exact do_if_else f ih x a env w h he y1 y2 y3 ha hop m1 n1 m3 (by omega) hv
end Go.Proofs.YtglbkodmmogomaaGreatDoor
/-
  What an expression comes to: Do, Int, Bool.
-/
namespace Go.Proofs.YtglbkodmmogomaaGreatDoor
open Go Go.RowKit
attribute [local irreducible] wpL
theorem kindR_ok {x : Ex} (h : exOk x = true) : kindR x = (exTy 16 x, 0) ∧ exMay 16 x = true ∧ exTy 16 x ≠ 0 := by
  unfold exOk at h
  simp only [Bool.and_eq_true, bne_iff_ne, ne_eq] at h
  exact ⟨by unfold kindR; rw [if_neg (by rw [h.1]; simp), if_neg h.2], h.1, h.2⟩
theorem kindR_no {x : Ex} (h : exOk x = false) : ∃ n : Int, kindR x = (0, n) ∧ n ≠ 0 := by
  unfold exOk at h
  simp only [Bool.and_eq_false_iff, bne_eq_false_iff_eq] at h
  unfold kindR
  by_cases hm : exMay 16 x = false
  · exact ⟨2, by rw [if_pos hm], by omega⟩
  · have ht : exTy 16 x = 0 := by rcases h with h | h; exact absurd h hm; exact h
    exact ⟨91, by rw [if_neg hm, if_pos ht], by omega⟩
def DoQ (w : World) (x : Ex) (env : Env) (e : Ending) (w' : World) : Prop :=
  ∃ ty er : Int, e = .returned (.tuple #[.agg #[.int .u8 ty, .int .i64 (exInt x env), .bool (exBool x env)], .int .i64 er]) ∧ Kept none' w w'
theorem evV_cases (v : EV) : (∃ n, v = .num n) ∨ ∃ b, v = .tru b := by cases v with | num n => exact .inl ⟨n, rfl⟩ | tru b => exact .inr ⟨b, rfl⟩
set_option maxRecDepth 100000 in
set_option maxHeartbeats 1000000 in
theorem Do_any (x : Ex) (a : Array Value) (env : Env) (w : World) (h : ExAt w a x) (he : EnvOk env) : Calls Tryz.prog 143 #[.agg a, envV env] w (DoQ w x env) := by
  obtain ⟨p, cap, rfl, o0, o1, hn, h3, h4, h5⟩ := h.parts
  have H := Lib.hid h
  have HE := Lib.hid he
  clear h h5 he
  obtain ⟨W0, hW0⟩ : ∃ W0, ((w.alloc (.cells #[.int .u8 x.op, .int .i64 x.n, .slice p x.args.length cap] 40)).alloc (.cells #[.int .i64 env.key, .int .i64 env.val, .int .i64 env.acc] 182)).alloc (.cells #[.int .u8 0, .int .i64 0, .bool false] 215) = W0 := ⟨_, rfl⟩
  have hk0 : Kept none' w W0 := by rw [← hW0]; exact (((Kept.refl _ _).alloc _).alloc _).alloc _
  have hbx := doBox w x p cap env
  have kx : Kept none' ((w.alloc (.cells #[.int .u8 x.op, .int .i64 x.n, .slice p x.args.length cap] 40)).alloc (.cells #[.int .i64 env.key, .int .i64 env.val, .int .i64 env.acc] 182)) _ := (Kept.refl _ _).alloc (.cells #[.int .u8 0, .int .i64 0, .bool false] 215)
  have d0 : W0.cell? ⟨w.heap.size, 0, none⟩ = some (.int .u8 x.op) := by rw [← hW0]; exact kx.cell (fun h => h) hbx.d0
  have d1 : W0.cell? ⟨w.heap.size, 1, none⟩ = some (.int .i64 x.n) := by rw [← hW0]; exact kx.cell (fun h => h) hbx.d1
  have d2 : W0.cell? ⟨w.heap.size, 2, none⟩ = some (.slice p x.args.length cap) := by rw [← hW0]; exact kx.cell (fun h => h) hbx.d2
  have e0 : W0.cell? ⟨w.heap.size + 1, 0, none⟩ = some (.int .i64 env.key) := by rw [← hW0]; exact kx.cell (fun h => h) hbx.e0
  have e1 : W0.cell? ⟨w.heap.size + 1, 1, none⟩ = some (.int .i64 env.val) := by rw [← hW0]; exact kx.cell (fun h => h) hbx.e1
  have e2 : W0.cell? ⟨w.heap.size + 1, 2, none⟩ = some (.int .i64 env.acc) := by rw [← hW0]; exact kx.cell (fun h => h) hbx.e2
  have hB : W0.heap[w.heap.size + 1 + 1]? = some (.cells #[.int .u8 0, .int .i64 0, .bool false] 215 (0, 0)) := by
    rw [← hW0]
    have := heap_alloc_new ((w.alloc (.cells #[.int .u8 x.op, .int .i64 x.n, .slice p x.args.length cap] 40)).alloc (.cells #[.int .i64 env.key, .int .i64 env.val, .int .i64 env.acc] 182)) (.cells #[.int .u8 0, .int .i64 0, .bool false] 215)
    simpa [World.size_alloc] using this
  have HK := Lib.hid hk0
  have HW0 := Lib.hid hW0
  have HB := Lib.hid hB
  clear hk0 hW0 hB hbx kx
  go_enter Tryz.func143, Tryz.ntmps143
  go_wp2_with fail
  rw [HW0.out]
  have c := kindOf_any x _ W0 (ExAt.pure HK.out H.out)
  (with_reducible refine c.mono ?_)
  clear c
  rintro e W1 ⟨rfl, k1⟩
  have d0 := k1.cell (p := ⟨w.heap.size, 0, none⟩) (fun h => h) d0
  have d1 := k1.cell (p := ⟨w.heap.size, 1, none⟩) (fun h => h) d1
  have d2 := k1.cell (p := ⟨w.heap.size, 2, none⟩) (fun h => h) d2
  have e0 := k1.cell (p := ⟨w.heap.size + 1, 0, none⟩) (fun h => h) e0
  have e1 := k1.cell (p := ⟨w.heap.size + 1, 1, none⟩) (fun h => h) e1
  have e2 := k1.cell (p := ⟨w.heap.size + 1, 2, none⟩) (fun h => h) e2
  have hB1 := k1.heap HB.out (fun h => h)
  have HK1 := Lib.hid (HK.out.trans k1)
  clear k1
  cases hok : exOk x with
  | false =>
    obtain ⟨n, hr, hn0⟩ := kindR_no hok
    rw [hr]
    have hnB : (n != 0) = true := by simp [hn0]
    have z0 : W1.cell? ⟨w.heap.size + 1 + 1, 0, none⟩ = some (.int .u8 0) := cells_at hB1 rfl
    have z1 : W1.cell? ⟨w.heap.size + 1 + 1, 1, none⟩ = some (.int .i64 0) := cells_at hB1 rfl
    have z2 : W1.cell? ⟨w.heap.size + 1 + 1, 2, none⟩ = some (.bool false) := cells_at hB1 rfl
    have f0 := free_at hB1 0
    have f1 := free_at hB1 1
    have f2 := free_at hB1 2
    have F : DoQ w x env (.returned (.tuple #[.agg #[.int .u8 0, .int .i64 0, .bool false], .int .i64 n])) (((W1.setCell ⟨w.heap.size + 1 + 1, 0, none⟩ (.int .u8 0)).setCell ⟨w.heap.size + 1 + 1, 1, none⟩ (.int .i64 0)).setCell ⟨w.heap.size + 1 + 1, 2, none⟩ (.bool false)) := by
      refine ⟨0, n, by unfold exInt exBool; rw [hok]; rfl, ?_⟩
      exact ((HK1.out.setCell (p := ⟨w.heap.size + 1 + 1, 0, none⟩) (.inr (by simp; omega)) _).setCell (p := ⟨w.heap.size + 1 + 1, 1, none⟩) (.inr (by simp; omega)) _).setCell (p := ⟨w.heap.size + 1 + 1, 2, none⟩) (.inr (by simp; omega)) _
    have F' := Lib.hid F
    clear F hok hr hn0 hB1
    go_wp2_with fail
    refine bodyPost_ret (v := .tuple #[.agg #[.int .u8 0, .int .i64 0, .bool false], .int .i64 n]) (by simp [results, Tryz.results143, go_sem, z0, z1, z2]) rfl F'.out
  | true =>
    obtain ⟨hr, hm, ht⟩ := kindR_ok hok
    have hty := exDo_ty HE.out 16 x _ H.out hm ht
    rw [hr]
    have HOK := Lib.hid (And.intro hok (And.intro hm (And.intro ht hty)))
    have HB1 := Lib.hid hB1
    clear hok hr hm ht hty hB1
    go_wp2_with fail
    have c := do_any 16 x _ env W1 (ExAt.pure HK1.out H.out) HE.out HOK.out.2.1 HOK.out.2.2.1
    (with_reducible refine c.mono ?_)
    clear c
    rintro e W2 ⟨rfl, k2⟩
    have hB2 := k2.heap HB1.out (fun h => h)
    have z0 : W2.cell? ⟨w.heap.size + 1 + 1, 0, none⟩ = some (.int .u8 0) := cells_at hB2 rfl
    have z1 : W2.cell? ⟨w.heap.size + 1 + 1, 1, none⟩ = some (.int .i64 0) := cells_at hB2 rfl
    have z2 : W2.cell? ⟨w.heap.size + 1 + 1, 2, none⟩ = some (.bool false) := cells_at hB2 rfl
    have f0 := free_at hB2 0
    have f1 := free_at hB2 1
    have f2 := free_at hB2 2
    have HK2 := Lib.hid (HK1.out.trans k2)
    clear k2 hB2
    have fin : ∀ (n : Int) (b : Bool), (exDo 16 env x).n = n → (exDo 16 env x).b = b → DoQ w x env (.returned (.tuple #[.agg #[.int .u8 (exTy 16 x), .int .i64 n, .bool b], .int .i64 0])) (((W2.setCell ⟨w.heap.size + 1 + 1, 0, none⟩ (.int .u8 (exTy 16 x))).setCell ⟨w.heap.size + 1 + 1, 1, none⟩ (.int .i64 n)).setCell ⟨w.heap.size + 1 + 1, 2, none⟩ (.bool b)) := by
      intro n b hn hb
      refine ⟨exTy 16 x, 0, by unfold exInt exBool; rw [HOK.out.1, hn, hb]; rfl, ?_⟩
      exact ((HK2.out.setCell (p := ⟨w.heap.size + 1 + 1, 0, none⟩) (.inr (by simp; omega)) _).setCell (p := ⟨w.heap.size + 1 + 1, 1, none⟩) (.inr (by simp; omega)) _).setCell (p := ⟨w.heap.size + 1 + 1, 2, none⟩) (.inr (by simp; omega)) _
    rcases evV_cases (exDo 16 env x) with ⟨n, hv⟩ | ⟨b, hv⟩
    · have F' := Lib.hid (fin n false (by rw [hv]; rfl) (by rw [hv]; rfl))
      rw [show evV (exDo 16 env x) = .iface 2 (.int .i64 n) from congrArg evV hv]
      have t1 := fun v w => as_num v true w
      have t2 := no_tru
      simp only [if_true] at t1
      clear fin hv
      go_wp2_with fail
      refine bodyPost_ret (v := .tuple #[.agg #[.int .u8 (exTy 16 x), .int .i64 n, .bool false], .int .i64 0]) (by simp [results, Tryz.results143, go_sem, z0, z1, z2]) rfl F'.out
    · have F' := Lib.hid (fin 0 b (by rw [hv]; rfl) (by rw [hv]; rfl))
      rw [show evV (exDo 16 env x) = .iface 4 (.bool b) from congrArg evV hv]
      have t1 := fun v w => as_tru v true w
      have t2 := no_num
      simp only [if_true] at t1
      clear fin hv
      go_wp2_with fail
      refine bodyPost_ret (v := .tuple #[.agg #[.int .u8 (exTy 16 x), .int .i64 0, .bool b], .int .i64 0]) (by simp [results, Tryz.results143, go_sem, z0, z1, z2]) rfl F'.out
set_option maxRecDepth 100000 in
set_option maxHeartbeats 1000000 in
theorem int_any (x : Ex) (a : Array Value) (env : Env) (w : World) (h : ExAt w a x) (he : EnvOk env) : Calls Tryz.prog 106 #[.agg a, envV env] w (Gives w (.int .i64 (exInt x env))) := by
  obtain ⟨p, cap, rfl, o0, o1, hn, h3, h4, h5⟩ := h.parts
  have H := Lib.hid h
  have HE := Lib.hid he
  clear h h5 he
  go_enter Tryz.func106, Tryz.ntmps106
  go_wp2_with fail
  have k0 : Kept none' w ((w.alloc (.cells #[.int .u8 x.op, .int .i64 x.n, .slice p x.args.length cap] 40)).alloc (.cells #[.int .i64 env.key, .int .i64 env.val, .int .i64 env.acc] 182)) := ((Kept.refl _ _).alloc _).alloc _
  have c := Do_any x _ env _ (ExAt.pure k0 H.out) HE.out
  (with_reducible refine c.mono ?_)
  clear c
  rintro e W2 ⟨ty, er, rfl, k2⟩
  have K := Lib.hid (k0.trans k2)
  clear k0 k2
  go_wp2_with fail
  go_ret
  exact ⟨rfl, K.out.alloc _⟩
set_option maxRecDepth 100000 in
set_option maxHeartbeats 1000000 in
theorem bool_any (x : Ex) (a : Array Value) (env : Env) (w : World) (h : ExAt w a x) (he : EnvOk env) : Calls Tryz.prog 109 #[.agg a, envV env] w (Gives w (.bool (exBool x env))) := by
  obtain ⟨p, cap, rfl, o0, o1, hn, h3, h4, h5⟩ := h.parts
  have H := Lib.hid h
  have HE := Lib.hid he
  clear h h5 he
  go_enter Tryz.func109, Tryz.ntmps109
  go_wp2_with fail
  have k0 : Kept none' w ((w.alloc (.cells #[.int .u8 x.op, .int .i64 x.n, .slice p x.args.length cap] 40)).alloc (.cells #[.int .i64 env.key, .int .i64 env.val, .int .i64 env.acc] 182)) := ((Kept.refl _ _).alloc _).alloc _
  have c := Do_any x _ env _ (ExAt.pure k0 H.out) HE.out
  (with_reducible refine c.mono ?_)
  clear c
  rintro e W2 ⟨ty, er, rfl, k2⟩
  have K := Lib.hid (k0.trans k2)
  clear k0 k2
  go_wp2_with fail
  go_ret
  exact ⟨rfl, K.out.alloc _⟩
theorem exInt_r64 {w : World} {x : Ex} {a : Array Value} {env : Env} (h : ExAt w a x) (he : EnvOk env) : R64 (exInt x env) := by
  unfold exInt
  split
  · rename_i hok
    obtain ⟨_, hm, ht⟩ := kindR_ok hok
    exact (exDo_ty he 16 x a h hm ht).2
  · exact zero_r64
end Go.Proofs.YtglbkodmmogomaaGreatDoor
