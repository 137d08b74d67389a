/-
  What an expression comes to: Do, Int, Bool.
-/
import Derived.Test.YtaalpijohdlabaaExp9
namespace Go.Proofs.Ytaalpijohdlabaa
open Go Go.RowKit
attribute [local irreducible] wpL
theorem kindR_ok {x : Ex} (h : exOk x = true) : kindR x = (exTy 16 x, 0) ∧ exMay 16 x = true ∧ exTy 16 x ≠ 0 := by
  unfold exOk at h
  simp only [Bool.and_eq_true, bne_iff_ne, ne_eq] at h
  exact ⟨by unfold kindR; rw [if_neg (by rw [h.1]; simp), if_neg h.2], h.1, h.2⟩
theorem kindR_no {x : Ex} (h : exOk x = false) : ∃ n : Int, kindR x = (0, n) ∧ n ≠ 0 := by
  unfold exOk at h
  simp only [Bool.and_eq_false_iff, bne_eq_false_iff_eq] at h
  unfold kindR
  by_cases hm : exMay 16 x = false
  · exact ⟨2, by rw [if_pos hm], by omega⟩
  · have ht : exTy 16 x = 0 := by rcases h with h | h; exact absurd h hm; exact h
    exact ⟨91, by rw [if_neg hm, if_pos ht], by omega⟩
def DoQ (w : World) (x : Ex) (env : Env) (e : Ending) (w' : World) : Prop :=
  ∃ ty er : Int, e = .returned (.tuple #[.agg #[.int .u8 ty, .int .i64 (exInt x env), .bool (exBool x env)], .int .i64 er]) ∧ Kept none' w w'
theorem evV_cases (v : EV) : (∃ n, v = .num n) ∨ ∃ b, v = .tru b := by cases v with | num n => exact .inl ⟨n, rfl⟩ | tru b => exact .inr ⟨b, rfl⟩
set_option maxRecDepth 100000 in
set_option maxHeartbeats 1000000 in
theorem Do_any (x : Ex) (a : Array Value) (env : Env) (w : World) (h : ExAt w a x) (he : EnvOk env) : Calls Try.prog 97 #[.agg a, envV env] w (DoQ w x env) := by
  obtain ⟨p, cap, rfl, o0, o1, hn, h3, h4, h5⟩ := h.parts
  have H := Lib.hid h
  have HE := Lib.hid he
  clear h h5 he
  obtain ⟨W0, hW0⟩ : ∃ W0, ((w.alloc (.cells #[.int .u8 x.op, .int .i64 x.n, .slice p x.args.length cap] 52)).alloc (.cells #[.int .i64 env.key, .int .i64 env.val, .int .i64 env.acc] 102)).alloc (.cells #[.int .u8 0, .int .i64 0, .bool false] 133) = W0 := ⟨_, rfl⟩
  have hk0 : Kept none' w W0 := by rw [← hW0]; exact (((Kept.refl _ _).alloc _).alloc _).alloc _
  have hbx := doBox w x p cap env
  have kx : Kept none' ((w.alloc (.cells #[.int .u8 x.op, .int .i64 x.n, .slice p x.args.length cap] 52)).alloc (.cells #[.int .i64 env.key, .int .i64 env.val, .int .i64 env.acc] 102)) _ := (Kept.refl _ _).alloc (.cells #[.int .u8 0, .int .i64 0, .bool false] 133)
  have d0 : W0.cell? ⟨w.heap.size, 0, none⟩ = some (.int .u8 x.op) := by rw [← hW0]; exact kx.cell (fun h => h) hbx.d0
  have d1 : W0.cell? ⟨w.heap.size, 1, none⟩ = some (.int .i64 x.n) := by rw [← hW0]; exact kx.cell (fun h => h) hbx.d1
  have d2 : W0.cell? ⟨w.heap.size, 2, none⟩ = some (.slice p x.args.length cap) := by rw [← hW0]; exact kx.cell (fun h => h) hbx.d2
  have e0 : W0.cell? ⟨w.heap.size + 1, 0, none⟩ = some (.int .i64 env.key) := by rw [← hW0]; exact kx.cell (fun h => h) hbx.e0
  have e1 : W0.cell? ⟨w.heap.size + 1, 1, none⟩ = some (.int .i64 env.val) := by rw [← hW0]; exact kx.cell (fun h => h) hbx.e1
  have e2 : W0.cell? ⟨w.heap.size + 1, 2, none⟩ = some (.int .i64 env.acc) := by rw [← hW0]; exact kx.cell (fun h => h) hbx.e2
  have hB : W0.heap[w.heap.size + 1 + 1]? = some (.cells #[.int .u8 0, .int .i64 0, .bool false] 133 (0, 0)) := by
    rw [← hW0]
    have := heap_alloc_new ((w.alloc (.cells #[.int .u8 x.op, .int .i64 x.n, .slice p x.args.length cap] 52)).alloc (.cells #[.int .i64 env.key, .int .i64 env.val, .int .i64 env.acc] 102)) (.cells #[.int .u8 0, .int .i64 0, .bool false] 133)
    simpa [World.size_alloc] using this
  have HK := Lib.hid hk0
  have HW0 := Lib.hid hW0
  have HB := Lib.hid hB
  clear hk0 hW0 hB hbx kx
  go_enter Try.func97, Try.ntmps97
  go_wp2_with fail
  rw [HW0.out]
  have c := kindOf_any x _ W0 (ExAt.pure HK.out H.out)
  (with_reducible refine c.mono ?_)
  clear c
  rintro e W1 ⟨rfl, k1⟩
  have d0 := k1.cell (p := ⟨w.heap.size, 0, none⟩) (fun h => h) d0
  have d1 := k1.cell (p := ⟨w.heap.size, 1, none⟩) (fun h => h) d1
  have d2 := k1.cell (p := ⟨w.heap.size, 2, none⟩) (fun h => h) d2
  have e0 := k1.cell (p := ⟨w.heap.size + 1, 0, none⟩) (fun h => h) e0
  have e1 := k1.cell (p := ⟨w.heap.size + 1, 1, none⟩) (fun h => h) e1
  have e2 := k1.cell (p := ⟨w.heap.size + 1, 2, none⟩) (fun h => h) e2
  have hB1 := k1.heap HB.out (fun h => h)
  have HK1 := Lib.hid (HK.out.trans k1)
  clear k1
  cases hok : exOk x with
  | false =>
    obtain ⟨n, hr, hn0⟩ := kindR_no hok
    rw [hr]
    have hnB : (n != 0) = true := by simp [hn0]
    have z0 : W1.cell? ⟨w.heap.size + 1 + 1, 0, none⟩ = some (.int .u8 0) := cells_at hB1 rfl
    have z1 : W1.cell? ⟨w.heap.size + 1 + 1, 1, none⟩ = some (.int .i64 0) := cells_at hB1 rfl
    have z2 : W1.cell? ⟨w.heap.size + 1 + 1, 2, none⟩ = some (.bool false) := cells_at hB1 rfl
    have f0 := free_at hB1 0
    have f1 := free_at hB1 1
    have f2 := free_at hB1 2
    have F : DoQ w x env (.returned (.tuple #[.agg #[.int .u8 0, .int .i64 0, .bool false], .int .i64 n])) (((W1.setCell ⟨w.heap.size + 1 + 1, 0, none⟩ (.int .u8 0)).setCell ⟨w.heap.size + 1 + 1, 1, none⟩ (.int .i64 0)).setCell ⟨w.heap.size + 1 + 1, 2, none⟩ (.bool false)) := by
      refine ⟨0, n, by unfold exInt exBool; rw [hok]; rfl, ?_⟩
      exact ((HK1.out.setCell (p := ⟨w.heap.size + 1 + 1, 0, none⟩) (.inr (by simp; omega)) _).setCell (p := ⟨w.heap.size + 1 + 1, 1, none⟩) (.inr (by simp; omega)) _).setCell (p := ⟨w.heap.size + 1 + 1, 2, none⟩) (.inr (by simp; omega)) _
    have F' := Lib.hid F
    clear F hok hr hn0 hB1
    go_wp2_with fail
    refine bodyPost_ret (v := .tuple #[.agg #[.int .u8 0, .int .i64 0, .bool false], .int .i64 n]) (by simp [results, Try.results97, go_sem, z0, z1, z2]) rfl F'.out
  | true =>
    obtain ⟨hr, hm, ht⟩ := kindR_ok hok
    have hty := exDo_ty HE.out 16 x _ H.out hm ht
    rw [hr]
    have HOK := Lib.hid (And.intro hok (And.intro hm (And.intro ht hty)))
    have HB1 := Lib.hid hB1
    clear hok hr hm ht hty hB1
    go_wp2_with fail
    have c := do_any 16 x _ env W1 (ExAt.pure HK1.out H.out) HE.out HOK.out.2.1 HOK.out.2.2.1
    (with_reducible refine c.mono ?_)
    clear c
    rintro e W2 ⟨rfl, k2⟩
    have hB2 := k2.heap HB1.out (fun h => h)
    have z0 : W2.cell? ⟨w.heap.size + 1 + 1, 0, none⟩ = some (.int .u8 0) := cells_at hB2 rfl
    have z1 : W2.cell? ⟨w.heap.size + 1 + 1, 1, none⟩ = some (.int .i64 0) := cells_at hB2 rfl
    have z2 : W2.cell? ⟨w.heap.size + 1 + 1, 2, none⟩ = some (.bool false) := cells_at hB2 rfl
    have f0 := free_at hB2 0
    have f1 := free_at hB2 1
    have f2 := free_at hB2 2
    have HK2 := Lib.hid (HK1.out.trans k2)
    clear k2 hB2
    have fin : ∀ (n : Int) (b : Bool), (exDo 16 env x).n = n → (exDo 16 env x).b = b → DoQ w x env (.returned (.tuple #[.agg #[.int .u8 (exTy 16 x), .int .i64 n, .bool b], .int .i64 0])) (((W2.setCell ⟨w.heap.size + 1 + 1, 0, none⟩ (.int .u8 (exTy 16 x))).setCell ⟨w.heap.size + 1 + 1, 1, none⟩ (.int .i64 n)).setCell ⟨w.heap.size + 1 + 1, 2, none⟩ (.bool b)) := by
      intro n b hn hb
      refine ⟨exTy 16 x, 0, by unfold exInt exBool; rw [HOK.out.1, hn, hb]; rfl, ?_⟩
      exact ((HK2.out.setCell (p := ⟨w.heap.size + 1 + 1, 0, none⟩) (.inr (by simp; omega)) _).setCell (p := ⟨w.heap.size + 1 + 1, 1, none⟩) (.inr (by simp; omega)) _).setCell (p := ⟨w.heap.size + 1 + 1, 2, none⟩) (.inr (by simp; omega)) _
    rcases evV_cases (exDo 16 env x) with ⟨n, hv⟩ | ⟨b, hv⟩
    · have F' := Lib.hid (fin n false (by rw [hv]; rfl) (by rw [hv]; rfl))
      rw [show evV (exDo 16 env x) = .iface 2 (.int .i64 n) from congrArg evV hv]
      have t1 := fun v w => as_num v true w
      have t2 := no_tru
      simp only [if_true] at t1
      clear fin hv
      go_wp2_with fail
      refine bodyPost_ret (v := .tuple #[.agg #[.int .u8 (exTy 16 x), .int .i64 n, .bool false], .int .i64 0]) (by simp [results, Try.results97, go_sem, z0, z1, z2]) rfl F'.out
    · have F' := Lib.hid (fin 0 b (by rw [hv]; rfl) (by rw [hv]; rfl))
      rw [show evV (exDo 16 env x) = .iface 4 (.bool b) from congrArg evV hv]
      have t1 := fun v w => as_tru v true w
      have t2 := no_num
      simp only [if_true] at t1
      clear fin hv
      go_wp2_with fail
      refine bodyPost_ret (v := .tuple #[.agg #[.int .u8 (exTy 16 x), .int .i64 0, .bool b], .int .i64 0]) (by simp [results, Try.results97, go_sem, z0, z1, z2]) rfl F'.out
set_option maxRecDepth 100000 in
set_option maxHeartbeats 1000000 in
theorem int_any (x : Ex) (a : Array Value) (env : Env) (w : World) (h : ExAt w a x) (he : EnvOk env) : Calls Try.prog 65 #[.agg a, envV env] w (Gives w (.int .i64 (exInt x env))) := by
  obtain ⟨p, cap, rfl, o0, o1, hn, h3, h4, h5⟩ := h.parts
  have H := Lib.hid h
  have HE := Lib.hid he
  clear h h5 he
  go_enter Try.func65, Try.ntmps65
  go_wp2_with fail
  have k0 : Kept none' w ((w.alloc (.cells #[.int .u8 x.op, .int .i64 x.n, .slice p x.args.length cap] 52)).alloc (.cells #[.int .i64 env.key, .int .i64 env.val, .int .i64 env.acc] 102)) := ((Kept.refl _ _).alloc _).alloc _
  have c := Do_any x _ env _ (ExAt.pure k0 H.out) HE.out
  (with_reducible refine c.mono ?_)
  clear c
  rintro e W2 ⟨ty, er, rfl, k2⟩
  have K := Lib.hid (k0.trans k2)
  clear k0 k2
  go_wp2_with fail
  go_ret
  exact ⟨rfl, K.out.alloc _⟩
set_option maxRecDepth 100000 in
set_option maxHeartbeats 1000000 in
theorem bool_any (x : Ex) (a : Array Value) (env : Env) (w : World) (h : ExAt w a x) (he : EnvOk env) : Calls Try.prog 68 #[.agg a, envV env] w (Gives w (.bool (exBool x env))) := by
  obtain ⟨p, cap, rfl, o0, o1, hn, h3, h4, h5⟩ := h.parts
  have H := Lib.hid h
  have HE := Lib.hid he
  clear h h5 he
  go_enter Try.func68, Try.ntmps68
  go_wp2_with fail
  have k0 : Kept none' w ((w.alloc (.cells #[.int .u8 x.op, .int .i64 x.n, .slice p x.args.length cap] 52)).alloc (.cells #[.int .i64 env.key, .int .i64 env.val, .int .i64 env.acc] 102)) := ((Kept.refl _ _).alloc _).alloc _
  have c := Do_any x _ env _ (ExAt.pure k0 H.out) HE.out
  (with_reducible refine c.mono ?_)
  clear c
  rintro e W2 ⟨ty, er, rfl, k2⟩
  have K := Lib.hid (k0.trans k2)
  clear k0 k2
  go_wp2_with fail
  go_ret
  exact ⟨rfl, K.out.alloc _⟩
theorem exInt_r64 {w : World} {x : Ex} {a : Array Value} {env : Env} (h : ExAt w a x) (he : EnvOk env) : R64 (exInt x env) := by
  unfold exInt
  split
  · rename_i hok
    obtain ⟨_, hm, ht⟩ := kindR_ok hok
    exact (exDo_ty he 16 x a h hm ht).2
  · exact zero_r64
end Go.Proofs.Ytaalpijohdlabaa
