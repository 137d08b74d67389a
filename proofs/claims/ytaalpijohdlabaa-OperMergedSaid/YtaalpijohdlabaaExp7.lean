/-
  What expressions come to: Of, two.
-/
import Derived.Test.YtaalpijohdlabaaExp6
namespace Go.Proofs.Ytaalpijohdlabaa
open Go Go.RowKit
attribute [local irreducible] wpL
/-- A type and an error. -/
def kindR (x : Ex) : Int × Int := if exMay 16 x = false then (0, 2) else if exTy 16 x = 0 then (0, 91) else (exTy 16 x, 0)
def KindQ (w : World) (r : Int × Int) (e : Ending) (w' : World) : Prop := e = .returned (.tuple #[.int .u8 r.1, .int .i64 r.2]) ∧ Kept none' w w'
set_option maxRecDepth 100000 in
set_option maxHeartbeats 1000000 in
theorem kindOf_any (x : Ex) (a : Array Value) (w : World) (h : ExAt w a x) : Calls Try.prog 109 #[.agg a, .bool true] w (KindQ w (kindR x)) := by
  obtain ⟨p, cap, rfl, h0, h1, h2, h3, h4, h5⟩ := h.parts
  have H := Lib.hid h
  clear h h5
  have hk0 : Kept none' w (w.alloc (.cells #[.int .u8 x.op, .int .i64 x.n, .slice p x.args.length cap] 52)) := (Kept.refl _ _).alloc _
  obtain ⟨W0, hW0⟩ : ∃ W0, w.alloc (.cells #[.int .u8 x.op, .int .i64 x.n, .slice p x.args.length cap] 52) = W0 := ⟨_, rfl⟩
  have d0 : W0.cell? ⟨w.heap.size, 0, none⟩ = some (.int .u8 x.op) := by rw [← hW0]; simp
  have d1 : W0.cell? ⟨w.heap.size, 1, none⟩ = some (.int .i64 x.n) := by rw [← hW0]; simp
  have d2 : W0.cell? ⟨w.heap.size, 2, none⟩ = some (.slice p x.args.length cap) := by rw [← hW0]; simp
  rw [hW0] at hk0
  have HK := Lib.hid hk0
  have HW0 := Lib.hid hW0
  clear hk0 hW0
  go_enter Try.func109, Try.ntmps109
  go_wp2_with fail
  rw [HW0.out]
  (with_reducible refine (May_any x _ W0 (ExAt.pure HK.out H.out)).mono ?_)
  rintro e W1 ⟨rfl, k1⟩
  have c0 := k1.cell (p := ⟨w.heap.size, 0, none⟩) (fun h => h) d0
  have c1 := k1.cell (p := ⟨w.heap.size, 1, none⟩) (fun h => h) d1
  have c2 := k1.cell (p := ⟨w.heap.size, 2, none⟩) (fun h => h) d2
  have HK1 := Lib.hid (HK.out.trans k1)
  clear k1
  cases hm : exMay 16 x with
  | false =>
    have F : KindQ w (kindR x) (.returned (.tuple #[.int .u8 0, .int .i64 2])) W1 := ⟨by unfold kindR; rw [if_pos hm], HK1.out⟩
    have F' := Lib.hid F
    clear hm F
    go_wp2_with fail
    go_ret2
    exact F'.out
  | true =>
    have HM := Lib.hid hm
    clear hm
    go_wp2_with fail
    refine wp_region_eager [1, 0, 2, 3] (fun W => Kept none' W1 W) (by kernel_rfl) (by kernel_rfl) rfl (Kept.refl _ _).drew ?_
    simp only [List.map_cons, List.map_nil, List.getElem?_toArray, List.getElem?_cons_zero, List.getElem?_cons_succ, Option.getD_some]
    (apply wpL_float rfl rfl; (intro W hW; have z0 := hW.cell (fun h => h) c0; have z1 := hW.cell (fun h => h) c1; have z2 := hW.cell (fun h => h) c2; go_simp; rfl); go_frame)
    apply wpL_loud rfl rfl
    intro K hK
    go_wp2_with fail
    (with_reducible refine (rules_any _).mono ?_)
    rintro e W2 ⟨m, rfl, r2, k2⟩
    have k2' : Kept none' W1 W2 := k2.drew_left
    clear k2
    go_wp2_with fail
    refine hK _ _ (fun _ => k2') ?_
    clear hK
    apply wpL_loud rfl rfl
    intro K hK
    go_wp2_with fail
    have c := ty_any 16 x _ m _ (ExAt.pure (HK1.out.trans k2') H.out) HM.out r2
    (with_reducible refine c.mono ?_)
    clear c
    rintro e W3 ⟨rfl, k3⟩
    have k3' : Kept none' W1 W3 := k2'.trans k3
    clear k2' k3 r2
    go_wp2_with fail
    refine hK _ _ (fun _ => k3') ?_
    clear hK
    (apply wpL_float rfl rfl; (intro W hW; go_simp; rfl); go_frame)
    refine wpL_nil (fun _ => k3') ?_
    by_cases ht : exTy 16 x = 0
    · have F : KindQ w (kindR x) (.returned (.tuple #[.int .u8 0, .int .i64 91])) W3 := ⟨by unfold kindR; rw [if_neg (by rw [HM.out]; simp), if_pos ht], HK1.out.trans k3'⟩
      have F' := Lib.hid F
      have hb : (exTy 16 x == 0) = true := by simp [ht]
      clear F ht k3'
      go_wp2_with fail
      go_ret2
      exact F'.out
    · have F : KindQ w (kindR x) (.returned (.tuple #[.int .u8 (exTy 16 x), .int .i64 0])) W3 := ⟨by unfold kindR; rw [if_neg (by rw [HM.out]; simp), if_neg ht], HK1.out.trans k3'⟩
      have F' := Lib.hid F
      have hb : (exTy 16 x == 0) = false := by simp [ht]
      clear F ht k3'
      go_wp2_with fail
      go_ret2
      exact F'.out
def evV : EV → Value
  | .num n => .iface 2 (.int .i64 n)
  | .tru b => .iface 4 (.bool b)
theorem as_num (v : Value) (c : Bool) (w : World) : (Instr.typeAssert (.iface 2 v) 20 2 c).run Try.prog w = .ok (if c then .tuple #[v, .bool true] else v) w := by cases c <;> kernel_rfl
theorem as_tru (v : Value) (c : Bool) (w : World) : (Instr.typeAssert (.iface 4 v) 20 4 c).run Try.prog w = .ok (if c then .tuple #[v, .bool true] else v) w := by cases c <;> kernel_rfl
theorem no_num (v : Value) (w : World) : (Instr.typeAssert (.iface 4 v) 20 2 true).run Try.prog w = .ok (.tuple #[.int .i64 0, .bool false]) w := by kernel_rfl
theorem no_tru (v : Value) (w : World) : (Instr.typeAssert (.iface 2 v) 20 4 true).run Try.prog w = .ok (.tuple #[.bool false, .bool false]) w := by kernel_rfl
def Is (w : World) (v : Value) (e : Ending) (w' : World) : Prop := e = .returned v ∧ w = w'
set_option maxRecDepth 100000 in
set_option maxHeartbeats 1000000 in
theorem two_num (op a b : Int) (w : World) (ha : R64 a) (hb : R64 b) (hop : op = 7 ∨ op = 8 ∨ op = 9 ∨ op = 12 ∨ op = 13 ∨ op = 14 ∨ op = 15) :
    Calls Try.prog 126 #[.int .u8 op, .iface 2 (.int .i64 a), .iface 2 (.int .i64 b)] w (Is w (evV (exTwo op (.num a) (.num b)))) := by
  obtain ⟨ha1, ha2⟩ := ha
  obtain ⟨hb1, hb2⟩ := hb
  rcases hop with rfl | rfl | rfl | rfl | rfl | rfl | rfl
  all_goals
    have t1 := fun v w => as_num v true w
    have t2 := fun v w => as_num v false w
    simp only [if_true, Bool.false_eq_true, if_false] at t1 t2
    go_enter Try.func126, Try.ntmps126
    go_wp2_with fail
    go_ret
    exact ⟨rfl, rfl⟩
set_option maxRecDepth 100000 in
set_option maxHeartbeats 1000000 in
theorem two_div (op a b : Int) (w : World) (ha : R64 a) (hb : R64 b) (hop : op = 10 ∨ op = 11) :
    Calls Try.prog 126 #[.int .u8 op, .iface 2 (.int .i64 a), .iface 2 (.int .i64 b)] w (Is w (evV (exTwo op (.num a) (.num b)))) := by
  obtain ⟨ha1, ha2⟩ := ha
  obtain ⟨hb1, hb2⟩ := hb
  by_cases h0 : b = 0
  · subst h0
    rcases hop with rfl | rfl
    all_goals
      have t1 := fun v w => as_num v true w
      have t2 := fun v w => as_num v false w
      simp only [if_true, Bool.false_eq_true, if_false] at t1 t2
      go_enter Try.func126, Try.ntmps126
      go_wp2_with fail
      go_ret
      exact ⟨rfl, rfl⟩
  · have h1 : (b == 0) = false := by simp [h0]
    have h2 : exTwo 10 (.num a) (.num b) = .num (wrap64 (a.tdiv b)) := by unfold exTwo; simp [EV.n, h0]
    have h3 : exTwo 11 (.num a) (.num b) = .num (a.tmod b) := by unfold exTwo; simp [EV.n, h0]
    rcases hop with rfl | rfl
    · rw [h2]
      clear h2 h3
      have t1 := fun v w => as_num v true w
      have t2 := fun v w => as_num v false w
      simp only [if_true, Bool.false_eq_true, if_false] at t1 t2
      go_enter Try.func126, Try.ntmps126
      go_wp2_with fail
      go_ret
      exact ⟨rfl, rfl⟩
    · rw [h3]
      clear h2 h3
      have t1 := fun v w => as_num v true w
      have t2 := fun v w => as_num v false w
      simp only [if_true, Bool.false_eq_true, if_false] at t1 t2
      go_enter Try.func126, Try.ntmps126
      go_wp2_with fail
      go_ret
      exact ⟨rfl, rfl⟩
set_option maxRecDepth 100000 in
set_option maxHeartbeats 1000000 in
theorem two_tru (op : Int) (a b : Bool) (w : World) (hop : op = 16 ∨ op = 17 ∨ op = 14 ∨ op = 15) :
    Calls Try.prog 126 #[.int .u8 op, .iface 4 (.bool a), .iface 4 (.bool b)] w fun e w' => e = .returned (evV (exTwo op (.tru a) (.tru b))) ∧ Kept none' w w' := by
  have n1 := no_num
  have t2 := fun v w => as_tru v false w
  simp only [Bool.false_eq_true, if_false] at t2
  rcases hop with rfl | rfl | rfl | rfl <;> cases a <;> cases b
  all_goals
    go_enter Try.func126, Try.ntmps126
    go_wp2_with fail
    refine wp_region_eager [0, 1, 2, 3, 4, 5] (fun _ => True) (by kernel_rfl) (by kernel_rfl) rfl trivial ?_
    simp only [List.map_cons, List.map_nil, List.getElem?_toArray, List.getElem?_cons_zero, List.getElem?_cons_succ, Option.getD_some]
    iterate 6 (apply wpL_float rfl rfl; (intro W hW; go_simp; rfl); go_frame)
    refine wpL_nil (fun _ => trivial) ?_
    go_wp2_with fail
    go_ret
    exact ⟨rfl, (Kept.refl _ _).drew⟩
end Go.Proofs.Ytaalpijohdlabaa
