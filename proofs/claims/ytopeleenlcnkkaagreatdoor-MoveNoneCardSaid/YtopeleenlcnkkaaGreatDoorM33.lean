/-
  job: may.
-/
import Derived.Test.YtopeleenlcnkkaaGreatDoorM16
import Derived.Test.YtopeleenlcnkkaaGreatDoorM32
import Derived.Test.YtopeleenlcnkkaaGreatDoorM18
import Derived.Test.YtopeleenlcnkkaaGreatDoorM21
set_option linter.unusedVariables false
set_option linter.unusedSimpArgs false
namespace Go.Proofs.YtopeleenlcnkkaaGreatDoor
open Go Go.RowKit
attribute [local irreducible] wpL wpTr
theorem rule_at (k : Int) (h1 : 1 ≤ k) (h2 : k ≤ 9) (w : World) : (Instr.index 175 (.agg jrulesC) (.int .u8 k)).run Tryz.prog w = .ok (.agg (ruleV (jLeast k) (jMost k) (jTy k) (jAcc k) (jN k)).toArray) w := by
  have hk : k = 1 ∨ k = 2 ∨ k = 3 ∨ k = 4 ∨ k = 5 ∨ k = 6 ∨ k = 7 ∨ k = 8 ∨ k = 9 := by omega
  rcases hk with h | h | h | h | h | h | h | h | h
  all_goals (subst h; clear h1 h2; apply Eq.symm; apply Eq.symm; kernel_rfl)
/-- A rule's cells in block B. -/
structure RuleCells (w : World) (B : Nat) (L M : Int) (t : Int) (c : Bool) (N : Int) : Prop where
  r0 : w.cell? ⟨B, 0, none⟩ = some (.int .i64 L)
  r1 : w.cell? ⟨B, 1, none⟩ = some (.int .i64 M)
  r2 : w.cell? ⟨B, 2, none⟩ = some (.int .u8 t)
  r3 : w.cell? ⟨B, 3, none⟩ = some (.bool c)
  r4 : w.cell? ⟨B, 4, none⟩ = some (.int .i64 N)
theorem RuleCells.of {w : World} {B E : Nat} {L M t N : Int} {c : Bool} (h : w.heap[B]? = some (.cells #[.int .i64 L, .int .i64 M, .int .u8 t, .bool c, .int .i64 N] E (0, 0))) : RuleCells w B L M t c N :=
  ⟨cells_at h rfl, cells_at h rfl, cells_at h rfl, cells_at h rfl, cells_at h rfl⟩
theorem RuleCells.pure {w w' : World} {B : Nat} {L M t N : Int} {c : Bool} (h : RuleCells w B L M t c N) (hk : Kept none' w w') : RuleCells w' B L M t c N :=
  ⟨hk.cell (fun h => h) h.r0, hk.cell (fun h => h) h.r1, hk.cell (fun h => h) h.r2, hk.cell (fun h => h) h.r3, hk.cell (fun h => h) h.r4⟩
theorem set5 {w : World} {B E : Nat} {a b c d e a' b' c' d' e' : Value} (h : w.heap[B]? = some (.cells #[a, b, c, d, e] E (0, 0))) :
    (((((w.setCell ⟨B, 0, none⟩ a').setCell ⟨B, 1, none⟩ b').setCell ⟨B, 2, none⟩ c').setCell ⟨B, 3, none⟩ d').setCell ⟨B, 4, none⟩ e').heap[B]? = some (.cells #[a', b', c', d', e'] E (0, 0)) := by
  have h1 := set_at h 0 a'
  have h2 := set_at h1 1 b'
  have h3 := set_at h2 2 c'
  have h4 := set_at h3 3 d'
  have h5 := set_at h4 4 e'
  simpa using h5
/-- Where may stands behind its rule. -/
theorem kept5 {w0 w : World} {B : Nat} {a b c d e : Value} (h : Kept none' w0 w) (hB : w0.heap.size ≤ B) :
    Kept none' w0 (((((w.setCell ⟨B, 0, none⟩ a).setCell ⟨B, 1, none⟩ b).setCell ⟨B, 2, none⟩ c).setCell ⟨B, 3, none⟩ d).setCell ⟨B, 4, none⟩ e) :=
  ((((h.setCell (p := ⟨B, 0, none⟩) (.inr hB) _).setCell (p := ⟨B, 1, none⟩) (.inr hB) _).setCell (p := ⟨B, 2, none⟩) (.inr hB) _).setCell (p := ⟨B, 3, none⟩) (.inr hB) _).setCell (p := ⟨B, 4, none⟩) (.inr hB) _
set_option maxRecDepth 100000 in
set_option maxHeartbeats 1000000 in
theorem may_node (d : JN) (a : Array Value) (at_ : Nat) (w : World) (h : JNAt w a d) (hat : at_ ≤ 1000) : Calls Tryz.prog 66 #[.agg a, .int .i64 (at_ : Int)] w (Gives w (.bool (mayN at_ d))) := by
  have h0 := h
  obtain ⟨pi, ci, p, cap, rfl, h1, h2, h3, h4, h5, h6, h7⟩ := h0
  have H := Lib.hid (And.intro h1 (And.intro h2 h7))
  clear h1 h2 h3 h h7
  go_enter Tryz.func66, Tryz.ntmps66
  go_wp2_with fail
  obtain ⟨W0, hW0⟩ : ∃ W0, (w.alloc (.cells (jnC d pi ci p cap) 97)).alloc (.cells #[.int .i64 (at_ : Int)] 3) = W0 := ⟨_, rfl⟩
  have k0 : Kept none' w W0 := by rw [← hW0]; exact ((Kept.refl _ _).alloc _).alloc _
  have kA : Kept none' (w.alloc (.cells (jnC d pi ci p cap) 97)) W0 := by rw [← hW0]; exact (Kept.refl _ _).alloc _
  have c0 : W0.cell? ⟨w.heap.size, 0, none⟩ = some (.string d.uid) := kA.cell (fun h => h) (by simp)
  have c1 : W0.cell? ⟨w.heap.size, 1, none⟩ = some (.int .u8 d.kind) := kA.cell (fun h => h) (by simp)
  have c2 : W0.cell? ⟨w.heap.size, 2, none⟩ = some (.slice pi d.ins.length ci) := kA.cell (fun h => h) (by simp)
  have c3 : W0.cell? ⟨w.heap.size, 3, none⟩ = some (.int .u8 d.x.op) := kA.cell (fun h => h) (by simp)
  have c4 : W0.cell? ⟨w.heap.size, 4, none⟩ = some (.int .i64 d.x.n) := kA.cell (fun h => h) (by simp)
  have c5 : W0.cell? ⟨w.heap.size, 5, none⟩ = some (.slice p d.x.args.length cap) := kA.cell (fun h => h) (by simp)
  have c6 : W0.cell? ⟨w.heap.size, 6, none⟩ = some (.int .i64 d.n) := kA.cell (fun h => h) (by simp)
  have e0 : W0.cell? ⟨w.heap.size + 1, 0, none⟩ = some (.int .i64 (at_ : Int)) := by rw [← hW0]; simp
  rw [hW0]
  have K0 := Lib.hid k0
  clear hW0 k0 kA
  (with_reducible refine (name_any d.uid H.out.2.2 W0).mono ?_)
  rintro e W1 ⟨rfl, k1⟩
  have c0 := k1.cell (p := ⟨w.heap.size, 0, none⟩) (fun h => h) c0
  have c1 := k1.cell (p := ⟨w.heap.size, 1, none⟩) (fun h => h) c1
  have c2 := k1.cell (p := ⟨w.heap.size, 2, none⟩) (fun h => h) c2
  have c3 := k1.cell (p := ⟨w.heap.size, 3, none⟩) (fun h => h) c3
  have c4 := k1.cell (p := ⟨w.heap.size, 4, none⟩) (fun h => h) c4
  have c5 := k1.cell (p := ⟨w.heap.size, 5, none⟩) (fun h => h) c5
  have c6 := k1.cell (p := ⟨w.heap.size, 6, none⟩) (fun h => h) c6
  have e0 := k1.cell (p := ⟨w.heap.size + 1, 0, none⟩) (fun h => h) e0
  have K1 := Lib.hid (K0.out.trans k1)
  clear k1
  have HM := Lib.hid (show mayN at_ d = mayP (nameOk d.uid) d.kind d.ins.length (goodIns d.ins at_) (exNone d.x) (fun acc ty => exIs d.x acc ty) d.n from rfl)
  cases hn : nameOk d.uid with
  | false =>
    rw [hn] at HM
    clear hn
    go_wp2_with fail
    go_ret
    exact ⟨rbool (by rw [HM.out]; rfl), K1.out⟩
  | true =>
    rw [hn] at HM
    clear hn
    by_cases hk : d.kind < 1 ∨ 9 < d.kind
    · have F := Lib.hid (show mayN at_ d = false by rw [HM.out]; unfold mayP; rw [if_pos (.inr hk)])
      rcases hk with hk | hk
      · go_wp2_with fail
        go_ret
        exact ⟨rbool (by rw [F.out]), K1.out⟩
      · go_wp2_with fail
        go_ret
        exact ⟨rbool (by rw [F.out]), K1.out⟩
    · have hk1 : 1 ≤ d.kind := by omega
      have hk2 : d.kind ≤ 9 := by omega
      have hidx := fun W => rule_at d.kind hk1 hk2 W
      clear hk
      have hrv : (ruleV (jLeast d.kind) (jMost d.kind) (jTy d.kind) (jAcc d.kind) (jN d.kind)).toArray = #[.int .i64 (jLeast d.kind : Int), .int .i64 (jMost d.kind : Int), .int .u8 (jTy d.kind), .bool (jAcc d.kind), .int .i64 (jN d.kind)] := rfl
      rw [hrv] at hidx
      have hjr := fun W => jrules_any W
      go_wp2_with fail
      refine wp_region_tree (fun W => Kept none' W1 W) (by kernel_rfl) (by kernel_rfl) (Kept.refl _ _).drew ?_
      refine wpTr_float (k := 1) (by kernel_rfl) rfl rfl (fun W hW => by go_simp; rfl) ?_
      go_frame
      refine wpTr_float (k := 2) (by kernel_rfl) rfl rfl (fun W hW => by have z1 := hW.cell (fun h => h) c1; go_simp; rfl) ?_
      go_frame
      refine wpTr_two (i := 0) (k := 4) (by kernel_rfl) (by kernel_rfl) rfl rfl rfl rfl ?_ ?_
      · intro K hK
        go_wp2_with fail
        refine (hjr _).mono ?_
        rintro e W2 ⟨rfl, k2, s2⟩
        go_wp2_with fail
        refine hK _ _ k2.drew_left ?_
        clear hK
        refine wpTr_float (k := 3) (by kernel_rfl) rfl rfl (fun W hW => by go_simp; rfl) ?_
        go_frame
        refine wpTr_loud (k := 4) (by kernel_rfl) (by kernel_rfl) rfl rfl ?_
        intro K hK
        go_wp2_with fail
        refine hK _ _ (k2.drew_left.alloc _) ?_
        clear hK
        refine wpTr_loud (k := 5) (by kernel_rfl) (by kernel_rfl) rfl rfl ?_
        intro K hK
        go_wp2_with fail
        have kW : Kept none' W1 (W2.alloc (.cells #[.int .i64 (jLeast d.kind : Int), .int .i64 (jMost d.kind : Int), .int .u8 (jTy d.kind), .bool (jAcc d.kind), .int .i64 (jN d.kind)] 174)) := k2.drew_left.alloc _
        have hR := RuleCells.of (heap_alloc_new W2 (.cells #[.int .i64 (jLeast d.kind : Int), .int .i64 (jMost d.kind : Int), .int .u8 (jTy d.kind), .bool (jAcc d.kind), .int .i64 (jN d.kind)] 174))
        have hs2 : W2.heap.size = W1.heap.size + 1 := s2
        rw [hs2] at hR
        refine hK _ _ kW ?_
        clear hK
        refine wpTr_nil (by kernel_rfl) kW ?_
        generalize (W2.alloc (.cells #[.int .i64 (jLeast d.kind : Int), .int .i64 (jMost d.kind : Int), .int .u8 (jTy d.kind), .bool (jAcc d.kind), .int .i64 (jN d.kind)] 174)) = W3 at *
        generalize W1.heap.size + 1 = B at *
        have K3 := Lib.hid (K1.out.trans kW)
        have c0 := kW.cell (p := ⟨w.heap.size, 0, none⟩) (fun h => h) c0
        have c1 := kW.cell (p := ⟨w.heap.size, 1, none⟩) (fun h => h) c1
        have c2 := kW.cell (p := ⟨w.heap.size, 2, none⟩) (fun h => h) c2
        have c3 := kW.cell (p := ⟨w.heap.size, 3, none⟩) (fun h => h) c3
        have c4 := kW.cell (p := ⟨w.heap.size, 4, none⟩) (fun h => h) c4
        have c5 := kW.cell (p := ⟨w.heap.size, 5, none⟩) (fun h => h) c5
        have c6 := kW.cell (p := ⟨w.heap.size, 6, none⟩) (fun h => h) c6
        have e0 := kW.cell (p := ⟨w.heap.size + 1, 0, none⟩) (fun h => h) e0
        have HM2 : mayN at_ d = (if d.ins.length < jLeast d.kind ∨ jMost d.kind < d.ins.length ∨ goodIns d.ins at_ = false then false else if d.n < min (jN d.kind) 1 ∨ jN d.kind < d.n then false else if jTy d.kind = 0 then exNone d.x else exIs d.x (jAcc d.kind) (jTy d.kind)) := by
          rw [HM.out]; unfold mayP; rw [if_neg (by simp; omega)]
        have HM2 := Lib.hid HM2
        generalize jLeast d.kind = L at *
        generalize jMost d.kind = M at *
        generalize jTy d.kind = ty at *
        generalize jAcc d.kind = ac at *
        generalize jN d.kind = N at *
        obtain ⟨r0, r1, r2, r3, r4⟩ := hR
        clear kW hidx hrv hjr HM k2 s2
        by_cases b1 : d.ins.length < L
        · have F := Lib.hid (show mayN at_ d = false by rw [HM2.out, if_pos (.inl b1)])
          clear HM2
          go_wp2_with fail
          go_ret
          exact ⟨rbool (by rw [F.out]), K3.out⟩
        · by_cases b2 : M < d.ins.length
          · have F := Lib.hid (show mayN at_ d = false by rw [HM2.out, if_pos (.inr (.inl b2))])
            clear HM2
            go_wp2_with fail
            go_ret
            exact ⟨rbool (by rw [F.out]), K3.out⟩
          · have ct := twiceI_any _ d.ins W3 (H.out.2.1.pure K3.out)
            have cf := containsFuncI_any _ d.ins (at_ : Int) (w.heap.size + 1) W3 (H.out.2.1.pure K3.out) e0
            have hg : goodIns d.ins at_ = (decide d.ins.Nodup && !(d.ins.any (outB (at_ : Int)))) := by
              unfold goodIns
              rw [List.not_any_eq_all_not]
              congr 2
              funext k
              unfold outB
              simp
            have HG := Lib.hid hg
            clear hg
            generalize decide d.ins.Nodup = bn at *
            generalize d.ins.any (outB (at_ : Int)) = bo at *
            cases bn with
            | false =>
              have F := Lib.hid (show mayN at_ d = false by rw [HM2.out, if_pos (.inr (.inr (by rw [HG.out]; rfl)))])
              clear HM2
              go_wp2_with (go_at_call 103; refine ct.mono ?_; rintro e w' ⟨rfl, rfl⟩)
              go_ret
              exact ⟨rbool (by rw [F.out]), K3.out⟩
            | true =>
              cases bo with
              | true =>
                have F := Lib.hid (show mayN at_ d = false by rw [HM2.out, if_pos (.inr (.inr (by rw [HG.out]; rfl)))])
                clear HM2
                go_wp2_with (first | (go_at_call 103; refine ct.mono ?_; rintro e w' ⟨rfl, rfl⟩) | (go_at_call 104; refine cf.mono ?_; rintro e w' ⟨rfl, rfl⟩))
                go_ret
                exact ⟨rbool (by rw [F.out]), K3.out⟩
              | false =>
                have HM3 := Lib.hid (show mayN at_ d = (if d.n < min N 1 ∨ N < d.n then false else if ty = 0 then exNone d.x else exIs d.x ac ty) by
                  rw [HM2.out, if_neg (by rw [HG.out]; simp; omega)])
                clear HM2 HG
                by_cases b3 : d.n < min N 1
                · have F := Lib.hid (show mayN at_ d = false by rw [HM3.out, if_pos (.inl b3)])
                  clear HM3
                  go_wp2_with (first | (go_at_call 103; refine ct.mono ?_; rintro e w' ⟨rfl, rfl⟩) | (go_at_call 104; refine cf.mono ?_; rintro e w' ⟨rfl, rfl⟩))
                  go_ret
                  exact ⟨rbool (by rw [F.out]), K3.out⟩
                · by_cases b4 : N < d.n
                  · have F := Lib.hid (show mayN at_ d = false by rw [HM3.out, if_pos (.inr b4)])
                    clear HM3
                    go_wp2_with (first | (go_at_call 103; refine ct.mono ?_; rintro e w' ⟨rfl, rfl⟩) | (go_at_call 104; refine cf.mono ?_; rintro e w' ⟨rfl, rfl⟩))
                    go_ret
                    exact ⟨rbool (by rw [F.out]), K3.out⟩
                  · by_cases b5 : ty = 0
                    · subst b5
                      have F := Lib.hid (show mayN at_ d = exNone d.x by rw [HM3.out, if_neg (by omega), if_pos rfl])
                      have cs := same0_any d.x _ W3 (ExAt.pure K3.out H.out.1)
                      clear HM3
                      go_wp2_with (first | (go_at_call 103; refine ct.mono ?_; rintro e w' ⟨rfl, rfl⟩) | (go_at_call 104; refine cf.mono ?_; rintro e w' ⟨rfl, rfl⟩))
                      (with_reducible refine cs.mono ?_)
                      rintro e W4 ⟨rfl, k4⟩
                      have K4 := Lib.hid (K3.out.trans k4)
                      clear k4
                      go_wp2_with fail
                      go_ret
                      exact ⟨rbool (by rw [F.out]), K4.out⟩
                    · have F := Lib.hid (show mayN at_ d = exIs d.x ac ty by rw [HM3.out, if_neg (by omega), if_neg b5])
                      have ci := is_any d.x ac ty _ W3 (ExAt.pure K3.out H.out.1)
                      have hb : (ty == 0) = false := by simp [b5]
                      clear HM3
                      go_wp2_with (first | (go_at_call 103; refine ct.mono ?_; rintro e w' ⟨rfl, rfl⟩) | (go_at_call 104; refine cf.mono ?_; rintro e w' ⟨rfl, rfl⟩))
                      (with_reducible refine ci.mono ?_)
                      rintro e W4 ⟨rfl, k4⟩
                      have K4 := Lib.hid (K3.out.trans k4)
                      clear k4
                      go_wp2_with fail
                      go_ret
                      exact ⟨rbool (by rw [F.out]), K4.out⟩
      · intro K hK
        go_wp2_with fail
        refine hK _ _ ((Kept.refl _ _).drew.alloc _) ?_
        clear hK
        refine wpTr_loud (k := 0) (by kernel_rfl) (by kernel_rfl) rfl rfl ?_
        intro K hK
        go_wp2_with fail
        refine (hjr _).mono ?_
        rintro e W2 ⟨rfl, k2, s2⟩
        go_wp2_with fail
        refine hK _ _ (((Kept.refl _ _).drew.alloc _).trans k2) ?_
        clear hK
        refine wpTr_float (k := 3) (by kernel_rfl) rfl rfl (fun W hW => by go_simp; rfl) ?_
        go_frame
        have hB : W2.heap[W1.heap.size]? = some (.cells #[.int .i64 0, .int .i64 0, .int .u8 0, .bool false, .int .i64 0] 174 (0, 0)) := k2.heap (heap_alloc_new W1.drew (.cells #[.int .i64 0, .int .i64 0, .int .u8 0, .bool false, .int .i64 0] 174)) (fun h => h)
        have z0 : W2.cell? ⟨W1.heap.size, 0, none⟩ = some (.int .i64 0) := cells_at hB rfl
        have z1 : W2.cell? ⟨W1.heap.size, 1, none⟩ = some (.int .i64 0) := cells_at hB rfl
        have z2 : W2.cell? ⟨W1.heap.size, 2, none⟩ = some (.int .u8 0) := cells_at hB rfl
        have z3 : W2.cell? ⟨W1.heap.size, 3, none⟩ = some (.bool false) := cells_at hB rfl
        have z4 : W2.cell? ⟨W1.heap.size, 4, none⟩ = some (.int .i64 0) := cells_at hB rfl
        have f0 := free_at hB 0
        have f1 := free_at hB 1
        have f2 := free_at hB 2
        have f3 := free_at hB 3
        have f4 := free_at hB 4
        have kW := kept5 (a := .int .i64 (jLeast d.kind : Int)) (b := .int .i64 (jMost d.kind : Int)) (c := .int .u8 (jTy d.kind)) (d := .bool (jAcc d.kind)) (e := .int .i64 (jN d.kind)) (((Kept.refl none' W1).drew.alloc (.cells #[.int .i64 0, .int .i64 0, .int .u8 0, .bool false, .int .i64 0] 174)).trans k2) (Nat.le_refl _)
        have hR := RuleCells.of (set5 (a' := .int .i64 (jLeast d.kind : Int)) (b' := .int .i64 (jMost d.kind : Int)) (c' := .int .u8 (jTy d.kind)) (d' := .bool (jAcc d.kind)) (e' := .int .i64 (jN d.kind)) hB)
        have KW := Lib.hid kW
        have HR := Lib.hid hR
        clear kW hR hB
        refine wpTr_loud (k := 5) (by kernel_rfl) (by kernel_rfl) rfl rfl ?_
        intro K hK
        go_wp2_with fail
        refine hK _ _ KW.out ?_
        clear hK
        refine wpTr_nil (by kernel_rfl) KW.out ?_
        have kW := KW.out
        have hR := HR.out
        clear KW HR z0 z1 z2 z3 z4 f0 f1 f2 f3 f4
        generalize (((((W2.setCell ⟨W1.heap.size, 0, none⟩ (.int .i64 (jLeast d.kind : Int))).setCell ⟨W1.heap.size, 1, none⟩ (.int .i64 (jMost d.kind : Int))).setCell ⟨W1.heap.size, 2, none⟩ (.int .u8 (jTy d.kind))).setCell ⟨W1.heap.size, 3, none⟩ (.bool (jAcc d.kind))).setCell ⟨W1.heap.size, 4, none⟩ (.int .i64 (jN d.kind))) = W3 at *
        have K3 := Lib.hid (K1.out.trans kW)
        have c0 := kW.cell (p := ⟨w.heap.size, 0, none⟩) (fun h => h) c0
        have c1 := kW.cell (p := ⟨w.heap.size, 1, none⟩) (fun h => h) c1
        have c2 := kW.cell (p := ⟨w.heap.size, 2, none⟩) (fun h => h) c2
        have c3 := kW.cell (p := ⟨w.heap.size, 3, none⟩) (fun h => h) c3
        have c4 := kW.cell (p := ⟨w.heap.size, 4, none⟩) (fun h => h) c4
        have c5 := kW.cell (p := ⟨w.heap.size, 5, none⟩) (fun h => h) c5
        have c6 := kW.cell (p := ⟨w.heap.size, 6, none⟩) (fun h => h) c6
        have e0 := kW.cell (p := ⟨w.heap.size + 1, 0, none⟩) (fun h => h) e0
        have HM2 : mayN at_ d = (if d.ins.length < jLeast d.kind ∨ jMost d.kind < d.ins.length ∨ goodIns d.ins at_ = false then false else if d.n < min (jN d.kind) 1 ∨ jN d.kind < d.n then false else if jTy d.kind = 0 then exNone d.x else exIs d.x (jAcc d.kind) (jTy d.kind)) := by
          rw [HM.out]; unfold mayP; rw [if_neg (by simp; omega)]
        have HM2 := Lib.hid HM2
        generalize jLeast d.kind = L at *
        generalize jMost d.kind = M at *
        generalize jTy d.kind = ty at *
        generalize jAcc d.kind = ac at *
        generalize jN d.kind = N at *
        obtain ⟨r0, r1, r2, r3, r4⟩ := hR
        clear kW hidx hrv hjr HM k2 s2
        by_cases b1 : d.ins.length < L
        · have F := Lib.hid (show mayN at_ d = false by rw [HM2.out, if_pos (.inl b1)])
          clear HM2
          go_wp2_with fail
          go_ret
          exact ⟨rbool (by rw [F.out]), K3.out⟩
        · by_cases b2 : M < d.ins.length
          · have F := Lib.hid (show mayN at_ d = false by rw [HM2.out, if_pos (.inr (.inl b2))])
            clear HM2
            go_wp2_with fail
            go_ret
            exact ⟨rbool (by rw [F.out]), K3.out⟩
          · have ct := twiceI_any _ d.ins W3 (H.out.2.1.pure K3.out)
            have cf := containsFuncI_any _ d.ins (at_ : Int) (w.heap.size + 1) W3 (H.out.2.1.pure K3.out) e0
            have hg : goodIns d.ins at_ = (decide d.ins.Nodup && !(d.ins.any (outB (at_ : Int)))) := by
              unfold goodIns
              rw [List.not_any_eq_all_not]
              congr 2
              funext k
              unfold outB
              simp
            have HG := Lib.hid hg
            clear hg
            generalize decide d.ins.Nodup = bn at *
            generalize d.ins.any (outB (at_ : Int)) = bo at *
            cases bn with
            | false =>
              have F := Lib.hid (show mayN at_ d = false by rw [HM2.out, if_pos (.inr (.inr (by rw [HG.out]; rfl)))])
              clear HM2
              go_wp2_with (go_at_call 103; refine ct.mono ?_; rintro e w' ⟨rfl, rfl⟩)
              go_ret
              exact ⟨rbool (by rw [F.out]), K3.out⟩
            | true =>
              cases bo with
              | true =>
                have F := Lib.hid (show mayN at_ d = false by rw [HM2.out, if_pos (.inr (.inr (by rw [HG.out]; rfl)))])
                clear HM2
                go_wp2_with (first | (go_at_call 103; refine ct.mono ?_; rintro e w' ⟨rfl, rfl⟩) | (go_at_call 104; refine cf.mono ?_; rintro e w' ⟨rfl, rfl⟩))
                go_ret
                exact ⟨rbool (by rw [F.out]), K3.out⟩
              | false =>
                have HM3 := Lib.hid (show mayN at_ d = (if d.n < min N 1 ∨ N < d.n then false else if ty = 0 then exNone d.x else exIs d.x ac ty) by
                  rw [HM2.out, if_neg (by rw [HG.out]; simp; omega)])
                clear HM2 HG
                by_cases b3 : d.n < min N 1
                · have F := Lib.hid (show mayN at_ d = false by rw [HM3.out, if_pos (.inl b3)])
                  clear HM3
                  go_wp2_with (first | (go_at_call 103; refine ct.mono ?_; rintro e w' ⟨rfl, rfl⟩) | (go_at_call 104; refine cf.mono ?_; rintro e w' ⟨rfl, rfl⟩))
                  go_ret
                  exact ⟨rbool (by rw [F.out]), K3.out⟩
                · by_cases b4 : N < d.n
                  · have F := Lib.hid (show mayN at_ d = false by rw [HM3.out, if_pos (.inr b4)])
                    clear HM3
                    go_wp2_with (first | (go_at_call 103; refine ct.mono ?_; rintro e w' ⟨rfl, rfl⟩) | (go_at_call 104; refine cf.mono ?_; rintro e w' ⟨rfl, rfl⟩))
                    go_ret
                    exact ⟨rbool (by rw [F.out]), K3.out⟩
                  · by_cases b5 : ty = 0
                    · subst b5
                      have F := Lib.hid (show mayN at_ d = exNone d.x by rw [HM3.out, if_neg (by omega), if_pos rfl])
                      have cs := same0_any d.x _ W3 (ExAt.pure K3.out H.out.1)
                      clear HM3
                      go_wp2_with (first | (go_at_call 103; refine ct.mono ?_; rintro e w' ⟨rfl, rfl⟩) | (go_at_call 104; refine cf.mono ?_; rintro e w' ⟨rfl, rfl⟩))
                      (with_reducible refine cs.mono ?_)
                      rintro e W4 ⟨rfl, k4⟩
                      have K4 := Lib.hid (K3.out.trans k4)
                      clear k4
                      go_wp2_with fail
                      go_ret
                      exact ⟨rbool (by rw [F.out]), K4.out⟩
                    · have F := Lib.hid (show mayN at_ d = exIs d.x ac ty by rw [HM3.out, if_neg (by omega), if_neg b5])
                      have ci := is_any d.x ac ty _ W3 (ExAt.pure K3.out H.out.1)
                      have hb : (ty == 0) = false := by simp [b5]
                      clear HM3
                      go_wp2_with (first | (go_at_call 103; refine ct.mono ?_; rintro e w' ⟨rfl, rfl⟩) | (go_at_call 104; refine cf.mono ?_; rintro e w' ⟨rfl, rfl⟩))
                      (with_reducible refine ci.mono ?_)
                      rintro e W4 ⟨rfl, k4⟩
                      have K4 := Lib.hid (K3.out.trans k4)
                      clear k4
                      go_wp2_with fail
                      go_ret
                      exact ⟨rbool (by rw [F.out]), K4.out⟩
end Go.Proofs.YtopeleenlcnkkaaGreatDoor
