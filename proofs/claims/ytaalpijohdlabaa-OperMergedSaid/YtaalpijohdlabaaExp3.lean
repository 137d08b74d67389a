/-
  Whether an expression may be: may, May.
-/
import Derived.Test.YtaalpijohdlabaaExp2
import Derived.Test.YtaalpijohdlabaaHot
namespace Go.Proofs.Ytaalpijohdlabaa
open Go Go.RowKit
attribute [local irreducible] wpL wpH
theorem rbool {a b : Bool} (h : a = b) : Ending.returned (.bool a) = .returned (.bool b) := by rw [h]
theorem all_take_succ {α : Type} {l : List α} {k : Nat} {x : α} {p : α → Bool} (h : l[k]? = some x) (ht : (l.take k).all p = true) (hx : p x = true) : (l.take (k + 1)).all p = true := by
  rw [List.take_add_one, h, List.all_append, ht]; simp [hx]
theorem all_of_take {α : Type} {l : List α} {k : Nat} {p : α → Bool} (ht : (l.take k).all p = true) (hk : l.length ≤ k) : l.all p = true := by
  rwa [List.take_of_length_le hk] at ht
theorem not_all {α : Type} {l : List α} {k : Nat} {x : α} {p : α → Bool} (h : l[k]? = some x) (hx : p x = false) : l.all p = false := by
  rw [List.all_eq_false]; exact ⟨x, List.mem_of_getElem? h, by simp [hx]⟩
theorem exMay_mk (f : Nat) (x : Ex) : exMay (f + 1) x = (decide (arity x.op = x.args.length) && decide (0 ≤ x.n) && decide (x.n = 0 ∨ x.op = 1) && x.args.all (exMay f)) := by
  cases x; rfl
set_option maxRecDepth 100000 in
set_option maxHeartbeats 1000000 in
theorem may_no (x : Ex) (a : Array Value) (L : Int) (w : World) (hL0 : 0 ≤ L) (hL : L ≤ 16) (h : ExAt w a x)
    (hno : arity x.op ≠ x.args.length ∨ x.n < 0 ∨ 0 < x.n ∧ x.op ≠ 1 ∨ L = 0) : Calls Try.prog 133 #[.agg a, .int .i64 L] w (Gives w (.bool false)) := by
  obtain ⟨p, cap, rfl, h0, h1, h2, h3, h4, h5⟩ := h.parts
  have hk : Kept none' w (w.alloc (.cells #[.int .u8 x.op, .int .i64 x.n, .slice p x.args.length cap] 52)) := (Kept.refl _ _).alloc _
  obtain ⟨W0, hW0⟩ : ∃ W0, w.alloc (.cells #[.int .u8 x.op, .int .i64 x.n, .slice p x.args.length cap] 52) = W0 := ⟨_, rfl⟩
  have d0 : W0.cell? ⟨w.heap.size, 0, none⟩ = some (.int .u8 x.op) := by rw [← hW0]; simp
  have d1 : W0.cell? ⟨w.heap.size, 1, none⟩ = some (.int .i64 x.n) := by rw [← hW0]; simp
  have d2 : W0.cell? ⟨w.heap.size, 2, none⟩ = some (.slice p x.args.length cap) := by rw [← hW0]; simp
  have HK := Lib.hid hk
  have hm : ∀ W, Calls Try.prog 136 #[.int .u8 x.op] W fun e w' => e = .returned (.int .i64 (arity x.op)) ∧ W = w' := many_op x.op h0 h1
  have HM := Lib.hid hm
  have HW0 := Lib.hid hW0
  unfold R64 at h2
  unfold maxLen at h4
  obtain ⟨h2, h2'⟩ := h2
  clear hk h h5 hm hW0
  by_cases c1 : arity x.op = x.args.length
  · have f1 : (arity x.op != (x.args.length : Int)) = false := by rw [c1]; simp
    by_cases c2 : x.n < 0
    · have g2 : decide (x.n < 0) = true := decide_eq_true c2
      clear hno c1
      go_enter Try.func133, Try.ntmps133
      go_wp2_with fail
      rw [HW0.out]
      refine wp_region_eager [0, 1, 3, 4, 5, 2, 6, 7, 8, 9, 10, 11, 12, 13, 14, 15, 16, 17, 18, 19, 20, 21, 22, 23, 24, 25] (fun W => Kept none' W0 W) (by kernel_rfl) (by kernel_rfl) rfl (Kept.refl _ _).drew ?_
      simp only [List.map_cons, List.map_nil, List.getElem?_toArray, List.getElem?_cons_zero, List.getElem?_cons_succ, Option.getD_some]
      iterate 5 (first | (apply wpL_skip rfl; go_frame) | (apply wpL_float rfl rfl; (intro W hW; have z0 := hW.cell (fun h => h) d0; have z1 := hW.cell (fun h => h) d1; have z2 := hW.cell (fun h => h) d2; go_simp; rfl); go_frame))
      apply wpL_loud rfl rfl
      intro K hK
      go_wp2_with fail
      refine (HM.out _).mono ?_
      rintro e w' ⟨rfl, rfl⟩
      go_wp2_with fail
      refine hK _ _ (fun _ => (Kept.refl _ _).drew) ?_
      clear hK
      iterate 20 (first | (apply wpL_skip rfl; go_frame) | (apply wpL_float rfl rfl; (intro W hW; have z0 := hW.cell (fun h => h) d0; have z1 := hW.cell (fun h => h) d1; have z2 := hW.cell (fun h => h) d2; go_simp; rfl); go_frame))
      refine wpL_nil (fun _ => (Kept.refl _ _).drew) ?_
      go_wp2_with fail
      go_ret
      exact ⟨rfl, HK.out.trans (by rw [HW0.out]; exact (Kept.refl _ _).drew)⟩
    · have g2 : decide (x.n < 0) = false := decide_eq_false c2
      by_cases c3 : 0 < x.n
      · have g3 : decide (0 < x.n) = true := decide_eq_true c3
        by_cases c4 : x.op = 1
        · obtain rfl : L = 0 := by
            rcases hno with hn | hn | hn | hn
            · exact absurd c1 hn
            · exact absurd hn c2
            · exact absurd c4 hn.2
            · exact hn
          have f4 : (x.op != 1) = false := by simp [c4]
          have f5 : (x.op == 1) = true := by simp [c4]
          clear c1 c4 hno
          go_enter Try.func133, Try.ntmps133
          go_wp2_with fail
          rw [HW0.out]
          refine wp_region_eager [0, 1, 3, 4, 5, 2, 6, 7, 8, 9, 10, 11, 12, 13, 14, 15, 16, 17, 18, 19, 20, 21, 22, 23, 24, 25] (fun W => Kept none' W0 W) (by kernel_rfl) (by kernel_rfl) rfl (Kept.refl _ _).drew ?_
          simp only [List.map_cons, List.map_nil, List.getElem?_toArray, List.getElem?_cons_zero, List.getElem?_cons_succ, Option.getD_some]
          iterate 5 (first | (apply wpL_skip rfl; go_frame) | (apply wpL_float rfl rfl; (intro W hW; have z0 := hW.cell (fun h => h) d0; have z1 := hW.cell (fun h => h) d1; have z2 := hW.cell (fun h => h) d2; go_simp; rfl); go_frame))
          apply wpL_loud rfl rfl
          intro K hK
          go_wp2_with fail
          refine (HM.out _).mono ?_
          rintro e w' ⟨rfl, rfl⟩
          go_wp2_with fail
          refine hK _ _ (fun _ => (Kept.refl _ _).drew) ?_
          clear hK
          iterate 20 (first | (apply wpL_skip rfl; go_frame) | (apply wpL_float rfl rfl; (intro W hW; have z0 := hW.cell (fun h => h) d0; have z1 := hW.cell (fun h => h) d1; have z2 := hW.cell (fun h => h) d2; go_simp; rfl); go_frame))
          refine wpL_nil (fun _ => (Kept.refl _ _).drew) ?_
          go_wp2_with fail
          go_ret
          exact ⟨rfl, HK.out.trans (by rw [HW0.out]; exact (Kept.refl _ _).drew)⟩
        · have f4 : (x.op != 1) = true := by simp [c4]
          clear c1 c4 hno
          go_enter Try.func133, Try.ntmps133
          go_wp2_with fail
          rw [HW0.out]
          refine wp_region_eager [0, 1, 3, 4, 5, 2, 6, 7, 8, 9, 10, 11, 12, 13, 14, 15, 16, 17, 18, 19, 20, 21, 22, 23, 24, 25] (fun W => Kept none' W0 W) (by kernel_rfl) (by kernel_rfl) rfl (Kept.refl _ _).drew ?_
          simp only [List.map_cons, List.map_nil, List.getElem?_toArray, List.getElem?_cons_zero, List.getElem?_cons_succ, Option.getD_some]
          iterate 5 (first | (apply wpL_skip rfl; go_frame) | (apply wpL_float rfl rfl; (intro W hW; have z0 := hW.cell (fun h => h) d0; have z1 := hW.cell (fun h => h) d1; have z2 := hW.cell (fun h => h) d2; go_simp; rfl); go_frame))
          apply wpL_loud rfl rfl
          intro K hK
          go_wp2_with fail
          refine (HM.out _).mono ?_
          rintro e w' ⟨rfl, rfl⟩
          go_wp2_with fail
          refine hK _ _ (fun _ => (Kept.refl _ _).drew) ?_
          clear hK
          iterate 20 (first | (apply wpL_skip rfl; go_frame) | (apply wpL_float rfl rfl; (intro W hW; have z0 := hW.cell (fun h => h) d0; have z1 := hW.cell (fun h => h) d1; have z2 := hW.cell (fun h => h) d2; go_simp; rfl); go_frame))
          refine wpL_nil (fun _ => (Kept.refl _ _).drew) ?_
          go_wp2_with fail
          go_ret
          exact ⟨rfl, HK.out.trans (by rw [HW0.out]; exact (Kept.refl _ _).drew)⟩
      · obtain rfl : L = 0 := by
          rcases hno with hn | hn | hn | hn
          · exact absurd c1 hn
          · exact absurd hn c2
          · exact absurd hn.1 c3
          · exact hn
        have g3 : decide (0 < x.n) = false := decide_eq_false c3
        clear c1 hno
        go_enter Try.func133, Try.ntmps133
        go_wp2_with fail
        rw [HW0.out]
        refine wp_region_eager [0, 1, 3, 4, 5, 2, 6, 7, 8, 9, 10, 11, 12, 13, 14, 15, 16, 17, 18, 19, 20, 21, 22, 23, 24, 25] (fun W => Kept none' W0 W) (by kernel_rfl) (by kernel_rfl) rfl (Kept.refl _ _).drew ?_
        simp only [List.map_cons, List.map_nil, List.getElem?_toArray, List.getElem?_cons_zero, List.getElem?_cons_succ, Option.getD_some]
        iterate 5 (first | (apply wpL_skip rfl; go_frame) | (apply wpL_float rfl rfl; (intro W hW; have z0 := hW.cell (fun h => h) d0; have z1 := hW.cell (fun h => h) d1; have z2 := hW.cell (fun h => h) d2; go_simp; rfl); go_frame))
        apply wpL_loud rfl rfl
        intro K hK
        go_wp2_with fail
        refine (HM.out _).mono ?_
        rintro e w' ⟨rfl, rfl⟩
        go_wp2_with fail
        refine hK _ _ (fun _ => (Kept.refl _ _).drew) ?_
        clear hK
        iterate 20 (first | (apply wpL_skip rfl; go_frame) | (apply wpL_float rfl rfl; (intro W hW; have z0 := hW.cell (fun h => h) d0; have z1 := hW.cell (fun h => h) d1; have z2 := hW.cell (fun h => h) d2; go_simp; rfl); go_frame))
        refine wpL_nil (fun _ => (Kept.refl _ _).drew) ?_
        go_wp2_with fail
        go_ret
        exact ⟨rfl, HK.out.trans (by rw [HW0.out]; exact (Kept.refl _ _).drew)⟩
  · have f1 : (arity x.op != (x.args.length : Int)) = true := by simp [c1]
    clear c1 hno
    go_enter Try.func133, Try.ntmps133
    go_wp2_with fail
    rw [HW0.out]
    refine wp_region_eager [0, 1, 3, 4, 5, 2, 6, 7, 8, 9, 10, 11, 12, 13, 14, 15, 16, 17, 18, 19, 20, 21, 22, 23, 24, 25] (fun W => Kept none' W0 W) (by kernel_rfl) (by kernel_rfl) rfl (Kept.refl _ _).drew ?_
    simp only [List.map_cons, List.map_nil, List.getElem?_toArray, List.getElem?_cons_zero, List.getElem?_cons_succ, Option.getD_some]
    iterate 5 (first | (apply wpL_skip rfl; go_frame) | (apply wpL_float rfl rfl; (intro W hW; have z0 := hW.cell (fun h => h) d0; have z1 := hW.cell (fun h => h) d1; have z2 := hW.cell (fun h => h) d2; go_simp; rfl); go_frame))
    apply wpL_loud rfl rfl
    intro K hK
    go_wp2_with fail
    refine (HM.out _).mono ?_
    rintro e w' ⟨rfl, rfl⟩
    go_wp2_with fail
    refine hK _ _ (fun _ => (Kept.refl _ _).drew) ?_
    clear hK
    iterate 20 (first | (apply wpL_skip rfl; go_frame) | (apply wpL_float rfl rfl; (intro W hW; have z0 := hW.cell (fun h => h) d0; have z1 := hW.cell (fun h => h) d1; have z2 := hW.cell (fun h => h) d2; go_simp; rfl); go_frame))
    refine wpL_nil (fun _ => (Kept.refl _ _).drew) ?_
    go_wp2_with fail
    go_ret
    exact ⟨rfl, HK.out.trans (by rw [HW0.out]; exact (Kept.refl _ _).drew)⟩
def MayAny (f : Nat) : Prop := ∀ (x : Ex) (a : Array Value) (L : Int) (w : World), L = f → f ≤ 16 → ExAt w a x → Calls Try.prog 133 #[.agg a, .int .i64 L] w (Gives w (.bool (exMay f x)))
set_option maxRecDepth 100000 in
set_option maxHeartbeats 1000000 in
theorem may_yes (f : Nat) (ih : MayAny f) (x : Ex) (a : Array Value) (L : Int) (w : World) (hL : L = ((f + 1 : Nat) : Int)) (hf : f + 1 ≤ 16) (h : ExAt w a x)
    (c1 : arity x.op = x.args.length) (c2 : ¬ x.n < 0) (c3 : ¬ (0 < x.n ∧ x.op ≠ 1)) : Calls Try.prog 133 #[.agg a, .int .i64 L] w (Gives w (.bool (exMay (f + 1) x))) := by
  have hx : exMay (f + 1) x = x.args.all (exMay f) := by
    rw [exMay_mk]
    have e1 : decide (arity x.op = x.args.length) = true := decide_eq_true c1
    have e2 : decide (0 ≤ x.n) = true := decide_eq_true (by omega)
    have e3 : decide (x.n = 0 ∨ x.op = 1) = true := decide_eq_true (by omega)
    rw [e1, e2, e3]; rfl
  rw [hx]
  obtain ⟨p, cap, rfl, h0, h1, h2, h3, h4, h5⟩ := h.parts
  have hk : Kept none' w (w.alloc (.cells #[.int .u8 x.op, .int .i64 x.n, .slice p x.args.length cap] 52)) := (Kept.refl _ _).alloc _
  obtain ⟨W0, hW0⟩ : ∃ W0, w.alloc (.cells #[.int .u8 x.op, .int .i64 x.n, .slice p x.args.length cap] 52) = W0 := ⟨_, rfl⟩
  have d0 : W0.cell? ⟨w.heap.size, 0, none⟩ = some (.int .u8 x.op) := by rw [← hW0]; simp
  have d1 : W0.cell? ⟨w.heap.size, 1, none⟩ = some (.int .i64 x.n) := by rw [← hW0]; simp
  have d2 : W0.cell? ⟨w.heap.size, 2, none⟩ = some (.slice p x.args.length cap) := by rw [← hW0]; simp
  have HK := Lib.hid hk
  have hm : ∀ W, Calls Try.prog 136 #[.int .u8 x.op] W fun e w' => e = .returned (.int .i64 (arity x.op)) ∧ W = w' := many_op x.op h0 h1
  have HM := Lib.hid hm
  have HW0 := Lib.hid hW0
  unfold R64 at h2
  unfold maxLen at h4
  obtain ⟨h2, h2'⟩ := h2
  have f1 : (arity x.op != (x.args.length : Int)) = false := by rw [c1]; simp
  have hL1 : 1 ≤ L := by omega
  have hL2 : L ≤ 16 := by omega
  have f6 : (L == 0) = false := by simp; omega
  have g2 : decide (x.n < 0) = false := decide_eq_false c2
  have IH := Lib.hid ih
  have HL := Lib.hid hL
  have H5 := Lib.hid h5
  clear hk h h5 hm hW0 hx c1 ih hL
  have main : (decide (0 < x.n) = false ∨ decide (0 < x.n) = true ∧ (x.op != 1) = false) → Calls Try.prog 133 #[.agg #[.int .u8 x.op, .int .i64 x.n, .slice p x.args.length cap], .int .i64 L] w (Gives w (.bool (x.args.all (exMay f)))) := by
    rintro (f3 | ⟨f3, f4⟩)
    all_goals
      go_enter Try.func133, Try.ntmps133
      go_wp2_with fail
      rw [HW0.out]
      refine wp_region_eager [0, 1, 3, 4, 5, 2, 6, 7, 8, 9, 10, 11, 12, 13, 14, 15, 16, 17, 18, 19, 20, 21, 22, 23, 24, 25] (fun W => Kept none' W0 W) (by kernel_rfl) (by kernel_rfl) rfl (Kept.refl _ _).drew ?_
      simp only [List.map_cons, List.map_nil, List.getElem?_toArray, List.getElem?_cons_zero, List.getElem?_cons_succ, Option.getD_some]
      iterate 5 (first | (apply wpL_skip rfl; go_frame) | (apply wpL_float rfl rfl; (intro W hW; have z0 := hW.cell (fun h => h) d0; have z1 := hW.cell (fun h => h) d1; have z2 := hW.cell (fun h => h) d2; go_simp; rfl); go_frame))
      apply wpL_loud rfl rfl
      intro K hK
      go_wp2_with fail
      refine (HM.out _).mono ?_
      rintro e w' ⟨rfl, rfl⟩
      go_wp2_with fail
      refine hK _ _ (fun _ => (Kept.refl _ _).drew) ?_
      clear hK
      iterate 20 (first | (apply wpL_skip rfl; go_frame) | (apply wpL_float rfl rfl; (intro W hW; have z0 := hW.cell (fun h => h) d0; have z1 := hW.cell (fun h => h) d1; have z2 := hW.cell (fun h => h) d2; go_simp; rfl); go_frame))
      refine wpL_nil (fun _ => (Kept.refl _ _).drew) ?_
      go_wp2_with fail
      obtain ⟨W1, hW1⟩ : ∃ W1, W0.drew = W1 := ⟨_, rfl⟩
      have k1 : Kept none' W0 W1 := by rw [← hW1]; exact (Kept.refl _ _).drew
      have KK := Lib.hid (HK.out.trans (by rw [HW0.out]; exact k1))
      have HW1 := Lib.hid k1
      rw [hW1]
      clear hW1 k1
      go_loopg [36] x.args.length (fun g vi wr => ∃ k : Nat, k ≤ x.args.length ∧ vi = .int .i64 (k : Int) ∧ x.args.length - k ≤ g ∧ (x.args.take k).all (exMay f) = true ∧ Kept none' W0 wr)
      case atStart => exact ⟨0, by omega, rfl, by omega, by simp, HW1.out⟩
      case round =>
        obtain ⟨k, hkl, rfl, hg, ht, hkp⟩ := hrel
        have HT := Lib.hid (And.intro hg ht)
        clear hg ht
        by_cases hlt : k < x.args.length
        · obtain ⟨y, hy⟩ : ∃ y, x.args[k]? = some y := ⟨_, List.getElem?_eq_getElem hlt⟩
          obtain ⟨b, off, p', cap', rfl, q0, q1, q2, hy2⟩ := H5.out k y hy
          have hW := (HK.out.trans (by rw [HW0.out]; exact hkp) : Kept none' w wr)
          have r0 := hW.cell (p := ⟨b, off + k * 3, none⟩) (fun h => h) q0
          have r1 := hW.cell (p := ⟨b, off + k * 3 + 1, none⟩) (fun h => h) q1
          have r2 := hW.cell (p := ⟨b, off + k * 3 + 2, none⟩) (fun h => h) q2
          have HY := Lib.hid (And.intro hy (ExAt.pure hW hy2))
          have HWW := Lib.hid (And.intro hW hkp)
          clear q0 q1 q2 hy hy2 hW hkp H5
          go_wp2_with fail
          have c := IH.out y _ (L - 1) (wr.alloc (.cells #[.int .u8 y.op, .int .i64 y.n, .slice p' y.args.length cap'] 52)) (by have := HL.out; omega) (by omega) (ExAt.pure ((Kept.refl _ _).alloc _) HY.out.2)
          refine c.mono ?_
          clear c
          rintro e w2 ⟨rfl, k2⟩
          have k3 : Kept none' wr w2 := ((Kept.refl _ _).alloc _).trans k2
          have HK3 := Lib.hid k3
          clear k2 k3
          cases hm : exMay f y with
          | false =>
            have HMy := Lib.hid hm
            clear hm
            go_wp2_with fail
            go_ret
            exact ⟨rbool (not_all HY.out.1 HMy.out).symm, HWW.out.1.trans HK3.out⟩
          | true =>
            have HMy := Lib.hid hm
            clear hm
            go_wp2_with fail
            go_roundg (x.args.length - (k + 1))
            case rel => exact ⟨k + 1, by omega, by go_num, Nat.le_refl _, all_take_succ HY.out.1 HT.out.2 HMy.out, HWW.out.2.trans HK3.out⟩
            case measure => have := HT.out.1; omega
        · go_wp2_with fail
          go_ret
          exact ⟨rbool (all_of_take HT.out.2 (by omega)).symm, HK.out.trans (by rw [HW0.out]; exact hkp)⟩
  clear HM HW0 HK d0 d1 d2
  apply main
  by_cases c4 : 0 < x.n
  · right; refine ⟨decide_eq_true c4, ?_⟩
    have : x.op = 1 := by omega
    simp [this]
  · left; exact decide_eq_false c4
theorem may_any : ∀ f, MayAny f
  | 0 => fun x a L w hL hf h => by
    have := may_no x a L w (by omega) (by omega) h (.inr (.inr (.inr (by omega))))
    exact this
  | f + 1 => fun x a L w hL hf h => by
    by_cases c1 : arity x.op = x.args.length
    · by_cases c2 : x.n < 0
      · have e : exMay (f + 1) x = false := by rw [exMay_mk]; simp; omega
        rw [e]; exact may_no x a L w (by omega) (by omega) h (.inr (.inl c2))
      · by_cases c3 : 0 < x.n ∧ x.op ≠ 1
        · have e : exMay (f + 1) x = false := by rw [exMay_mk]; simp; omega
          rw [e]; exact may_no x a L w (by omega) (by omega) h (.inr (.inr (.inl c3)))
        · exact may_yes f (may_any f) x a L w hL hf h c1 c2 c3
    · have e : exMay (f + 1) x = false := by rw [exMay_mk]; simp [c1]
      rw [e]; exact may_no x a L w (by omega) (by omega) h (.inl c1)
theorem May_any (x : Ex) (a : Array Value) (w : World) (h : ExAt w a x) : Calls Try.prog 122 #[.agg a] w (Gives w (.bool (exMay 16 x))) := by
  obtain ⟨p, cap, rfl, h0, h1, h2, h3, h4, h5⟩ := h.parts
  have H := Lib.hid h
  clear h h5
  go_enter Try.func122, Try.ntmps122
  go_wp2_with fail
  have k1 : Kept none' w (w.alloc (.cells #[.int .u8 x.op, .int .i64 x.n, .slice p x.args.length cap] 52)) := (Kept.refl _ _).alloc _
  refine (may_any 16 x _ 16 _ rfl (Nat.le_refl _) (ExAt.pure k1 H.out)).mono ?_
  rintro e w2 ⟨rfl, k2⟩
  go_wp2_with fail
  go_ret
  exact ⟨rfl, k1.trans k2⟩
end Go.Proofs.Ytaalpijohdlabaa
