/-
  The type of an expression: of, Of.
-/
import Derived.Test.YtaalpijohdlabaaExp5
namespace Go.Proofs.Ytaalpijohdlabaa
open Go Go.RowKit
attribute [local irreducible] wpL
theorem ru8 {a b : Int} (h : a = b) : Ending.returned (.int .u8 a) = .returned (.int .u8 b) := by rw [h]
/-- The types of the first ones. -/
def tyK (f : Nat) (l : List Ex) (k j : Nat) : Int := ((l.take k).map (exTy f)).getD j 0
def tyRow (op : Int) (f : Nat) (l : List Ex) (k : Nat) : Array Value := #[.int .u8 op, .int .u8 (tyK f l k 0), .int .u8 (tyK f l k 1), .int .u8 (tyK f l k 2)]
def TyAny (f : Nat) : Prop := ∀ (x : Ex) (a : Array Value) (m : Nat) (w : World), ExAt w a x → exMay f x = true → RulAt w m rulesL → Calls Try.prog 124 #[.map (some m), .agg a] w (Gives w (.int .u8 (exTy f x)))
theorem exTy_mk (f : Nat) (x : Ex) : exTy (f + 1) x = if (x.args.map (exTy f)).contains 0 then 0 else ruleTy (x.op, (x.args.map (exTy f)).getD 0 0, (x.args.map (exTy f)).getD 1 0, (x.args.map (exTy f)).getD 2 0) := by
  cases x; rfl
theorem arity_le (op : Int) : arity op ≤ 3 := by unfold arity; split <;> (try split) <;> (try split) <;> (try split) <;> omega
theorem cells_at {w : World} {B E : Nat} {f : Nat × Nat} {cs : Array Value} (h : w.heap[B]? = some (.cells cs E f)) {j : Nat} {v : Value} (hj : cs[j]? = some v) : w.cell? ⟨B, j, none⟩ = some v := by
  simp [World.cell?, h, hj]
theorem free_at {w : World} {B E : Nat} {cs : Array Value} (h : w.heap[B]? = some (.cells cs E (0, 0))) (j : Nat) : w.frozen? ⟨B, j, none⟩ = false := by
  simp [World.frozen?, h]
theorem set_at {w : World} {B E : Nat} {f : Nat × Nat} {cs : Array Value} (h : w.heap[B]? = some (.cells cs E f)) (j : Nat) (v : Value) : (w.setCell ⟨B, j, none⟩ v).heap[B]? = some (.cells (cs.setIfInBounds j v) E f) := by
  show (w.heap.modify B _)[B]? = _
  rw [Array.getElem?_modify]
  simp [h]
theorem tyK_succ {f : Nat} {l : List Ex} {k : Nat} {y : Ex} (h : l[k]? = some y) (j : Nat) : tyK f l (k + 1) j = if j = k then exTy f y else tyK f l k j := by
  have hlt := (List.getElem?_eq_some_iff.1 h).1
  unfold tyK
  rw [List.getD_eq_getElem?_getD, List.getD_eq_getElem?_getD, List.getElem?_map, List.getElem?_map, List.getElem?_take, List.getElem?_take]
  by_cases h1 : j = k
  · subst h1
    rw [if_pos (by omega), if_pos rfl, h]; rfl
  · by_cases h2 : j < k
    · rw [if_pos (by omega), if_pos h2, if_neg h1]
    · rw [if_neg (by omega), if_neg h2, if_neg h1]
theorem tyRow_succ {op : Int} {f : Nat} {l : List Ex} {k : Nat} {y : Ex} (h : l[k]? = some y) (hk : k < 3) : (tyRow op f l k).setIfInBounds (1 + k) (.int .u8 (exTy f y)) = tyRow op f l (k + 1) := by
  unfold tyRow
  rw [tyK_succ h, tyK_succ h, tyK_succ h]
  obtain rfl | rfl | rfl : k = 0 ∨ k = 1 ∨ k = 2 := by omega
  all_goals rfl
theorem tyK_end {f : Nat} {l : List Ex} (j : Nat) : tyK f l l.length j = (l.map (exTy f)).getD j 0 := by unfold tyK; rw [List.take_of_length_le (Nat.le_refl _)]
theorem nz_succ {f : Nat} {l : List Ex} {k : Nat} {y : Ex} (h : l[k]? = some y) (h1 : ∀ z ∈ l.take k, exTy f z ≠ 0) (h2 : exTy f y ≠ 0) : ∀ z ∈ l.take (k + 1), exTy f z ≠ 0 := by
  intro z hz
  rw [List.take_add_one, h] at hz
  rcases List.mem_append.1 hz with hz | hz
  · exact h1 z hz
  · simp at hz; subst hz; exact h2
theorem exTy_zero {f : Nat} {x y : Ex} (h : y ∈ x.args) (h0 : exTy f y = 0) : exTy (f + 1) x = 0 := by
  rw [exTy_mk, if_pos]
  simp only [List.contains_eq_mem, List.mem_map, decide_eq_true_eq]
  exact ⟨y, h, h0⟩
theorem exTy_full {f : Nat} {x : Ex} (h : ∀ z ∈ x.args.take x.args.length, exTy f z ≠ 0) : exTy (f + 1) x = ruleTy (x.op, tyK f x.args x.args.length 0, tyK f x.args x.args.length 1, tyK f x.args x.args.length 2) := by
  rw [exTy_mk, if_neg, tyK_end, tyK_end, tyK_end]
  rw [List.take_of_length_le (Nat.le_refl _)] at h
  simp only [List.contains_eq_mem, List.mem_map, decide_eq_true_eq]
  rintro ⟨z, hz, e⟩
  exact h z hz e
set_option maxRecDepth 100000 in
set_option maxHeartbeats 1000000 in
theorem ty_step (f : Nat) (ih : TyAny f) (x : Ex) (a : Array Value) (m : Nat) (w : World) (h : ExAt w a x) (hmay : exMay (f + 1) x = true) (hm : RulAt w m rulesL) : Calls Try.prog 124 #[.map (some m), .agg a] w (Gives w (.int .u8 (exTy (f + 1) x))) := by
  obtain ⟨p, cap, rfl, h0, h1, h2, h3, h4, h5⟩ := h.parts
  have hma : x.args.length ≤ 3 ∧ ∀ y ∈ x.args, exMay f y = true := by
    obtain ⟨op, n, args⟩ := x
    have := exMay_args hmay
    have h3 := arity_le op
    refine ⟨?_, this.2.2.2⟩
    show args.length ≤ 3
    omega
  have hl3 := hma.1
  unfold maxLen at h4
  have H5 := Lib.hid h5
  have HM := Lib.hid hm
  have HA := Lib.hid hma.2
  have IH := Lib.hid ih
  clear h h5 hmay hm ih hma
  go_enter Try.func124, Try.ntmps124
  go_wp2
  obtain ⟨W0, hW0⟩ : ∃ W0, (w.alloc (.cells #[.int .u8 x.op, .int .i64 x.n, .slice p x.args.length cap] 52)).alloc (.cells #[.int .u8 x.op, .int .u8 0, .int .u8 0, .int .u8 0] 176) = W0 := ⟨_, rfl⟩
  have hk0 : Kept none' w W0 := by rw [← hW0]; exact ((Kept.refl _ _).alloc _).alloc _
  have hB : W0.heap[w.heap.size + 1]? = some (.cells (tyRow x.op f x.args 0) 176 (0, 0)) := by
    rw [← hW0]
    have := heap_alloc_new (w.alloc (.cells #[.int .u8 x.op, .int .i64 x.n, .slice p x.args.length cap] 52)) (.cells #[.int .u8 x.op, .int .u8 0, .int .u8 0, .int .u8 0] 176)
    rw [World.size_alloc] at this
    simpa [tyRow, tyK] using this
  have HB := Lib.hid hB
  have K0 := Lib.hid hk0
  rw [hW0]
  clear hW0 hB hk0
  go_loopg [14] x.args.length (fun g vi wr => ∃ k : Nat, k ≤ x.args.length ∧ vi = .int .i64 (k : Int) ∧ x.args.length - k ≤ g ∧ wr.heap[w.heap.size + 1]? = some (.cells (tyRow x.op f x.args k) 176 (0, 0)) ∧ (∀ y ∈ x.args.take k, exTy f y ≠ 0) ∧ Kept none' w wr)
  case atStart => exact ⟨0, by omega, rfl, by omega, HB.out, by simp, K0.out⟩
  case round =>
    obtain ⟨k, hkl, rfl, hg, hrow, hnz, hkp⟩ := hrel
    by_cases hlt : k < x.args.length
    · obtain ⟨y, hy⟩ : ∃ y, x.args[k]? = some y := ⟨_, List.getElem?_eq_getElem hlt⟩
      obtain ⟨b, off, p', cap', rfl, q0, q1, q2, hy2⟩ := H5.out k y hy
      have r0 := hkp.cell (p := ⟨b, off + k * 3, none⟩) (fun h => h) q0
      have r1 := hkp.cell (p := ⟨b, off + k * 3 + 1, none⟩) (fun h => h) q1
      have r2 := hkp.cell (p := ⟨b, off + k * 3 + 2, none⟩) (fun h => h) q2
      have HY := Lib.hid (And.intro hy (ExAt.pure hkp hy2))
      have G := Lib.hid (And.intro hg (And.intro hrow (And.intro hnz hkp)))
      have hk3 : (k : Int) < 3 := by omega
      clear q0 q1 q2 hy hy2 hkp hg hrow hnz H5 HB K0
      go_wp2_with fail
      have ka : Kept none' wr (wr.alloc (.cells #[.int .u8 y.op, .int .i64 y.n, .slice p' y.args.length cap'] 52)) := (Kept.refl _ _).alloc _
      have c := IH.out y _ m _ (ExAt.pure ka HY.out.2) (HA.out y (List.mem_of_getElem? HY.out.1)) (HM.out.kept (G.out.2.2.2.trans ka) (fun h => h))
      (with_reducible refine c.mono ?_)
      clear c
      rintro e w2 ⟨rfl, k2⟩
      have hrow2 := (ka.trans k2).heap G.out.2.1 (fun h => h)
      have fz := free_at hrow2 (1 + k)
      obtain ⟨v0, hv0⟩ : ∃ v0, w2.cell? ⟨w.heap.size + 1, 1 + k, none⟩ = some v0 := by
        obtain hk | hk | hk : k = 0 ∨ k = 1 ∨ k = 2 := by omega
        all_goals (subst hk; exact ⟨_, cells_at hrow2 rfl⟩)
      have hst := set_at hrow2 (1 + k) (.int .u8 (exTy f y))
      rw [tyRow_succ HY.out.1 (by omega)] at hst
      have kst : Kept none' w (w2.setCell ⟨w.heap.size + 1, 1 + k, none⟩ (.int .u8 (exTy f y))) := (G.out.2.2.2.trans (ka.trans k2)).setCell (p := ⟨w.heap.size + 1, 1 + k, none⟩) (.inr (by simp)) _
      have HR := Lib.hid (And.intro hst kst)
      clear k2 ka hrow2 hst kst
      by_cases hz : exTy f y = 0
      · have hz' : (exTy f y == 0) = true := by simp [hz]
        have HZ := Lib.hid hz
        clear hz
        go_wp2_with fail
        go_ret
        exact ⟨ru8 (exTy_zero (List.mem_of_getElem? HY.out.1) HZ.out).symm, HR.out.2⟩
      · have hz' : (exTy f y == 0) = false := by simp [hz]
        have HZ := Lib.hid hz
        clear hz
        go_wp2_with fail
        go_roundg (x.args.length - (k + 1))
        case rel => exact ⟨k + 1, by omega, by go_num, Nat.le_refl _, HR.out.1, nz_succ HY.out.1 G.out.2.2.1 HZ.out, HR.out.2⟩
        case measure => have := G.out.1; omega
    · have hkl : k = x.args.length := by omega
      subst hkl
      have e0 : wr.cell? ⟨w.heap.size + 1, 0, none⟩ = some (.int .u8 x.op) := cells_at hrow rfl
      have e1 : wr.cell? ⟨w.heap.size + 1, 1, none⟩ = some (.int .u8 (tyK f x.args x.args.length 0)) := cells_at hrow rfl
      have e2 : wr.cell? ⟨w.heap.size + 1, 2, none⟩ = some (.int .u8 (tyK f x.args x.args.length 1)) := cells_at hrow rfl
      have e3 : wr.cell? ⟨w.heap.size + 1, 3, none⟩ = some (.int .u8 (tyK f x.args x.args.length 2)) := cells_at hrow rfl
      have hlk := (HM.out.kept hkp (fun h => h)).lookup (x.op, tyK f x.args x.args.length 0, tyK f x.args x.args.length 1, tyK f x.args x.args.length 2)
      unfold keyV at hlk
      simp only [] at hlk
      have G := Lib.hid (And.intro hnz hkp)
      clear hnz hkp hrow hg
      go_wp2_with fail
      go_ret
      exact ⟨ru8 (exTy_full G.out.1).symm, G.out.2⟩
theorem ty_any : ∀ f, TyAny f
  | 0 => fun x a m w h hm _ => by cases x; cases hm
  | f + 1 => fun x a m w h hm hr => ty_step f (ty_any f) x a m w h hm hr
end Go.Proofs.Ytaalpijohdlabaa
