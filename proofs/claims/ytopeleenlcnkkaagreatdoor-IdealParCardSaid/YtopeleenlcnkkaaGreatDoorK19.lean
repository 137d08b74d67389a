/-
  slices.Equal, slices.Index, slices.Contains over records.
-/
import Derived.Test.YtopeleenlcnkkaaGreatDoorK12
import Derived.Test.YtopeleenlcnkkaaGreatDoorK06
set_option linter.unusedVariables false
set_option linter.unusedSimpArgs false
namespace Go.Proofs.YtopeleenlcnkkaaGreatDoor
open Go Go.RowKit
attribute [local irreducible] wpL wpH
def eqR (xs ys : List Rec) : Bool := decide (xs = ys)
theorem takeR_succ {xs ys : List Rec} {k : Nat} {x y : Rec} (h : xs.take k = ys.take k) (hx : xs[k]? = some x) (hy : ys[k]? = some y) (e : x = y) : xs.take (k + 1) = ys.take (k + 1) := by
  rw [List.take_add_one, List.take_add_one, h, hx, hy, e]
theorem eqR_len {xs ys : List Rec} (h : xs.length ≠ ys.length) : eqR xs ys = false := decide_eq_false (fun e => h (by rw [e]))
theorem eqR_at {xs ys : List Rec} {k : Nat} {x y : Rec} (hx : xs[k]? = some x) (hy : ys[k]? = some y) (h : x ≠ y) : eqR xs ys = false :=
  decide_eq_false (fun e => by rw [e, hy] at hx; cases hx; exact h rfl)
theorem eqR_full {xs ys : List Rec} {k : Nat} (h : xs.take k = ys.take k) (hk : xs.length ≤ k) (hl : xs.length = ys.length) : eqR xs ys = true :=
  decide_eq_true (by rwa [List.take_of_length_le hk, List.take_of_length_le (by omega)] at h)
theorem recA_ne {x y : Rec} (h : x ≠ y) : x.pos ≠ y.pos ∨ x.key ≠ y.key ∨ x.val ≠ y.val := by
  by_cases h1 : x.pos = y.pos
  · by_cases h2 : x.key = y.key
    · by_cases h3 : x.val = y.val
      · exfalso; apply h; cases x; cases y; simp only at h1 h2 h3; rw [h1, h2, h3]
      · exact .inr (.inr h3)
    · exact .inr (.inl h2)
  · exact .inl h1
set_option maxRecDepth 100000 in
set_option maxHeartbeats 400000 in
theorem equalRec (a b : Value) (xs ys : List Rec) (w : World) (ha : Reads w 3 a (recs xs)) (hb : Reads w 3 b (recs ys)) :
    Calls Tryz.prog 27 #[a, b] w (Gives w (.bool (eqR xs ys))) := by
  obtain ⟨pa, ca, rfl, a1, a2, a3⟩ := ha.recAt
  obtain ⟨pb, cb, rfl, b1, b2, b3⟩ := hb.recAt
  unfold maxLen at a2 b2
  clear ha hb
  by_cases hl : xs.length = ys.length
  · have hne : (((xs.length : Nat) : Int) != ((ys.length : Nat) : Int)) = false := by rw [hl]; simp
    have A3 := Lib.hid a3
    have B3 := Lib.hid b3
    have HL := Lib.hid hl
    clear a3 b3 hl
    go_enter Tryz.func27, Tryz.ntmps27
    go_wp2
    go_loopw [13] (fun i wr => ∃ k : Nat, k ≤ xs.length ∧ i = .int .i64 k ∧ xs.take k = ys.take k ∧ Kept none' w wr) (fun i _ => xs.length - (intOf i).toNat)
    case atStart => exact ⟨0, by omega, rfl, by simp, Kept.refl _ _⟩
    case round =>
      obtain ⟨k, hk, rfl, ht, hkp⟩ := hrel
      have HT := Lib.hid ht
      clear ht
      by_cases hlt : k < xs.length
      · obtain ⟨x, hx⟩ : ∃ x, xs[k]? = some x := ⟨_, List.getElem?_eq_getElem hlt⟩
        obtain ⟨y, hy⟩ : ∃ y, ys[k]? = some y := ⟨_, List.getElem?_eq_getElem (by rw [← HL.out]; exact hlt)⟩
        obtain ⟨b0, off, rfl, hc⟩ := A3.out.resolve_left (fun h => by rw [h] at hlt; simp at hlt)
        obtain ⟨b1, off1, rfl, hd⟩ := B3.out.resolve_left (fun h => by rw [h] at hy; simp at hy)
        obtain ⟨x0, x1, x2⟩ := (hc k x hx).pure hkp
        obtain ⟨y0, y1, y2⟩ := (hd k y hy).pure hkp
        have HX := Lib.hid (And.intro hx hy)
        have hlt2 : k < ys.length := by rw [← HL.out]; exact hlt
        clear hc hd hx hy A3 B3
        go_wp2_with fail
        refine wp_region_eager [0, 1, 2, 3, 4, 5, 6, 7, 8] (fun W => Kept none' wr W) (by kernel_rfl) (by kernel_rfl) rfl (Kept.refl _ _).drew ?_
        simp only [List.map_cons, List.map_nil, List.getElem?_toArray, List.getElem?_cons_zero, List.getElem?_cons_succ, Option.getD_some]
        iterate 8 (apply wpL_float rfl rfl; (intro W hW; have c0 := hW.cell (fun h => h) x0; have c1 := hW.cell (fun h => h) x1; have c2 := hW.cell (fun h => h) x2; have d0 := hW.cell (fun h => h) y0; have d1 := hW.cell (fun h => h) y1; have d2 := hW.cell (fun h => h) y2; go_simp; rfl); go_frame)
        refine wpL_float (v := .bool (decide (x ≠ y))) rfl rfl ?_ ?_
        · intro W hW
          go_simp
          by_cases hxy : x = y
          · subst hxy; simp
          · rcases recA_ne hxy with h | h | h
            · simp [h, hxy]
            · simp [h, hxy]
            · simp [h, hxy]
        go_frame
        refine wpL_nil (fun _ => (Kept.refl _ _).drew) ?_
        clear x0 x1 x2 y0 y1 y2
        by_cases hxy : x = y
        · have hf : decide (x ≠ y) = false := by simp [hxy]
          rw [hf]
          have HXY := Lib.hid hxy
          clear hxy hf
          go_wp2_with fail
          go_roundw
          case rel => exact ⟨k + 1, by omega, by go_num, takeR_succ HT.out HX.out.1 HX.out.2 HXY.out, hkp.drew⟩
          case measure => simp [intOf]; omega
        · have hf : decide (x ≠ y) = true := by simp [hxy]
          rw [hf]
          have HXY := Lib.hid hxy
          clear hxy hf
          go_wp2_with fail
          go_ret
          exact ⟨ret_bool (eqR_at HX.out.1 HX.out.2 HXY.out).symm, hkp.drew⟩
      · go_wp2_with fail
        go_ret
        exact ⟨ret_bool (eqR_full HT.out (by omega) HL.out).symm, hkp⟩
  · have hne : (((xs.length : Nat) : Int) != ((ys.length : Nat) : Int)) = true := by simp; omega
    have HL := Lib.hid hl
    clear a3 b3 hl
    go_enter Tryz.func27, Tryz.ntmps27
    go_wp2
    go_ret
    exact ⟨ret_bool (eqR_len HL.out).symm, Kept.refl _ _⟩
end Go.Proofs.YtopeleenlcnkkaaGreatDoor
