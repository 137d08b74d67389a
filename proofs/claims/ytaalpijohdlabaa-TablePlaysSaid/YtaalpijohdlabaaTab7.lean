/-
  slices.Equal of numbers; 'works' of layer 16.
-/
import Derived.Test.YtaalpijohdlabaaTab6
namespace Go.Proofs.Ytaalpijohdlabaa
open Go Go.RowKit
theorem ints_get {l : List Int} {i : Nat} {x : Int} (h : l[i]? = some x) : (ints l)[i]? = some (.int .i64 x) := by simp [ints, h]
theorem Reads.at {w : World} {v : Value} {l : List Int} (h : Reads w 1 v (ints l)) : ∃ a cap, v = .slice a l.length cap ∧ l.length ≤ cap ∧ cap ≤ maxLen ∧ (l = [] ∨ ∃ b off, a = some ⟨b, off, none⟩ ∧ ∀ i x, l[i]? = some x → w.cell? ⟨b, off + i, none⟩ = some (.int .i64 x)) := by
  obtain ⟨a, n, cap, rfl, h1, h2, h3, h4⟩ := h
  have hn : n = l.length := by simpa using h3.symm
  subst hn
  refine ⟨a, cap, rfl, h1, h2, ?_⟩
  rcases h4 with h4 | ⟨b, off, rfl, h4⟩
  · left
    have : (ints l).length = 0 := by rw [h4]; rfl
    rw [ints_length] at this
    exact List.eq_nil_of_length_eq_zero this
  · exact .inr ⟨b, off, rfl, fun i x hx => h4 i _ (ints_get hx)⟩
theorem take_eq_succ {xs ys : List Int} {k : Nat} {x y : Int} (h : xs.take k = ys.take k) (hx : xs[k]? = some x) (hy : ys[k]? = some y) (e : x = y) : xs.take (k + 1) = ys.take (k + 1) := by
  rw [List.take_add_one, List.take_add_one, h, hx, hy, e]
def eqL (xs ys : List Int) : Bool := decide (xs = ys)
theorem eqL_len {xs ys : List Int} (h : xs.length ≠ ys.length) : eqL xs ys = false := by unfold eqL; simp; intro e; rw [e] at h; exact h rfl
theorem eqL_at {xs ys : List Int} {k : Nat} {x y : Int} (hx : xs[k]? = some x) (hy : ys[k]? = some y) (h : x ≠ y) : eqL xs ys = false := by
  unfold eqL; simp; intro e; subst e; rw [hx] at hy; cases hy; exact h rfl
theorem eqL_full {xs ys : List Int} {k : Nat} (h : xs.take k = ys.take k) (hk : xs.length ≤ k) (hl : xs.length = ys.length) : eqL xs ys = true := by
  unfold eqL; rw [List.take_of_length_le hk, List.take_of_length_le (by omega)] at h; simp [h]
theorem ret_bool {a b : Bool} (h : a = b) : Ending.returned (.bool a) = .returned (.bool b) := by rw [h]
set_option maxRecDepth 100000 in
set_option maxHeartbeats 400000 in
theorem equal64 (a b : Value) (xs ys : List Int) (w : World) (ha : Reads w 1 a (ints xs)) (hb : Reads w 1 b (ints ys)) :
    Calls Try.prog 38 #[a, b] w (Gives w (.bool (eqL xs ys))) := by
  obtain ⟨pa, ca, rfl, a1, a2, a3⟩ := ha.at
  obtain ⟨pb, cb, rfl, b1, b2, b3⟩ := hb.at
  unfold maxLen at a2 b2
  clear ha hb
  by_cases hl : xs.length = ys.length
  · have hne : (((xs.length : Nat) : Int) != ((ys.length : Nat) : Int)) = false := by rw [hl]; simp
    have A3 := Lib.hid a3
    have B3 := Lib.hid b3
    have HL := Lib.hid hl
    clear a3 b3 hl
    go_enter Try.func38, Try.ntmps38
    go_wp2
    go_loopw [13] (fun i wr => ∃ k : Nat, k ≤ xs.length ∧ i = .int .i64 k ∧ xs.take k = ys.take k ∧ Kept none' w wr) (fun i _ => xs.length - (intOf i).toNat)
    case atStart => exact ⟨0, by omega, rfl, by simp, Kept.refl _ _⟩
    case round =>
      obtain ⟨k, hk, rfl, ht, hkp⟩ := hrel
      have HT := Lib.hid ht
      clear ht
      by_cases hlt : k < xs.length
      · obtain ⟨x, hx⟩ : ∃ x, xs[k]? = some x := ⟨_, List.getElem?_eq_getElem hlt⟩
        obtain ⟨y, hy⟩ : ∃ y, ys[k]? = some y := ⟨_, List.getElem?_eq_getElem (by rw [← HL.out]; exact hlt)⟩
        obtain ⟨b0, off, rfl, hc⟩ := A3.out.resolve_left (fun h => by rw [h] at hlt; simp at hlt)
        obtain ⟨b1, off1, rfl, hd⟩ := B3.out.resolve_left (fun h => by rw [h] at hy; simp at hy)
        have q0 := hkp.cell (p := ⟨b0, off + k, none⟩) (fun h => h) (hc k x hx)
        have q1 := hkp.cell (p := ⟨b1, off1 + k, none⟩) (fun h => h) (hd k y hy)
        have HX := Lib.hid (And.intro hx hy)
        have hlt2 : k < ys.length := by rw [← HL.out]; exact hlt
        clear hc hd hx hy A3 B3
        go_wp2_with fail
        refine wp_region_eager [0, 1, 2, 3, 4, 5, 6, 7, 8] (fun W => Kept none' wr W) (by kernel_rfl) (by kernel_rfl) rfl (Kept.refl _ _).drew ?_
        simp only [List.map_cons, List.map_nil, List.getElem?_toArray, List.getElem?_cons_zero, List.getElem?_cons_succ, Option.getD_some]
        iterate 9 (apply wpL_float rfl rfl; (intro W hW; have r0 := hW.cell (fun h => h) q0; have r1 := hW.cell (fun h => h) q1; go_simp; rfl); go_frame)
        refine wpL_nil (fun _ => (Kept.refl _ _).drew) ?_
        by_cases hxy : x = y
        · have hf : (x != y) = false := by simp [hxy]
          go_wp2_with fail
          go_roundw
          case rel => exact ⟨k + 1, by omega, by go_num, take_eq_succ HT.out HX.out.1 HX.out.2 hxy, hkp.drew⟩
          case measure => simp [intOf]; omega
        · have hf : (x != y) = true := by simp [hxy]
          go_wp2_with fail
          go_ret
          exact ⟨ret_bool (eqL_at HX.out.1 HX.out.2 hxy).symm, hkp.drew⟩
      · go_wp2_with fail
        go_ret
        exact ⟨ret_bool (eqL_full HT.out (by omega) HL.out).symm, hkp⟩
  · have hne : (((xs.length : Nat) : Int) != ((ys.length : Nat) : Int)) = true := by simp; omega
    have HL := Lib.hid hl
    clear a3 b3 hl
    go_enter Try.func38, Try.ntmps38
    go_wp2
    go_ret
    exact ⟨ret_bool (eqL_len HL.out).symm, Kept.refl _ _⟩
end Go.Proofs.Ytaalpijohdlabaa
