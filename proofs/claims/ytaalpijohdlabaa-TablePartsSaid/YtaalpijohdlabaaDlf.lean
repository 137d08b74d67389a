/-
  slices.Index(102), Contains(87) at ints.
-/
import Derived.Test.YtaalpijohdlabaaCop
import Derived.Test.YtaalpijohdlabaaRefA
namespace Go.Proofs.Ytaalpijohdlabaa
open Go Go.RowKit
def IdxQ (w : World) (l : List Int) (g : Int) (e : Ending) (w' : World) : Prop := ∃ n : Int, e = .returned (.int .i64 n) ∧ (0 ≤ n ↔ g ∈ l) ∧ w = w'
set_option maxRecDepth 100000 in
set_option maxHeartbeats 1000000 in
theorem indexI_any (v : Value) (l : List Int) (g : Int) (w : World) (h : Reads w 1 v (ints l)) : Calls Try.prog 102 #[v, .int .i64 g] w (IdxQ w l g) := by
  obtain ⟨pa, ca, rfl, a1, a2, a3⟩ := h.at
  unfold maxLen at a2
  have A3 := Lib.hid a3
  clear h a3
  go_enter Try.func102, Try.ntmps102
  go_wp2_with fail
  go_loopw [8] (fun i wr => ∃ k : Nat, k ≤ l.length ∧ i = .int .i64 (k : Int) ∧ g ∉ l.take k ∧ wr = w) (fun i _ => l.length - (intOf i).toNat)
  case atStart => exact ⟨0, by omega, rfl, by simp, rfl⟩
  case round =>
    obtain ⟨k, hk, rfl, ht, rfl⟩ := hrel
    have HT := Lib.hid ht
    clear ht
    by_cases hlt : k < l.length
    · obtain ⟨y, hy⟩ : ∃ y, l[k]? = some y := ⟨_, List.getElem?_eq_getElem hlt⟩
      obtain ⟨b, off, rfl, hc⟩ := A3.out.resolve_left (fun h => by rw [h] at hlt; simp at hlt)
      have y0 := hc k y hy
      have HY := Lib.hid hy
      clear hc hy A3
      by_cases he : g = y
      · subst he
        go_wp2_with fail
        go_ret
        exact ⟨k, rfl, ⟨fun _ => List.mem_of_getElem? HY.out, fun _ => by omega⟩, rfl⟩
      · go_wp2_with fail
        go_roundw
        case rel =>
          refine ⟨k + 1, by omega, by go_num, ?_, by first | trivial | rfl⟩
          rw [List.take_add_one, HY.out]
          simp [HT.out, he]
        case measure => simp [intOf]; omega
    · have hE : g ∉ l := by have := HT.out; rwa [List.take_of_length_le (by omega)] at this
      have HE := Lib.hid hE
      have e1 : k = l.length := by omega
      subst e1
      go_wp2_with fail
      go_ret
      exact ⟨-1, rfl, ⟨fun h => absurd h (by decide), fun h => absurd h HE.out⟩, rfl⟩
set_option maxRecDepth 100000 in
theorem containsI_any (v : Value) (l : List Int) (g : Int) (w : World) (h : Reads w 1 v (ints l)) : Calls Try.prog 87 #[v, .int .i64 g] w (fun e w' => e = .returned (.bool (decide (g ∈ l))) ∧ w = w') := by
  have c := indexI_any v l g w h
  obtain ⟨pa, ca, rfl, a1, a2, a3⟩ := h.at
  clear h a3
  go_enter Try.func87, Try.ntmps87
  go_wp2_with fail
  refine c.mono ?_
  rintro e w2 ⟨n, rfl, hn, rfl⟩
  have F := Lib.hid (show decide (g ∈ l) = decide (0 ≤ n) from decide_eq_decide.2 hn.symm)
  clear hn
  go_wp2_with fail
  go_ret
  exact ⟨ret_bool (by rw [F.out]), rfl⟩
attribute [local irreducible] wpL
set_option maxRecDepth 100000 in
set_option maxHeartbeats 1000000 in
/-- Of's closure: whether the key's group is none of those. -/
theorem ofc_any (k acc : Int) (la : Option Addr) (ln lc : Nat) (Bg : Nat) (vg : Value) (gs : List Int) (w : World) (hc : w.cell? ⟨Bg, 0, none⟩ = some vg) (hr : Reads w 1 vg (ints gs)) :
    Calls Try.prog 86 #[.int .i64 k, .agg #[.int .i64 acc, .slice la ln lc], .pointer (some ⟨Bg, 0, none⟩)] w (Gives w (.bool (!decide (grp k ∈ gs)))) := by
  obtain ⟨pa, ca, rfl, a1, a2, a3⟩ := hr.at
  have HR := Lib.hid hr
  clear hr a3
  go_enter Try.func86, Try.ntmps86
  go_wp2_with fail
  obtain ⟨WA, hWA⟩ : ∃ WA, w.alloc (.cells #[.int .i64 acc, .slice la ln lc] 29) = WA := ⟨_, rfl⟩
  have kA : Kept none' w WA := by rw [← hWA]; exact (Kept.refl _ _).alloc _
  have x0 := kA.cell (p := ⟨Bg, 0, none⟩) (fun h => h) hc
  try rw [hWA]
  clear hWA
  have kD : Kept none' WA WA.drew := (Kept.refl _ _).drew
  refine wp_region_eager [0, 1, 2, 3, 4, 5] (fun W => Kept none' WA W) (by kernel_rfl) (by kernel_rfl) rfl kD ?_
  simp only [List.map_cons, List.map_nil, List.getElem?_toArray, List.getElem?_cons_zero, List.getElem?_cons_succ, Option.getD_some]
  iterate 2 (apply wpL_float rfl rfl; (intro W hW; have z0 := hW.cell (fun h => h) x0; go_simp; rfl); go_frame)
  apply wpL_loud rfl rfl
  intro K hK
  go_wp2_with fail
  (with_reducible refine (of_any k WA.drew).mono ?_)
  rintro e w1 ⟨rfl, rfl⟩
  go_wp2_with fail
  refine hK _ _ (fun _ => kD) ?_
  clear hK
  apply wpL_loud rfl rfl
  intro K hK
  go_wp2_with fail
  (with_reducible refine (containsI_any _ gs (grp k) WA.drew (HR.out.pure (kA.trans kD))).mono ?_)
  rintro e w1 ⟨rfl, rfl⟩
  go_wp2_with fail
  refine hK _ _ (fun _ => kD) ?_
  clear hK
  iterate 2 (apply wpL_float rfl rfl; (intro W hW; go_simp; rfl); go_frame)
  refine wpL_nil (fun _ => kD) ?_
  go_wp2_with fail
  go_ret
  exact ⟨rfl, kA.trans kD⟩
end Go.Proofs.Ytaalpijohdlabaa
