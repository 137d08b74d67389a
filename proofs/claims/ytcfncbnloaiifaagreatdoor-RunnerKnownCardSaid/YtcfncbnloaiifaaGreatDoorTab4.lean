/-
  The order of keys; Keys.
-/
import Derived.Test.YtcfncbnloaiifaaGreatDoorTab3
import Derived.Test.YtcfncbnloaiifaaGreatDoorShelf
namespace Go.Proofs.YtcfncbnloaiifaaGreatDoor
open Go Go.RowKit Go.Shelf Go.Sort
def cmp3 (a b : Int) : Int := if a < b then -1 else if b < a then 1 else 0
def orI (a b : Int) : Int := if a = 0 then b else a
def befC (a b : Int) : Int := orI (cmp3 (grp a) (grp b)) (cmp3 a b)
theorem befC_lt (a b : Int) : decide (befC a b < 0) = lessB a b := by
  rw [Bool.eq_iff_iff, lessB_iff]
  unfold befC orI cmp3
  simp only [decide_eq_true_eq]
  by_cases h1 : grp a < grp b
  · simp [h1]
  · by_cases h2 : grp b < grp a
    · simp [h1, h2]; omega
    · have : grp a = grp b := by omega
      simp [this]
      by_cases h3 : a < b
      · simp [h3]
      · by_cases h4 : b < a <;> simp [h3, h4]
set_option maxHeartbeats 400000 in
theorem cmp64 (a b : Int) (w : World) : Calls Tryz.prog 126 #[.int .i64 a, .int .i64 b] w fun e w' => e = .returned (.int .i64 (cmp3 a b)) ∧ w = w' := by
  by_cases h1 : a < b
  · have e : cmp3 a b = -1 := by simp [cmp3, h1]
    have E := Lib.hid e
    clear e
    go_enter Tryz.func126, Tryz.ntmps126
    go_wp2
    go_ret
    exact ⟨ret_int E.out.symm, rfl⟩
  · by_cases h2 : b < a
    · have e : cmp3 a b = 1 := by simp [cmp3, h1, h2]
      have E := Lib.hid e
      clear e
      go_enter Tryz.func126, Tryz.ntmps126
      go_wp2
      go_ret
      exact ⟨ret_int E.out.symm, rfl⟩
    · have e : cmp3 a b = 0 := by simp [cmp3, h1, h2]
      have E := Lib.hid e
      clear e
      go_enter Tryz.func126, Tryz.ntmps126
      go_wp2
      go_ret
      exact ⟨ret_int E.out.symm, rfl⟩
set_option maxHeartbeats 400000 in
theorem cmpInt (a b : Int) (w : World) : Calls Tryz.prog 212 #[.int .i64 a, .int .i64 b] w fun e w' => e = .returned (.int .i64 (cmp3 a b)) ∧ w = w' := by
  by_cases h1 : a < b
  · have e : cmp3 a b = -1 := by simp [cmp3, h1]
    have E := Lib.hid e
    clear e
    go_enter Tryz.func212, Tryz.ntmps212
    go_wp2
    go_ret
    exact ⟨ret_int E.out.symm, rfl⟩
  · by_cases h2 : b < a
    · have e : cmp3 a b = 1 := by simp [cmp3, h1, h2]
      have E := Lib.hid e
      clear e
      go_enter Tryz.func212, Tryz.ntmps212
      go_wp2
      go_ret
      exact ⟨ret_int E.out.symm, rfl⟩
    · have e : cmp3 a b = 0 := by simp [cmp3, h1, h2]
      have E := Lib.hid e
      clear e
      go_enter Tryz.func212, Tryz.ntmps212
      go_wp2
      go_ret
      exact ⟨ret_int E.out.symm, rfl⟩
set_option maxHeartbeats 400000 in
theorem or_any (a b : Int) (g cap : Nat) (w : World) (h0 : w.cell? ⟨g, 0, none⟩ = some (.int .i64 a)) (h1 : w.cell? ⟨g, 0 + 1, none⟩ = some (.int .i64 b)) :
    Calls Tryz.prog 211 #[.slice (some ⟨g, 0, none⟩) 2 cap] w fun e w' => e = .returned (.int .i64 (orI a b)) ∧ w = w' := by
  go_enter Tryz.func211, Tryz.ntmps211
  go_wp2
  go_loop [8] (fun i => ∃ k : Nat, k ≤ 2 ∧ i = .int .i64 k ∧ (1 ≤ k → a = 0) ∧ (2 ≤ k → b = 0)) (fun i => 2 - (intOf i).toNat)
  case atStart => exact ⟨0, by omega, rfl, by omega, by omega⟩
  case round =>
    obtain ⟨k, hk, rfl, ha, hb⟩ := hrel
    have hk3 : k = 0 ∨ k = 1 ∨ k = 2 := by omega
    rcases hk3 with rfl | rfl | rfl
    · clear ha hb
      by_cases hz : a = 0
      · subst hz
        go_wp2
        go_round
        case rel => exact ⟨1, by omega, by go_num, fun _ => (by simp), by omega⟩
        case measure => simp [intOf]
      · have hz1 : (a != 0) = true := by simp [hz]
        go_wp2
        go_ret
        exact ⟨ret_int (by unfold orI; rw [if_neg hz]), rfl⟩
    · have ha' := ha (Nat.le_refl _)
      clear ha hb
      have A := Lib.hid ha'
      clear ha'
      by_cases hz : b = 0
      · subst hz
        go_wp2
        go_round
        case rel => exact ⟨2, by omega, by go_num, fun _ => A.out, fun _ => (by simp)⟩
        case measure => simp [intOf]
      · have hz1 : (b != 0) = true := by simp [hz]
        go_wp2
        go_ret
        exact ⟨ret_int (by unfold orI; rw [if_pos A.out]), rfl⟩
    · have A := Lib.hid (And.intro (ha (by omega)) (hb (by omega)))
      clear ha hb
      go_wp2
      go_ret
      exact ⟨ret_int (by unfold orI; rw [if_pos A.out.1, A.out.2]), rfl⟩
theorem alloc_grow (w : World) (o : Obj) : w.alloc o = grow (w.drewN 0) #[o] := by
  unfold grow World.alloc
  rw [Array.push_eq_append]
  rfl
set_option maxRecDepth 100000 in
set_option maxHeartbeats 400000 in
theorem before_any (a b : Int) (w : World) : Calls Tryz.prog 136 #[.int .i64 a, .int .i64 b] w fun e w' => e = .returned (.int .i64 (befC a b)) ∧ ∃ q os', w' = grow (w.drewN q) os' := by
  go_enter Tryz.func136, Tryz.ntmps136
  go_wp2_with fail
  refine (of_any _ _).mono ?_; rintro e w' ⟨rfl, rfl⟩
  go_wp2_with fail
  refine (of_any _ _).mono ?_; rintro e w' ⟨rfl, rfl⟩
  go_wp2_with fail
  refine (cmpInt _ _ _).mono ?_; rintro e w' ⟨rfl, rfl⟩
  go_wp2_with fail
  refine (cmp64 _ _ _).mono ?_; rintro e w' ⟨rfl, rfl⟩
  go_wp2_with fail
  refine (or_any (cmp3 (grp a) (grp b)) (cmp3 a b) w.heap.size 2 _ (by simp) (by simp)).mono ?_; rintro e w' ⟨rfl, rfl⟩
  go_wp2_with fail
  go_ret
  exact ⟨rfl, 0, _, alloc_grow _ _⟩
end Go.Proofs.YtcfncbnloaiifaaGreatDoor
