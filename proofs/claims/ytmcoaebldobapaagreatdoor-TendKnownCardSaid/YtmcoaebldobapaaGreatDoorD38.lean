/-
  The order of keys; Keys.
-/
import Derived.Test.YtmcoaebldobapaaGreatDoorD36
import Derived.Test.YtmcoaebldobapaaGreatDoorD37
set_option linter.unusedVariables false
set_option linter.unusedSimpArgs false
namespace Go.Proofs.YtmcoaebldobapaaGreatDoor
open Go Go.RowKit Go.Shelf Go.Sort
def cmp3 (a b : Int) : Int := if a < b then -1 else if b < a then 1 else 0
def orI (a b : Int) : Int := if a = 0 then b else a
def befC (a b : Int) : Int := orI (cmp3 (grp a) (grp b)) (cmp3 a b)
theorem befC_lt (a b : Int) : decide (befC a b < 0) = lessB a b := by
  rw [Bool.eq_iff_iff, lessB_iff]
  unfold befC orI cmp3
  simp only [decide_eq_true_eq]
  by_cases h1 : grp a < grp b
  · simp [h1]
  · by_cases h2 : grp b < grp a
    · simp [h1, h2]; omega
    · have : grp a = grp b := by omega
      simp [this]
      by_cases h3 : a < b
      · simp [h3]
      · by_cases h4 : b < a <;> simp [h3, h4]
set_option maxHeartbeats 400000 in
theorem cmp64 (a b : Int) (w : World) : Calls Tryz.prog 276 #[.int .i64 a, .int .i64 b] w fun e w' => e = .returned (.int .i64 (cmp3 a b)) ∧ w = w' := by
  by_cases h1 : a < b
  · have e : cmp3 a b = -1 := by simp [cmp3, h1]
    have E := Lib.hid e
    clear e
    go_enter Tryz.func276, Tryz.ntmps276
    go_wp2
    go_ret
    exact ⟨ret_int E.out.symm, rfl⟩
  · by_cases h2 : b < a
    · have e : cmp3 a b = 1 := by simp [cmp3, h1, h2]
      have E := Lib.hid e
      clear e
      go_enter Tryz.func276, Tryz.ntmps276
      go_wp2
      go_ret
      exact ⟨ret_int E.out.symm, rfl⟩
    · have e : cmp3 a b = 0 := by simp [cmp3, h1, h2]
      have E := Lib.hid e
      clear e
      go_enter Tryz.func276, Tryz.ntmps276
      go_wp2
      go_ret
      exact ⟨ret_int E.out.symm, rfl⟩
set_option maxHeartbeats 400000 in
theorem cmpInt (a b : Int) (w : World) : Calls Tryz.prog 373 #[.int .i64 a, .int .i64 b] w fun e w' => e = .returned (.int .i64 (cmp3 a b)) ∧ w = w' := by
  by_cases h1 : a < b
  · have e : cmp3 a b = -1 := by simp [cmp3, h1]
    have E := Lib.hid e
    clear e
    go_enter Tryz.func373, Tryz.ntmps373
    go_wp2
    go_ret
    exact ⟨ret_int E.out.symm, rfl⟩
  · by_cases h2 : b < a
    · have e : cmp3 a b = 1 := by simp [cmp3, h1, h2]
      have E := Lib.hid e
      clear e
      go_enter Tryz.func373, Tryz.ntmps373
      go_wp2
      go_ret
      exact ⟨ret_int E.out.symm, rfl⟩
    · have e : cmp3 a b = 0 := by simp [cmp3, h1, h2]
      have E := Lib.hid e
      clear e
      go_enter Tryz.func373, Tryz.ntmps373
      go_wp2
      go_ret
      exact ⟨ret_int E.out.symm, rfl⟩
set_option maxHeartbeats 400000 in
theorem or_any (a b : Int) (g cap : Nat) (w : World) (h0 : w.cell? ⟨g, 0, none⟩ = some (.int .i64 a)) (h1 : w.cell? ⟨g, 0 + 1, none⟩ = some (.int .i64 b)) :
    Calls Tryz.prog 372 #[.slice (some ⟨g, 0, none⟩) 2 cap] w fun e w' => e = .returned (.int .i64 (orI a b)) ∧ w = w' := by
  go_enter Tryz.func372, Tryz.ntmps372
  go_wp2
  go_loop [8] (fun i => ∃ k : Nat, k ≤ 2 ∧ i = .int .i64 k ∧ (1 ≤ k → a = 0) ∧ (2 ≤ k → b = 0)) (fun i => 2 - (intOf i).toNat)
  case atStart => exact ⟨0, by omega, rfl, by omega, by omega⟩
  case round =>
    obtain ⟨k, hk, rfl, ha, hb⟩ := hrel
    have hk3 : k = 0 ∨ k = 1 ∨ k = 2 := by omega
    rcases hk3 with rfl | rfl | rfl
    · clear ha hb
      by_cases hz : a = 0
      · subst hz
        go_wp2
        go_round
        case rel => exact ⟨1, by omega, by go_num, fun _ => (by simp), by omega⟩
        case measure => simp [intOf]
      · have hz1 : (a != 0) = true := by simp [hz]
        go_wp2
        go_ret
        exact ⟨ret_int (by unfold orI; rw [if_neg hz]), rfl⟩
    · have ha' := ha (Nat.le_refl _)
      clear ha hb
      have A := Lib.hid ha'
      clear ha'
      by_cases hz : b = 0
      · subst hz
        go_wp2
        go_round
        case rel => exact ⟨2, by omega, by go_num, fun _ => A.out, fun _ => (by simp)⟩
        case measure => simp [intOf]
      · have hz1 : (b != 0) = true := by simp [hz]
        go_wp2
        go_ret
        exact ⟨ret_int (by unfold orI; rw [if_pos A.out]), rfl⟩
    · have A := Lib.hid (And.intro (ha (by omega)) (hb (by omega)))
      clear ha hb
      go_wp2
      go_ret
      exact ⟨ret_int (by unfold orI; rw [if_pos A.out.1, A.out.2]), rfl⟩
theorem alloc_grow (w : World) (o : Obj) : w.alloc o = grow (w.drewN 0) #[o] := by
  unfold grow World.alloc
  rw [Array.push_eq_append]
  rfl
set_option maxRecDepth 100000 in
set_option maxHeartbeats 400000 in
theorem before_any (a b : Int) (w : World) : Calls Tryz.prog 305 #[.int .i64 a, .int .i64 b] w fun e w' => e = .returned (.int .i64 (befC a b)) ∧ ∃ q os', w' = grow (w.drewN q) os' := by
  go_enter Tryz.func305, Tryz.ntmps305
  go_wp2_with fail
  refine (of_any _ _).mono ?_; rintro e w' ⟨rfl, rfl⟩
  go_wp2_with fail
  refine (of_any _ _).mono ?_; rintro e w' ⟨rfl, rfl⟩
  go_wp2_with fail
  refine (cmpInt _ _ _).mono ?_; rintro e w' ⟨rfl, rfl⟩
  go_wp2_with fail
  refine (cmp64 _ _ _).mono ?_; rintro e w' ⟨rfl, rfl⟩
  go_wp2_with fail
  refine (or_any (cmp3 (grp a) (grp b)) (cmp3 a b) w.heap.size 2 _ (by simp) (by simp)).mono ?_; rintro e w' ⟨rfl, rfl⟩
  go_wp2_with fail
  go_ret
  exact ⟨rfl, 0, _, alloc_grow _ _⟩
end Go.Proofs.YtmcoaebldobapaaGreatDoor
/-
  Keys: all keys, in order.
-/
namespace Go.Proofs.YtmcoaebldobapaaGreatDoor
open Go Go.RowKit Go.Shelf
def unitR : Value → Option (DataW Unit × List MemPlace) := fun _ => some (.lit (.bool true), [])
theorem R64.wf {n : Int} (h : R64 n) : (Lit.int .i64 n).wf = true := by
  unfold R64 at h
  exact WalkArith.wf_i64 h
theorem rg_ent {t : T3} (h : R64 t.1) : WideElems.rd Tryz.prog 2 unitR (ent t) = some (.int .i64 t.1, .lit (.bool true)) ∧ WideElems.rg Tryz.prog 2 unitR (ent t) = (.int .i64 t.1, .lit (.bool true)) := by
  have h1 : WideElems.rd Tryz.prog 2 unitR (ent t) = some (.int .i64 t.1, .lit (.bool true)) := by
    unfold WideElems.rd
    rw [show (ent t).key = .int .i64 t.1 from rfl, Maps.keyOf_int_mk Tryz.underlying2 h.wf]
    rfl
  exact ⟨h1, by unfold WideElems.rg; rw [h1]; rfl⟩
theorem MapL.owns {w : World} {m : Nat} {l : List (Int × Value)} (h : MapL w m l) (hk : ∀ p ∈ l, R64 p.1) (hl : l.length ≤ maxLen) :
    ∃ D : DataW Unit, w.ownsMap Tryz.prog 2 unitR m l.length D ∧ (intKeys D).Perm (l.map (·.1)) ∧ Maps.size D = l.length := by
  obtain ⟨L, clock, h, rfl⟩ := h
  have hk' : ∀ t ∈ L, R64 t.1 := fun t ht => hk (kv t) (List.mem_map.2 ⟨t, ht, rfl⟩)
  have hmap : (L.map ent).map (WideElems.rg Tryz.prog 2 unitR) = L.map (fun t => (Lit.int .i64 t.1, DataW.lit (.bool true))) := by
    rw [List.map_map]
    apply List.map_congr_left
    intro t ht
    have := (rg_ent (hk' t ht)).2
    rw [Function.comp_apply, this]
  have hsz : ((L.map ent).toArray).size ≤ maxLen := by rw [List.size_toArray, List.length_map]; rw [List.length_map] at hl; exact hl
  have hsz2 : ((L.map ent).toArray).size ≤ (L.map kv).length := by simp
  refine ⟨.map (List.foldr DataW.insert [] (List.map (WideElems.rg Tryz.prog 2 unitR) (L.map ent).toArray.toList)), ⟨(L.map ent).toArray, clock, h.heap, ⟨hsz, ⟨?_, ?_, ?_⟩, ?_⟩, hsz2, rfl⟩, ?_, ?_⟩
  · intro x hx
    rw [List.toList_toArray] at hx
    obtain ⟨t, ht, rfl⟩ := List.mem_map.1 hx
    exact h.old t ht
  · simpa [ent, Function.comp_def] using h.born
  · have : (L.map ent).toArray.toList.map (·.key) = (L.map (·.1)).map (Value.int .i64) := by simp [ent, Function.comp_def]
    rw [this]
    exact List.Pairwise.map _ (fun a b hab e => hab (by simpa using e)) h.keys
  · intro x hx
    rw [List.toList_toArray] at hx
    obtain ⟨t, ht, rfl⟩ := List.mem_map.1 hx
    exact ⟨_, (rg_ent (hk' t ht)).1⟩
  · show (List.map (fun p => _root_.Go.intOf p.1) (List.foldr DataW.insert [] (((L.map ent).toArray.toList).map (WideElems.rg Tryz.prog 2 unitR)))).Perm _
    rw [List.toList_toArray, hmap]
    refine ((WideShapes.sorted_perm _).map _).trans ?_
    simp [_root_.Go.intOf, kv, Function.comp_def]
  · show (List.foldr DataW.insert [] (((L.map ent).toArray.toList).map (WideElems.rg Tryz.prog 2 unitR))).length = _
    rw [length_sorted]
    simp
end Go.Proofs.YtmcoaebldobapaaGreatDoor
