/-
  DERIVED: THE SHELF's CONTRACTS AT THIS DUMP, IN PLAIN WORDS (tools/lay-plain.mjs out of 'YtopeleenlcnkkaaGreatDoorShelf.lean', which tools/lay-shelf.mjs wrote): THE SAME DECLARATIONS UNDER THE SAME NAMES: 'import', 'namespace', 'open', 'def', 'theorem' AND NOTHING ELSE: no command of the shelf's: FOR A HAND-IN. Each laying: the table of numbers ('.._ren') and one theorem, a field a fact of the dump's own or the kernel's comparison; each contract: ONE APPLICATION.
-/
import Derived.Test.YtopeleenlcnkkaaGreatDoorProg
import Derived.Shelf.SlGeneric
import Derived.Shelf.SlIterI.Collect
import Derived.Shelf.SlIterI.Keys
import Derived.Shelf.SlIterI.Nil
import Derived.Shelf.SlSortCmp.Whole1
import Derived.Shelf.SlSortCmp.NoneTotal
import Derived.Ground.GgzProg
import Derived.Ground.SlsfProg
import Derived.Test.YtopeleenlcnkkaaGreatDoorM06
set_option linter.unusedVariables false
set_option linter.unusedSimpArgs false
namespace Go.Proofs
open Go.Shelf
def Tryz.keysL_ren : Go.Shelf.Ren := ⟨fun | 7 => 62 | 10 => 99 | n => n, fun | 23 => 127 | 26 => 2 | 3 => 124 | 28 => 132 | 0 => 0 | 27 => 131 | 33 => 160 | 4 => 4 | n => n, fun | n => n⟩
theorem Tryz.keysL : Go.Proofs.SlLaysZI.n7 Tryz.prog Tryz.keysL_ren := {
  mixed := by kernel_rfl
  f7 := ⟨Tryz.f62.name, by decide, Tryz.func62.trans (congrArg some (by kernel_rfl))⟩
  f10 := ⟨Tryz.f99.name, by decide, Tryz.func99.trans (congrArg some (by kernel_rfl))⟩
  t0 := Tryz.underlying0
  a0 := Tryz.isAgg0
  z0 := Tryz.sizeOf0
  v0 := Tryz.zeroValue0
  t4 := Tryz.underlying4
  a4 := Tryz.isAgg4
  z4 := Tryz.sizeOf4
  v4 := Tryz.zeroValue4
  t23 := Tryz.underlying127
  a23 := Tryz.isAgg127
  z23 := Tryz.sizeOf127
  v23 := Tryz.zeroValue127
  t26 := Tryz.underlying2
  a26 := Tryz.isAgg2
  z26 := Tryz.sizeOf2
  v26 := Tryz.zeroValue2
  t27 := Tryz.underlying131
  a27 := Tryz.isAgg131
  z27 := Tryz.sizeOf131
  v27 := Tryz.zeroValue131
  t28 := Tryz.underlying132
  a28 := Tryz.isAgg132
  z28 := Tryz.sizeOf132
  v28 := Tryz.zeroValue132
  t33 := Tryz.underlying160
  a33 := Tryz.isAgg160
  z33 := Tryz.sizeOf160
  v33 := Tryz.zeroValue160 }
def Tryz.collectL_ren : Go.Shelf.Ren := ⟨fun | 8 => 97 | 11 => 121 | n => n, fun | 26 => 2 | 28 => 132 | 24 => 65 | 0 => 0 | 33 => 160 | 4 => 4 | n => n, fun | n => n⟩
theorem Tryz.collectL : Go.Proofs.SlLaysZI.n8 Tryz.prog Tryz.collectL_ren := {
  mixed := by kernel_rfl
  f8 := ⟨Tryz.f97.name, by decide, Tryz.func97.trans (congrArg some (by kernel_rfl))⟩
  f11 := ⟨Tryz.f121.name, by decide, Tryz.func121.trans (congrArg some (by kernel_rfl))⟩
  t0 := Tryz.underlying0
  a0 := Tryz.isAgg0
  z0 := Tryz.sizeOf0
  v0 := Tryz.zeroValue0
  t24 := Tryz.underlying65
  a24 := Tryz.isAgg65
  z24 := Tryz.sizeOf65
  v24 := Tryz.zeroValue65
  t26 := Tryz.underlying2
  a26 := Tryz.isAgg2
  z26 := Tryz.sizeOf2
  v26 := Tryz.zeroValue2
  t28 := Tryz.underlying132
  a28 := Tryz.isAgg132
  z28 := Tryz.sizeOf132
  v28 := Tryz.zeroValue132
  i26 := by kernel_rfl }
def Tryz.sortL_ren : Go.Shelf.Ren := ⟨fun | 6 => 98 | 15 => 123 | 14 => 122 | 28 => 151 | 29 => 152 | 20 => 143 | 21 => 144 | 22 => 145 | 23 => 146 | 24 => 147 | 25 => 148 | 26 => 149 | 27 => 150 | 46 => 175 | 47 => 176 | 48 => 177 | 49 => 178 | 50 => 179 | 57 => 200 | n => n, fun | 22 => 65 | 24 => 2 | 25 => 125 | 3 => 3 | 39 => 190 | 0 => 0 | 53 => 232 | 55 => 165 | 4 => 4 | 46 => 226 | 45 => 225 | 50 => 64 | 5 => 5 | 9 => 9 | 66 => 261 | 70 => 265 | 76 => 288 | 77 => 289 | n => n, fun | n => n⟩
theorem Tryz.sortL : Go.Proofs.SlLaysF.n6 Tryz.prog Tryz.sortL_ren := {
  mixed := by kernel_rfl
  f6 := ⟨Tryz.f98.name, by decide, Tryz.func98.trans (congrArg some (by kernel_rfl))⟩
  f14 := ⟨Tryz.f122.name, by decide, Tryz.func122.trans (congrArg some (by kernel_rfl))⟩
  f15 := Tryz.func123.trans (congrArg some (by kernel_rfl))
  f20 := ⟨Tryz.f143.name, by decide, Tryz.func143.trans (congrArg some (by kernel_rfl))⟩
  f21 := ⟨Tryz.f144.name, by decide, Tryz.func144.trans (congrArg some (by kernel_rfl))⟩
  f22 := ⟨Tryz.f145.name, by decide, Tryz.func145.trans (congrArg some (by kernel_rfl))⟩
  f23 := ⟨Tryz.f146.name, by decide, Tryz.func146.trans (congrArg some (by kernel_rfl))⟩
  f24 := ⟨Tryz.f147.name, by decide, Tryz.func147.trans (congrArg some (by kernel_rfl))⟩
  f25 := ⟨Tryz.f148.name, by decide, Tryz.func148.trans (congrArg some (by kernel_rfl))⟩
  f26 := ⟨Tryz.f149.name, by decide, Tryz.func149.trans (congrArg some (by kernel_rfl))⟩
  f27 := ⟨Tryz.f150.name, by decide, Tryz.func150.trans (congrArg some (by kernel_rfl))⟩
  f28 := Tryz.func151.trans (congrArg some (by kernel_rfl))
  f29 := Tryz.func152.trans (congrArg some (by kernel_rfl))
  f46 := ⟨Tryz.f175.name, by decide, Tryz.func175.trans (congrArg some (by kernel_rfl))⟩
  f47 := Tryz.func176.trans (congrArg some (by kernel_rfl))
  f48 := Tryz.func177.trans (congrArg some (by kernel_rfl))
  f49 := ⟨Tryz.f178.name, by decide, Tryz.func178.trans (congrArg some (by kernel_rfl))⟩
  f50 := ⟨Tryz.f179.name, by decide, Tryz.func179.trans (congrArg some (by kernel_rfl))⟩
  f57 := ⟨Tryz.f200.name, by decide, Tryz.func200.trans (congrArg some (by kernel_rfl))⟩
  t0 := Tryz.underlying0
  a0 := Tryz.isAgg0
  z0 := Tryz.sizeOf0
  v0 := Tryz.zeroValue0
  t3 := Tryz.underlying3
  a3 := Tryz.isAgg3
  z3 := Tryz.sizeOf3
  v3 := Tryz.zeroValue3
  t4 := Tryz.underlying4
  a4 := Tryz.isAgg4
  z4 := Tryz.sizeOf4
  v4 := Tryz.zeroValue4
  t5 := Tryz.underlying5
  a5 := Tryz.isAgg5
  z5 := Tryz.sizeOf5
  v5 := Tryz.zeroValue5
  t9 := Tryz.underlying9
  a9 := Tryz.isAgg9
  z9 := Tryz.sizeOf9
  v9 := Tryz.zeroValue9
  t22 := Tryz.underlying65
  a22 := Tryz.isAgg65
  z22 := Tryz.sizeOf65
  v22 := Tryz.zeroValue65
  a24 := Tryz.isAgg2
  z24 := Tryz.sizeOf2
  t25 := Tryz.underlying125
  a25 := Tryz.isAgg125
  z25 := Tryz.sizeOf125
  v25 := Tryz.zeroValue125
  t39 := Tryz.underlying190
  a39 := Tryz.isAgg190
  z39 := Tryz.sizeOf190
  v39 := Tryz.zeroValue190
  t45 := Tryz.underlying225
  a45 := Tryz.isAgg225
  z45 := Tryz.sizeOf225
  v45 := Tryz.zeroValue225
  t46 := Tryz.underlying226
  a46 := Tryz.isAgg226
  z46 := Tryz.sizeOf226
  v46 := Tryz.zeroValue226
  t50 := Tryz.underlying64
  a50 := Tryz.isAgg64
  z50 := Tryz.sizeOf64
  v50 := Tryz.zeroValue64
  t53 := Tryz.underlying232
  a53 := Tryz.isAgg232
  z53 := Tryz.sizeOf232
  v53 := Tryz.zeroValue232
  t55 := Tryz.underlying165
  a55 := Tryz.isAgg165
  z55 := Tryz.sizeOf165
  v55 := Tryz.zeroValue165
  t66 := Tryz.underlying261
  a66 := Tryz.isAgg261
  z66 := Tryz.sizeOf261
  v66 := Tryz.zeroValue261
  t70 := Tryz.underlying265
  a70 := Tryz.isAgg265
  z70 := Tryz.sizeOf265
  v70 := Tryz.zeroValue265
  t76 := Tryz.underlying288
  a76 := Tryz.isAgg288
  z76 := Tryz.sizeOf288
  v76 := Tryz.zeroValue288
  t77 := Tryz.underlying289
  a77 := Tryz.isAgg289
  z77 := Tryz.sizeOf289
  v77 := Tryz.zeroValue289 }
end Go.Proofs
/-
  The order of keys; Keys.
-/
namespace Go.Proofs.YtopeleenlcnkkaaGreatDoor
open Go Go.RowKit Go.Shelf Go.Sort
def cmp3 (a b : Int) : Int := if a < b then -1 else if b < a then 1 else 0
def orI (a b : Int) : Int := if a = 0 then b else a
def befC (a b : Int) : Int := orI (cmp3 (grp a) (grp b)) (cmp3 a b)
theorem befC_lt (a b : Int) : decide (befC a b < 0) = lessB a b := by
  rw [Bool.eq_iff_iff, lessB_iff]
  unfold befC orI cmp3
  simp only [decide_eq_true_eq]
  by_cases h1 : grp a < grp b
  · simp [h1]
  · by_cases h2 : grp b < grp a
    · simp [h1, h2]; omega
    · have : grp a = grp b := by omega
      simp [this]
      by_cases h3 : a < b
      · simp [h3]
      · by_cases h4 : b < a <;> simp [h3, h4]
set_option maxHeartbeats 400000 in
theorem cmp64 (a b : Int) (w : World) : Calls Tryz.prog 92 #[.int .i64 a, .int .i64 b] w fun e w' => e = .returned (.int .i64 (cmp3 a b)) ∧ w = w' := by
  by_cases h1 : a < b
  · have e : cmp3 a b = -1 := by simp [cmp3, h1]
    have E := Lib.hid e
    clear e
    go_enter Tryz.func92, Tryz.ntmps92
    go_wp2
    go_ret
    exact ⟨ret_int E.out.symm, rfl⟩
  · by_cases h2 : b < a
    · have e : cmp3 a b = 1 := by simp [cmp3, h1, h2]
      have E := Lib.hid e
      clear e
      go_enter Tryz.func92, Tryz.ntmps92
      go_wp2
      go_ret
      exact ⟨ret_int E.out.symm, rfl⟩
    · have e : cmp3 a b = 0 := by simp [cmp3, h1, h2]
      have E := Lib.hid e
      clear e
      go_enter Tryz.func92, Tryz.ntmps92
      go_wp2
      go_ret
      exact ⟨ret_int E.out.symm, rfl⟩
set_option maxHeartbeats 400000 in
theorem cmpInt (a b : Int) (w : World) : Calls Tryz.prog 96 #[.int .i64 a, .int .i64 b] w fun e w' => e = .returned (.int .i64 (cmp3 a b)) ∧ w = w' := by
  by_cases h1 : a < b
  · have e : cmp3 a b = -1 := by simp [cmp3, h1]
    have E := Lib.hid e
    clear e
    go_enter Tryz.func96, Tryz.ntmps96
    go_wp2
    go_ret
    exact ⟨ret_int E.out.symm, rfl⟩
  · by_cases h2 : b < a
    · have e : cmp3 a b = 1 := by simp [cmp3, h1, h2]
      have E := Lib.hid e
      clear e
      go_enter Tryz.func96, Tryz.ntmps96
      go_wp2
      go_ret
      exact ⟨ret_int E.out.symm, rfl⟩
    · have e : cmp3 a b = 0 := by simp [cmp3, h1, h2]
      have E := Lib.hid e
      clear e
      go_enter Tryz.func96, Tryz.ntmps96
      go_wp2
      go_ret
      exact ⟨ret_int E.out.symm, rfl⟩
set_option maxHeartbeats 400000 in
theorem or_any (a b : Int) (g cap : Nat) (w : World) (h0 : w.cell? ⟨g, 0, none⟩ = some (.int .i64 a)) (h1 : w.cell? ⟨g, 0 + 1, none⟩ = some (.int .i64 b)) :
    Calls Tryz.prog 95 #[.slice (some ⟨g, 0, none⟩) 2 cap] w fun e w' => e = .returned (.int .i64 (orI a b)) ∧ w = w' := by
  go_enter Tryz.func95, Tryz.ntmps95
  go_wp2
  go_loop [8] (fun i => ∃ k : Nat, k ≤ 2 ∧ i = .int .i64 k ∧ (1 ≤ k → a = 0) ∧ (2 ≤ k → b = 0)) (fun i => 2 - (intOf i).toNat)
  case atStart => exact ⟨0, by omega, rfl, by omega, by omega⟩
  case round =>
    obtain ⟨k, hk, rfl, ha, hb⟩ := hrel
    have hk3 : k = 0 ∨ k = 1 ∨ k = 2 := by omega
    rcases hk3 with rfl | rfl | rfl
    · clear ha hb
      by_cases hz : a = 0
      · subst hz
        go_wp2
        go_round
        case rel => exact ⟨1, by omega, by go_num, fun _ => (by simp), by omega⟩
        case measure => simp [intOf]
      · have hz1 : (a != 0) = true := by simp [hz]
        go_wp2
        go_ret
        exact ⟨ret_int (by unfold orI; rw [if_neg hz]), rfl⟩
    · have ha' := ha (Nat.le_refl _)
      clear ha hb
      have A := Lib.hid ha'
      clear ha'
      by_cases hz : b = 0
      · subst hz
        go_wp2
        go_round
        case rel => exact ⟨2, by omega, by go_num, fun _ => A.out, fun _ => (by simp)⟩
        case measure => simp [intOf]
      · have hz1 : (b != 0) = true := by simp [hz]
        go_wp2
        go_ret
        exact ⟨ret_int (by unfold orI; rw [if_pos A.out]), rfl⟩
    · have A := Lib.hid (And.intro (ha (by omega)) (hb (by omega)))
      clear ha hb
      go_wp2
      go_ret
      exact ⟨ret_int (by unfold orI; rw [if_pos A.out.1, A.out.2]), rfl⟩
theorem alloc_grow (w : World) (o : Obj) : w.alloc o = grow (w.drewN 0) #[o] := by
  unfold grow World.alloc
  rw [Array.push_eq_append]
  rfl
set_option maxRecDepth 100000 in
set_option maxHeartbeats 400000 in
theorem before_any (a b : Int) (w : World) : Calls Tryz.prog 58 #[.int .i64 a, .int .i64 b] w fun e w' => e = .returned (.int .i64 (befC a b)) ∧ ∃ q os', w' = grow (w.drewN q) os' := by
  go_enter Tryz.func58, Tryz.ntmps58
  go_wp2_with fail
  refine (of_any _ _).mono ?_; rintro e w' ⟨rfl, rfl⟩
  go_wp2_with fail
  refine (of_any _ _).mono ?_; rintro e w' ⟨rfl, rfl⟩
  go_wp2_with fail
  refine (cmpInt _ _ _).mono ?_; rintro e w' ⟨rfl, rfl⟩
  go_wp2_with fail
  refine (cmp64 _ _ _).mono ?_; rintro e w' ⟨rfl, rfl⟩
  go_wp2_with fail
  refine (or_any (cmp3 (grp a) (grp b)) (cmp3 a b) w.heap.size 2 _ (by simp) (by simp)).mono ?_; rintro e w' ⟨rfl, rfl⟩
  go_wp2_with fail
  go_ret
  exact ⟨rfl, 0, _, alloc_grow _ _⟩
end Go.Proofs.YtopeleenlcnkkaaGreatDoor
/-
  Keys: all keys, in order.
-/
namespace Go.Proofs.YtopeleenlcnkkaaGreatDoor
open Go Go.RowKit Go.Shelf
def unitR : Value → Option (DataW Unit × List MemPlace) := fun _ => some (.lit (.bool true), [])
theorem R64.wf {n : Int} (h : R64 n) : (Lit.int .i64 n).wf = true := by
  unfold R64 at h
  exact WalkArith.wf_i64 h
theorem rg_ent {t : T3} (h : R64 t.1) : WideElems.rd Tryz.prog 2 unitR (ent t) = some (.int .i64 t.1, .lit (.bool true)) ∧ WideElems.rg Tryz.prog 2 unitR (ent t) = (.int .i64 t.1, .lit (.bool true)) := by
  have h1 : WideElems.rd Tryz.prog 2 unitR (ent t) = some (.int .i64 t.1, .lit (.bool true)) := by
    unfold WideElems.rd
    rw [show (ent t).key = .int .i64 t.1 from rfl, Maps.keyOf_int_mk Tryz.underlying2 h.wf]
    rfl
  exact ⟨h1, by unfold WideElems.rg; rw [h1]; rfl⟩
theorem MapL.owns {w : World} {m : Nat} {l : List (Int × Value)} (h : MapL w m l) (hk : ∀ p ∈ l, R64 p.1) (hl : l.length ≤ maxLen) :
    ∃ D : DataW Unit, w.ownsMap Tryz.prog 2 unitR m l.length D ∧ (intKeys D).Perm (l.map (·.1)) ∧ Maps.size D = l.length := by
  obtain ⟨L, clock, h, rfl⟩ := h
  have hk' : ∀ t ∈ L, R64 t.1 := fun t ht => hk (kv t) (List.mem_map.2 ⟨t, ht, rfl⟩)
  have hmap : (L.map ent).map (WideElems.rg Tryz.prog 2 unitR) = L.map (fun t => (Lit.int .i64 t.1, DataW.lit (.bool true))) := by
    rw [List.map_map]
    apply List.map_congr_left
    intro t ht
    have := (rg_ent (hk' t ht)).2
    rw [Function.comp_apply, this]
  have hsz : ((L.map ent).toArray).size ≤ maxLen := by rw [List.size_toArray, List.length_map]; rw [List.length_map] at hl; exact hl
  have hsz2 : ((L.map ent).toArray).size ≤ (L.map kv).length := by simp
  refine ⟨.map (List.foldr DataW.insert [] (List.map (WideElems.rg Tryz.prog 2 unitR) (L.map ent).toArray.toList)), ⟨(L.map ent).toArray, clock, h.heap, ⟨hsz, ⟨?_, ?_, ?_⟩, ?_⟩, hsz2, rfl⟩, ?_, ?_⟩
  · intro x hx
    rw [List.toList_toArray] at hx
    obtain ⟨t, ht, rfl⟩ := List.mem_map.1 hx
    exact h.old t ht
  · simpa [ent, Function.comp_def] using h.born
  · have : (L.map ent).toArray.toList.map (·.key) = (L.map (·.1)).map (Value.int .i64) := by simp [ent, Function.comp_def]
    rw [this]
    exact List.Pairwise.map _ (fun a b hab e => hab (by simpa using e)) h.keys
  · intro x hx
    rw [List.toList_toArray] at hx
    obtain ⟨t, ht, rfl⟩ := List.mem_map.1 hx
    exact ⟨_, (rg_ent (hk' t ht)).1⟩
  · show (List.map (fun p => _root_.Go.intOf p.1) (List.foldr DataW.insert [] (((L.map ent).toArray.toList).map (WideElems.rg Tryz.prog 2 unitR)))).Perm _
    rw [List.toList_toArray, hmap]
    refine ((WideShapes.sorted_perm _).map _).trans ?_
    simp [_root_.Go.intOf, kv, Function.comp_def]
  · show (List.foldr DataW.insert [] (((L.map ent).toArray.toList).map (WideElems.rg Tryz.prog 2 unitR))).length = _
    rw [length_sorted]
    simp
end Go.Proofs.YtopeleenlcnkkaaGreatDoor
