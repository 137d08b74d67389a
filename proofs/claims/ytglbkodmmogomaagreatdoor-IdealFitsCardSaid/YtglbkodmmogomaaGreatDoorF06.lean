/-
  DERIVED: THE SHELF's CONTRACTS AT THIS DUMP, IN PLAIN WORDS (tools/lay-plain.mjs out of 'YtglbkodmmogomaaGreatDoorShelf.lean', which tools/lay-shelf.mjs wrote): THE SAME DECLARATIONS UNDER THE SAME NAMES: 'import', 'namespace', 'open', 'def', 'theorem' AND NOTHING ELSE: no command of the shelf's: FOR A HAND-IN. Each laying: the table of numbers ('.._ren') and one theorem, a field a fact of the dump's own or the kernel's comparison; each contract: ONE APPLICATION.
-/
import Derived.Test.YtglbkodmmogomaaGreatDoorProg
import Derived.Shelf.SlGeneric
import Derived.Shelf.SlIterI.Collect
import Derived.Shelf.SlIterI.Keys
import Derived.Shelf.SlIterI.Nil
import Derived.Shelf.SlSortCmp.Whole1
import Derived.Shelf.SlSortCmp.NoneTotal
import Derived.Ground.GgzProg
import Derived.Ground.SlsfProg
import Derived.Test.YtglbkodmmogomaaGreatDoorF05
import Derived.Sort.OwnSortedInts
import Derived.Test.YtglbkodmmogomaaGreatDoorChecked
import Derived.ProofKit
import Derived.OpenShut
import Derived.ShutString
import Derived.ChangeOld
import Derived.Below
import Derived.Deep.Slices
import Derived.ChangeCalls
set_option linter.unusedVariables false
set_option linter.unusedSimpArgs false
namespace Go.Proofs
open Go.Shelf
def Tryz.keysL_ren : Go.Shelf.Ren := ⟨fun | 7 => 90 | 10 => 137 | n => n, fun | 23 => 113 | 26 => 2 | 3 => 109 | 28 => 169 | 0 => 0 | 27 => 168 | 33 => 188 | 4 => 4 | n => n, fun | n => n⟩
theorem Tryz.keysL : Go.Proofs.SlLaysZI.n7 Tryz.prog Tryz.keysL_ren := {
  mixed := by kernel_rfl
  f7 := ⟨Tryz.f90.name, by decide, Tryz.func90.trans (congrArg some (by kernel_rfl))⟩
  f10 := ⟨Tryz.f137.name, by decide, Tryz.func137.trans (congrArg some (by kernel_rfl))⟩
  t0 := Tryz.underlying0
  a0 := Tryz.isAgg0
  z0 := Tryz.sizeOf0
  v0 := Tryz.zeroValue0
  t4 := Tryz.underlying4
  a4 := Tryz.isAgg4
  z4 := Tryz.sizeOf4
  v4 := Tryz.zeroValue4
  t23 := Tryz.underlying113
  a23 := Tryz.isAgg113
  z23 := Tryz.sizeOf113
  v23 := Tryz.zeroValue113
  t26 := Tryz.underlying2
  a26 := Tryz.isAgg2
  z26 := Tryz.sizeOf2
  v26 := Tryz.zeroValue2
  t27 := Tryz.underlying168
  a27 := Tryz.isAgg168
  z27 := Tryz.sizeOf168
  v27 := Tryz.zeroValue168
  t28 := Tryz.underlying169
  a28 := Tryz.isAgg169
  z28 := Tryz.sizeOf169
  v28 := Tryz.zeroValue169
  t33 := Tryz.underlying188
  a33 := Tryz.isAgg188
  z33 := Tryz.sizeOf188
  v33 := Tryz.zeroValue188 }
def Tryz.collectL_ren : Go.Shelf.Ren := ⟨fun | 8 => 135 | 11 => 169 | n => n, fun | 26 => 2 | 28 => 169 | 24 => 97 | 0 => 0 | 33 => 188 | 4 => 4 | n => n, fun | n => n⟩
theorem Tryz.collectL : Go.Proofs.SlLaysZI.n8 Tryz.prog Tryz.collectL_ren := {
  mixed := by kernel_rfl
  f8 := ⟨Tryz.f135.name, by decide, Tryz.func135.trans (congrArg some (by kernel_rfl))⟩
  f11 := ⟨Tryz.f169.name, by decide, Tryz.func169.trans (congrArg some (by kernel_rfl))⟩
  t0 := Tryz.underlying0
  a0 := Tryz.isAgg0
  z0 := Tryz.sizeOf0
  v0 := Tryz.zeroValue0
  t24 := Tryz.underlying97
  a24 := Tryz.isAgg97
  z24 := Tryz.sizeOf97
  v24 := Tryz.zeroValue97
  t26 := Tryz.underlying2
  a26 := Tryz.isAgg2
  z26 := Tryz.sizeOf2
  v26 := Tryz.zeroValue2
  t28 := Tryz.underlying169
  a28 := Tryz.isAgg169
  z28 := Tryz.sizeOf169
  v28 := Tryz.zeroValue169
  i26 := by kernel_rfl }
def Tryz.sortL_ren : Go.Shelf.Ren := ⟨fun | 6 => 136 | 15 => 171 | 14 => 170 | 28 => 208 | 29 => 209 | 20 => 200 | 21 => 201 | 22 => 202 | 23 => 203 | 24 => 204 | 25 => 205 | 26 => 206 | 27 => 207 | 46 => 235 | 47 => 236 | 48 => 237 | 49 => 238 | 50 => 239 | 57 => 261 | n => n, fun | 22 => 97 | 24 => 2 | 25 => 110 | 3 => 3 | 39 => 212 | 0 => 0 | 53 => 288 | 55 => 174 | 4 => 4 | 46 => 282 | 45 => 281 | 50 => 229 | 5 => 5 | 9 => 9 | 66 => 312 | 70 => 316 | 76 => 330 | 77 => 331 | n => n, fun | n => n⟩
theorem Tryz.sortL : Go.Proofs.SlLaysF.n6 Tryz.prog Tryz.sortL_ren := {
  mixed := by kernel_rfl
  f6 := ⟨Tryz.f136.name, by decide, Tryz.func136.trans (congrArg some (by kernel_rfl))⟩
  f14 := ⟨Tryz.f170.name, by decide, Tryz.func170.trans (congrArg some (by kernel_rfl))⟩
  f15 := Tryz.func171.trans (congrArg some (by kernel_rfl))
  f20 := ⟨Tryz.f200.name, by decide, Tryz.func200.trans (congrArg some (by kernel_rfl))⟩
  f21 := ⟨Tryz.f201.name, by decide, Tryz.func201.trans (congrArg some (by kernel_rfl))⟩
  f22 := ⟨Tryz.f202.name, by decide, Tryz.func202.trans (congrArg some (by kernel_rfl))⟩
  f23 := ⟨Tryz.f203.name, by decide, Tryz.func203.trans (congrArg some (by kernel_rfl))⟩
  f24 := ⟨Tryz.f204.name, by decide, Tryz.func204.trans (congrArg some (by kernel_rfl))⟩
  f25 := ⟨Tryz.f205.name, by decide, Tryz.func205.trans (congrArg some (by kernel_rfl))⟩
  f26 := ⟨Tryz.f206.name, by decide, Tryz.func206.trans (congrArg some (by kernel_rfl))⟩
  f27 := ⟨Tryz.f207.name, by decide, Tryz.func207.trans (congrArg some (by kernel_rfl))⟩
  f28 := Tryz.func208.trans (congrArg some (by kernel_rfl))
  f29 := Tryz.func209.trans (congrArg some (by kernel_rfl))
  f46 := ⟨Tryz.f235.name, by decide, Tryz.func235.trans (congrArg some (by kernel_rfl))⟩
  f47 := Tryz.func236.trans (congrArg some (by kernel_rfl))
  f48 := Tryz.func237.trans (congrArg some (by kernel_rfl))
  f49 := ⟨Tryz.f238.name, by decide, Tryz.func238.trans (congrArg some (by kernel_rfl))⟩
  f50 := ⟨Tryz.f239.name, by decide, Tryz.func239.trans (congrArg some (by kernel_rfl))⟩
  f57 := ⟨Tryz.f261.name, by decide, Tryz.func261.trans (congrArg some (by kernel_rfl))⟩
  t0 := Tryz.underlying0
  a0 := Tryz.isAgg0
  z0 := Tryz.sizeOf0
  v0 := Tryz.zeroValue0
  t3 := Tryz.underlying3
  a3 := Tryz.isAgg3
  z3 := Tryz.sizeOf3
  v3 := Tryz.zeroValue3
  t4 := Tryz.underlying4
  a4 := Tryz.isAgg4
  z4 := Tryz.sizeOf4
  v4 := Tryz.zeroValue4
  t5 := Tryz.underlying5
  a5 := Tryz.isAgg5
  z5 := Tryz.sizeOf5
  v5 := Tryz.zeroValue5
  t9 := Tryz.underlying9
  a9 := Tryz.isAgg9
  z9 := Tryz.sizeOf9
  v9 := Tryz.zeroValue9
  t22 := Tryz.underlying97
  a22 := Tryz.isAgg97
  z22 := Tryz.sizeOf97
  v22 := Tryz.zeroValue97
  a24 := Tryz.isAgg2
  z24 := Tryz.sizeOf2
  t25 := Tryz.underlying110
  a25 := Tryz.isAgg110
  z25 := Tryz.sizeOf110
  v25 := Tryz.zeroValue110
  t39 := Tryz.underlying212
  a39 := Tryz.isAgg212
  z39 := Tryz.sizeOf212
  v39 := Tryz.zeroValue212
  t45 := Tryz.underlying281
  a45 := Tryz.isAgg281
  z45 := Tryz.sizeOf281
  v45 := Tryz.zeroValue281
  t46 := Tryz.underlying282
  a46 := Tryz.isAgg282
  z46 := Tryz.sizeOf282
  v46 := Tryz.zeroValue282
  t50 := Tryz.underlying229
  a50 := Tryz.isAgg229
  z50 := Tryz.sizeOf229
  v50 := Tryz.zeroValue229
  t53 := Tryz.underlying288
  a53 := Tryz.isAgg288
  z53 := Tryz.sizeOf288
  v53 := Tryz.zeroValue288
  t55 := Tryz.underlying174
  a55 := Tryz.isAgg174
  z55 := Tryz.sizeOf174
  v55 := Tryz.zeroValue174
  t66 := Tryz.underlying312
  a66 := Tryz.isAgg312
  z66 := Tryz.sizeOf312
  v66 := Tryz.zeroValue312
  t70 := Tryz.underlying316
  a70 := Tryz.isAgg316
  z70 := Tryz.sizeOf316
  v70 := Tryz.zeroValue316
  t76 := Tryz.underlying330
  a76 := Tryz.isAgg330
  z76 := Tryz.sizeOf330
  v76 := Tryz.zeroValue330
  t77 := Tryz.underlying331
  a77 := Tryz.isAgg331
  z77 := Tryz.sizeOf331
  v77 := Tryz.zeroValue331 }
end Go.Proofs
/-
  The order of keys; Keys.
-/
namespace Go.Proofs.YtglbkodmmogomaaGreatDoor
open Go Go.RowKit Go.Shelf Go.Sort
def cmp3 (a b : Int) : Int := if a < b then -1 else if b < a then 1 else 0
def orI (a b : Int) : Int := if a = 0 then b else a
def befC (a b : Int) : Int := orI (cmp3 (grp a) (grp b)) (cmp3 a b)
theorem befC_lt (a b : Int) : decide (befC a b < 0) = lessB a b := by
  rw [Bool.eq_iff_iff, lessB_iff]
  unfold befC orI cmp3
  simp only [decide_eq_true_eq]
  by_cases h1 : grp a < grp b
  · simp [h1]
  · by_cases h2 : grp b < grp a
    · simp [h1, h2]; omega
    · have : grp a = grp b := by omega
      simp [this]
      by_cases h3 : a < b
      · simp [h3]
      · by_cases h4 : b < a <;> simp [h3, h4]
set_option maxHeartbeats 400000 in
theorem cmp64 (a b : Int) (w : World) : Calls Tryz.prog 99 #[.int .i64 a, .int .i64 b] w fun e w' => e = .returned (.int .i64 (cmp3 a b)) ∧ w = w' := by
  by_cases h1 : a < b
  · have e : cmp3 a b = -1 := by simp [cmp3, h1]
    have E := Lib.hid e
    clear e
    go_enter Tryz.func99, Tryz.ntmps99
    go_wp2
    go_ret
    exact ⟨ret_int E.out.symm, rfl⟩
  · by_cases h2 : b < a
    · have e : cmp3 a b = 1 := by simp [cmp3, h1, h2]
      have E := Lib.hid e
      clear e
      go_enter Tryz.func99, Tryz.ntmps99
      go_wp2
      go_ret
      exact ⟨ret_int E.out.symm, rfl⟩
    · have e : cmp3 a b = 0 := by simp [cmp3, h1, h2]
      have E := Lib.hid e
      clear e
      go_enter Tryz.func99, Tryz.ntmps99
      go_wp2
      go_ret
      exact ⟨ret_int E.out.symm, rfl⟩
set_option maxHeartbeats 400000 in
theorem cmpInt (a b : Int) (w : World) : Calls Tryz.prog 98 #[.int .i64 a, .int .i64 b] w fun e w' => e = .returned (.int .i64 (cmp3 a b)) ∧ w = w' := by
  by_cases h1 : a < b
  · have e : cmp3 a b = -1 := by simp [cmp3, h1]
    have E := Lib.hid e
    clear e
    go_enter Tryz.func98, Tryz.ntmps98
    go_wp2
    go_ret
    exact ⟨ret_int E.out.symm, rfl⟩
  · by_cases h2 : b < a
    · have e : cmp3 a b = 1 := by simp [cmp3, h1, h2]
      have E := Lib.hid e
      clear e
      go_enter Tryz.func98, Tryz.ntmps98
      go_wp2
      go_ret
      exact ⟨ret_int E.out.symm, rfl⟩
    · have e : cmp3 a b = 0 := by simp [cmp3, h1, h2]
      have E := Lib.hid e
      clear e
      go_enter Tryz.func98, Tryz.ntmps98
      go_wp2
      go_ret
      exact ⟨ret_int E.out.symm, rfl⟩
set_option maxHeartbeats 400000 in
theorem or_any (a b : Int) (g cap : Nat) (w : World) (h0 : w.cell? ⟨g, 0, none⟩ = some (.int .i64 a)) (h1 : w.cell? ⟨g, 0 + 1, none⟩ = some (.int .i64 b)) :
    Calls Tryz.prog 97 #[.slice (some ⟨g, 0, none⟩) 2 cap] w fun e w' => e = .returned (.int .i64 (orI a b)) ∧ w = w' := by
  go_enter Tryz.func97, Tryz.ntmps97
  go_wp2
  go_loop [8] (fun i => ∃ k : Nat, k ≤ 2 ∧ i = .int .i64 k ∧ (1 ≤ k → a = 0) ∧ (2 ≤ k → b = 0)) (fun i => 2 - (intOf i).toNat)
  case atStart => exact ⟨0, by omega, rfl, by omega, by omega⟩
  case round =>
    obtain ⟨k, hk, rfl, ha, hb⟩ := hrel
    have hk3 : k = 0 ∨ k = 1 ∨ k = 2 := by omega
    rcases hk3 with rfl | rfl | rfl
    · clear ha hb
      by_cases hz : a = 0
      · subst hz
        go_wp2
        go_round
        case rel => exact ⟨1, by omega, by go_num, fun _ => (by simp), by omega⟩
        case measure => simp [intOf]
      · have hz1 : (a != 0) = true := by simp [hz]
        go_wp2
        go_ret
        exact ⟨ret_int (by unfold orI; rw [if_neg hz]), rfl⟩
    · have ha' := ha (Nat.le_refl _)
      clear ha hb
      have A := Lib.hid ha'
      clear ha'
      by_cases hz : b = 0
      · subst hz
        go_wp2
        go_round
        case rel => exact ⟨2, by omega, by go_num, fun _ => A.out, fun _ => (by simp)⟩
        case measure => simp [intOf]
      · have hz1 : (b != 0) = true := by simp [hz]
        go_wp2
        go_ret
        exact ⟨ret_int (by unfold orI; rw [if_pos A.out]), rfl⟩
    · have A := Lib.hid (And.intro (ha (by omega)) (hb (by omega)))
      clear ha hb
      go_wp2
      go_ret
      exact ⟨ret_int (by unfold orI; rw [if_pos A.out.1, A.out.2]), rfl⟩
theorem alloc_grow (w : World) (o : Obj) : w.alloc o = grow (w.drewN 0) #[o] := by
  unfold grow World.alloc
  rw [Array.push_eq_append]
  rfl
set_option maxRecDepth 100000 in
set_option maxHeartbeats 400000 in
theorem before_any (a b : Int) (w : World) : Calls Tryz.prog 50 #[.int .i64 a, .int .i64 b] w fun e w' => e = .returned (.int .i64 (befC a b)) ∧ ∃ q os', w' = grow (w.drewN q) os' := by
  go_enter Tryz.func50, Tryz.ntmps50
  go_wp2_with fail
  refine (of_any _ _).mono ?_; rintro e w' ⟨rfl, rfl⟩
  go_wp2_with fail
  refine (of_any _ _).mono ?_; rintro e w' ⟨rfl, rfl⟩
  go_wp2_with fail
  refine (cmpInt _ _ _).mono ?_; rintro e w' ⟨rfl, rfl⟩
  go_wp2_with fail
  refine (cmp64 _ _ _).mono ?_; rintro e w' ⟨rfl, rfl⟩
  go_wp2_with fail
  refine (or_any (cmp3 (grp a) (grp b)) (cmp3 a b) w.heap.size 2 _ (by simp) (by simp)).mono ?_; rintro e w' ⟨rfl, rfl⟩
  go_wp2_with fail
  go_ret
  exact ⟨rfl, 0, _, alloc_grow _ _⟩
end Go.Proofs.YtglbkodmmogomaaGreatDoor
/-
  Keys: all keys, in order.
-/
namespace Go.Proofs.YtglbkodmmogomaaGreatDoor
open Go Go.RowKit Go.Shelf
def unitR : Value → Option (DataW Unit × List MemPlace) := fun _ => some (.lit (.bool true), [])
theorem R64.wf {n : Int} (h : R64 n) : (Lit.int .i64 n).wf = true := by
  unfold R64 at h
  exact WalkArith.wf_i64 h
theorem rg_ent {t : T3} (h : R64 t.1) : WideElems.rd Tryz.prog 2 unitR (ent t) = some (.int .i64 t.1, .lit (.bool true)) ∧ WideElems.rg Tryz.prog 2 unitR (ent t) = (.int .i64 t.1, .lit (.bool true)) := by
  have h1 : WideElems.rd Tryz.prog 2 unitR (ent t) = some (.int .i64 t.1, .lit (.bool true)) := by
    unfold WideElems.rd
    rw [show (ent t).key = .int .i64 t.1 from rfl, Maps.keyOf_int_mk Tryz.underlying2 h.wf]
    rfl
  exact ⟨h1, by unfold WideElems.rg; rw [h1]; rfl⟩
theorem MapL.owns {w : World} {m : Nat} {l : List (Int × Value)} (h : MapL w m l) (hk : ∀ p ∈ l, R64 p.1) (hl : l.length ≤ maxLen) :
    ∃ D : DataW Unit, w.ownsMap Tryz.prog 2 unitR m l.length D ∧ (intKeys D).Perm (l.map (·.1)) ∧ Maps.size D = l.length := by
  obtain ⟨L, clock, h, rfl⟩ := h
  have hk' : ∀ t ∈ L, R64 t.1 := fun t ht => hk (kv t) (List.mem_map.2 ⟨t, ht, rfl⟩)
  have hmap : (L.map ent).map (WideElems.rg Tryz.prog 2 unitR) = L.map (fun t => (Lit.int .i64 t.1, DataW.lit (.bool true))) := by
    rw [List.map_map]
    apply List.map_congr_left
    intro t ht
    have := (rg_ent (hk' t ht)).2
    rw [Function.comp_apply, this]
  have hsz : ((L.map ent).toArray).size ≤ maxLen := by rw [List.size_toArray, List.length_map]; rw [List.length_map] at hl; exact hl
  have hsz2 : ((L.map ent).toArray).size ≤ (L.map kv).length := by simp
  refine ⟨.map (List.foldr DataW.insert [] (List.map (WideElems.rg Tryz.prog 2 unitR) (L.map ent).toArray.toList)), ⟨(L.map ent).toArray, clock, h.heap, ⟨hsz, ⟨?_, ?_, ?_⟩, ?_⟩, hsz2, rfl⟩, ?_, ?_⟩
  · intro x hx
    rw [List.toList_toArray] at hx
    obtain ⟨t, ht, rfl⟩ := List.mem_map.1 hx
    exact h.old t ht
  · simpa [ent, Function.comp_def] using h.born
  · have : (L.map ent).toArray.toList.map (·.key) = (L.map (·.1)).map (Value.int .i64) := by simp [ent, Function.comp_def]
    rw [this]
    exact List.Pairwise.map _ (fun a b hab e => hab (by simpa using e)) h.keys
  · intro x hx
    rw [List.toList_toArray] at hx
    obtain ⟨t, ht, rfl⟩ := List.mem_map.1 hx
    exact ⟨_, (rg_ent (hk' t ht)).1⟩
  · show (List.map (fun p => _root_.Go.intOf p.1) (List.foldr DataW.insert [] (((L.map ent).toArray.toList).map (WideElems.rg Tryz.prog 2 unitR)))).Perm _
    rw [List.toList_toArray, hmap]
    refine ((WideShapes.sorted_perm _).map _).trans ?_
    simp [_root_.Go.intOf, kv, Function.comp_def]
  · show (List.foldr DataW.insert [] (((L.map ent).toArray.toList).map (WideElems.rg Tryz.prog 2 unitR))).length = _
    rw [length_sorted]
    simp
end Go.Proofs.YtglbkodmmogomaaGreatDoor
/-
  Keys: all keys, in order (its walk).
-/
namespace Go.Proofs.YtglbkodmmogomaaGreatDoor
open Go Go.RowKit Go.Shelf Go.Sort
theorem ltOf_bef (x y : Int) : ltOf befC x y = lessB x y := by unfold ltOf; exact befC_lt x y
theorem swo_bef : SWO (ltOf befC) where
  irrefl x := by rw [ltOf_bef]; exact lessB_irrefl x
  trans x y z h1 h2 := by rw [ltOf_bef] at *; exact lessB_trans h1 h2
  ntrans x y z h1 h2 := by
    rw [ltOf_bef] at *
    cases h : lessB x z
    · rfl
    · rw [lessB_iff] at h
      have h1' : ¬ lessB x y = true := by simp [h1]
      have h2' : ¬ lessB y z = true := by simp [h2]
      rw [lessB_iff] at h1' h2'
      omega
theorem sorted_keys {T : Tab} (hT : Rises T) {ss : List Int} (hp : ss.Perm (tkeys T)) : (ss.mergeSort fun x y => !(ltOf befC) y x) = tkeys T := by
  have e : (fun x y => !(ltOf befC) y x) = fun x y => !lessB y x := by funext x y; rw [ltOf_bef]
  rw [e]
  have tr : ∀ a b c : Int, (!lessB b a) = true → (!lessB c b) = true → (!lessB c a) = true := fun a b c h1 h2 => by
    simp only [Bool.not_eq_true'] at *
    have := swo_bef.ntrans c b a (by rw [ltOf_bef]; exact h2) (by rw [ltOf_bef]; exact h1)
    rwa [ltOf_bef] at this
  have to : ∀ a b : Int, (!lessB b a || !lessB a b) = true := fun a b => by
    by_cases h : a = b
    · subst h; rw [lessB_irrefl]; rfl
    · rcases lessB_total h with h' | h'
      · rw [lessB_asymm h']; rfl
      · rw [lessB_asymm h']; simp
  refine List.Perm.eq_of_pairwise (le := fun a b => (!lessB b a) = true) (fun a b _ _ h1 h2 => ?_) (List.pairwise_mergeSort tr to ss) ?_ ((List.mergeSort_perm ss _).trans hp)
  · simp only [Bool.not_eq_true'] at h1 h2
    by_cases h : a = b
    · exact h
    · rcases lessB_total h with h' | h'
      · rw [h'] at h2; cases h2
      · rw [h'] at h1; cases h1
  · unfold tkeys
    rw [List.pairwise_map]
    exact hT.imp fun {a b} h => by rw [lessB_asymm h]; rfl
theorem keysMaps (m : Nat) (w : World) : Calls Tryz.prog 90 #[.map (some m)] w fun e w' => e = .returned (.func (.func 137) #[] #[.pointer (some ⟨w.heap.size, 0, none⟩)]) ∧ w' = w.alloc (.cells #[.map (some m)] 113) :=
  callsIn_wide.1 (AnyZI.keys_in Tryz.keysL Fence.wide 3 trivial rfl (some m) w)
theorem collect_any (m Bm : Nat) (T : Tab) (l : List (Int × Value)) (w : World) (hl : MapL w m l) (hperm : (l.map (·.1)).Perm (tkeys T)) (hT : TOk T) (hc : w.cell? ⟨Bm, 0, none⟩ = some (.map (some m))) :
    Calls Tryz.prog 135 #[.func (.func 137) #[] #[.pointer (some ⟨Bm, 0, none⟩)]] w fun e w' => ∃ (v : Value) (ss : List Int), e = .returned v ∧ ss.Perm (tkeys T) ∧ w'.ownsRow w.heap.size 2 1 v ss.length (ss.map (Value.int .i64)) ∧ (v = .slice none 0 0 ↔ ss = []) ∧ Kept none' w w' := by
  have hR : ∀ p ∈ l, R64 p.1 := fun p hp => by
    have : p.1 ∈ tkeys T := hperm.mem_iff.1 (List.mem_map.2 ⟨p, hp, rfl⟩)
    obtain ⟨q, hq, e⟩ := List.mem_map.1 this
    rw [← e]; exact hT.key q hq
  have hlen : l.length = T.length := by
    have := hperm.length_eq
    simpa [tkeys] using this
  have h320 := hT.len
  obtain ⟨D, hown, hk, hsz⟩ := hl.owns hR (by unfold maxLen; omega)
  have hseq := AnyZI.keys_gives (ρ := Tryz.keysL_ren) { Tryz.keysL with } Fence.wide 2 trivial rfl (by omega) Bm m l.length D w (block_lt_of_cell hc) hc hown
  have hcol := AnyZI.collect_in Tryz.collectL Fence.wide 4 trivial trivial rfl (by omega) 137 #[.pointer (some ⟨Bm, 0, none⟩)] trivial (enters_of Tryz.func137 (by kernel_rfl) rfl) (fun ss => ss.Perm (intKeys D)) (Maps.size D) (by rw [hsz]; unfold maxLen; omega) (by rw [hsz]; omega) w hseq
  refine (callsIn_wide.1 hcol).mono fun e w' ⟨v, ss, h1, h2, h3, h4, h5⟩ => ⟨v, ss, h1, (h2.trans hk).trans hperm, h3, h4, .of_below h5⟩
theorem cmpLays_bef (blk off size : Nat) (w : World) : CmpLays1 Tryz.prog 50 #[] (Value.int .i64) befC blk off size w :=
  fun _ _ _ _ x y => before_any x y _
/-- v holds the list l, in memory of its own. -/
def KeysQ (w : World) (l : List Int) (e : Ending) (w' : World) : Prop :=
  ∃ v, e = .returned v ∧ w'.ownsRow w.heap.size 2 1 v l.length (ints l) ∧ (v = .slice none 0 0 ↔ l = []) ∧ Kept none' w w'
theorem sort_any (v : Value) (T : Tab) (hT : TOk T) (ss : List Int) (base : Nat) (w : World) (hp : ss.Perm (tkeys T)) (hown : w.ownsRow base 2 1 v ss.length (ints ss)) (hne : ss ≠ []) :
    Calls Tryz.prog 136 #[v, .func (.func 50) #[] #[]] w fun e w' => e = .returned (.tuple #[]) ∧ w'.ownsRow base 2 1 v ss.length (ints (tkeys T)) ∧ ∀ k, v.ownBlock = some k → Kept (one k) w w' := by
  obtain ⟨hlen, h0 | ⟨g, cap, cur, rfl, hb, hg, hn, hc, hs, ht⟩⟩ := hown
  · have : ss = [] := List.eq_nil_of_length_eq_zero h0.2
    exact absurd this hne
  · have hlt : g < w.heap.size := (Array.getElem?_eq_some_iff.1 hg).1
    have hl320 : ss.length ≤ 320 := by rw [hp.length_eq]; unfold tkeys; rw [List.length_map]; exact hT.len
    have ht' : cur.toList.take ss.length = ss.map (Value.int .i64) := by rw [Nat.mul_one] at ht; exact ht
    have hH := holds_of_blockI hg ht'
    have hcon := Any.slices_SortFunc_total Tryz.sortL (Value.int .i64) (fun _ => rfl) befC swo_bef 50 #[] g 0 cap ss.toArray w (enters_of Tryz.func50 (by kernel_rfl) rfl) (cmpLays_bef g 0 _ w) hH hlt (by simp; omega)
      (fun x y h1 h2 => by
        rw [ltOf_bef] at h1 h2
        by_cases h : x = y
        · exact h
        · rcases lessB_total h with h' | h'
          · rw [h'] at h1; cases h1
          · rw [h'] at h2; cases h2)
    have hcon' : Calls Tryz.prog 136 #[.slice (some ⟨g, 0, none⟩) ss.length cap, .func (.func 50) #[] #[]] w fun e w' => e = .returned (.tuple #[]) ∧ ∃ n os, w' = grow (putRow (Value.int .i64) (Sort.ahead w n) g 0 (tkeys T).toArray) os := by
      have h1 := hcon
      rw [List.toList_toArray, sorted_keys hT.rises hp] at h1
      exact h1
    refine hcon'.mono fun e w' ⟨he, n, os, hw⟩ => ⟨he, ?_, ?_⟩
    · rw [hw]
      exact ownsRow_sortedI hp.length_eq.symm hb hg hn hc hs
    · intro k hk
      simp [Value.ownBlock] at hk
      subst hk
      rw [hw]
      exact Kept.grown (grownBy_sortedI _) (fun k hk _ => by cases hk; rfl)
set_option maxHeartbeats 400000 in
theorem sorted_any (m Bm : Nat) (T : Tab) (l : List (Int × Value)) (w : World) (hl : MapL w m l) (hperm : (l.map (·.1)).Perm (tkeys T)) (hT : TOk T) (hc : w.cell? ⟨Bm, 0, none⟩ = some (.map (some m))) :
    Calls Tryz.prog 89 #[.func (.func 137) #[] #[.pointer (some ⟨Bm, 0, none⟩)], .func (.func 50) #[] #[]] w (KeysQ w (tkeys T)) := by
  have h1 := collect_any m Bm T l w hl hperm hT hc
  have H1 := Lib.hid h1
  have HT := Lib.hid hT
  clear h1 hl hperm hT hc
  go_enter Tryz.func89, Tryz.ntmps89
  go_wp2_with fail
  refine H1.out.mono ?_
  rintro e w1 ⟨v, ss, rfl, hp, hown, hnil, hk⟩
  by_cases hne : ss = []
  · subst hne
    obtain rfl : v = .slice none 0 0 := hnil.2 rfl
    have hT0 : tkeys T = [] := List.eq_nil_of_length_eq_zero (by have := hp.length_eq; simpa using this.symm)
    have hcon := AnyF.slices_SortFunc_none { Tryz.sortL with } none 0 (.func (.func 50) #[] #[]) w1
    have hcon' : Calls Tryz.prog 136 #[.slice none 0 0, .func (.func 50) #[] #[]] w1 fun e w' => e = .returned (.tuple #[]) ∧ w' = w1 := hcon
    have F : KeysQ w (tkeys T) (.returned (.slice none 0 0)) w1 := ⟨_, rfl, by rw [hT0]; exact World.ownsRow_nil _ _ _ _, by rw [hT0]; simp, hk⟩
    have F' := Lib.hid F
    have HC := Lib.hid hcon'
    clear F hcon hcon' hp hown hnil hT0 hk
    go_wp2_with fail
    refine HC.out.mono ?_
    rintro e w2 ⟨rfl, rfl⟩
    go_wp2_with fail
    go_ret
    exact F'.out
  · have hcon := sort_any v T HT.out ss w.heap.size w1 hp hown hne
    have F : ∀ w2 : World, w2.ownsRow w.heap.size 2 1 v ss.length (ints (tkeys T)) → (∀ k, v.ownBlock = some k → Kept (one k) w1 w2) → KeysQ w (tkeys T) (.returned v) w2 := fun w2 h1 h2 => by
      have hl : ss.length = (tkeys T).length := hp.length_eq
      refine ⟨v, rfl, by rw [← hl]; exact h1, ?_, ?_⟩
      · rw [hnil]
        constructor
        · intro h; exact absurd h hne
        · intro h; rw [h] at hl; exact List.eq_nil_of_length_eq_zero hl
      · rcases hown.2 with ⟨_, h0⟩ | ⟨g, cap, cur, rfl, hb, _⟩
        · exact absurd (List.eq_nil_of_length_eq_zero h0) hne
        · exact hk.new (h2 g rfl) (fun k hk e => by unfold one at e; omega)
    have F' := Lib.hid F
    have HC := Lib.hid hcon
    obtain ⟨a, cap, rfl⟩ := owns_slice hown
    clear F hcon hp hown hnil hk
    go_wp2_with fail
    refine HC.out.mono ?_
    rintro e w2 ⟨rfl, g1, g2⟩
    have G := F'.out w2 g1 g2
    have G' := Lib.hid G
    clear G g1 g2
    go_wp2_with fail
    go_ret
    exact G'.out
set_option maxHeartbeats 400000 in
theorem keys_any (B : Nat → Prop) (b m : Nat) (T : Tab) (w : World) (h : TabAt w B b m T) : Calls Tryz.prog 42 #[.pointer (some ⟨b, 0, none⟩)] w (KeysQ w (tkeys T)) := by
  have hcb := h.cell
  obtain ⟨l, hml, hperm, hcs⟩ := h.map
  have HT := Lib.hid h.ok
  have HM := Lib.hid hml
  have HP := Lib.hid hperm
  clear h hml hperm hcs
  go_enter Tryz.func42, Tryz.ntmps42
  go_wp2_with fail
  refine (keysMaps m w).mono ?_
  rintro e w1 ⟨rfl, rfl⟩
  have k1 : Kept none' w (w.alloc (.cells #[.map (some m)] 113)) := (Kept.refl _ _).alloc _
  go_wp2_with fail
  refine (sorted_any m w.heap.size T l _ (HM.out.kept k1 (fun h => h)) HP.out HT.out (by simp)).mono ?_
  rintro e w2 ⟨v, rfl, g1, g2, g3⟩
  obtain ⟨a, cap, rfl⟩ := owns_slice g1
  have F : KeysQ w (tkeys T) (.returned (.slice a (tkeys T).length cap)) w2 := ⟨_, rfl, owns_base g1 (by simp), g2, k1.trans g3⟩
  have F' := Lib.hid F
  clear F g1 g2 g3
  go_wp2_with fail
  go_ret
  exact F'.out
end Go.Proofs.YtglbkodmmogomaaGreatDoor
/-
  slices.Equal of numbers; 'works' of layer 16.
-/
namespace Go.Proofs.YtglbkodmmogomaaGreatDoor
open Go Go.RowKit
theorem ints_get {l : List Int} {i : Nat} {x : Int} (h : l[i]? = some x) : (ints l)[i]? = some (.int .i64 x) := by simp [ints, h]
theorem Reads.at {w : World} {v : Value} {l : List Int} (h : Reads w 1 v (ints l)) : ∃ a cap, v = .slice a l.length cap ∧ l.length ≤ cap ∧ cap ≤ maxLen ∧ (l = [] ∨ ∃ b off, a = some ⟨b, off, none⟩ ∧ ∀ i x, l[i]? = some x → w.cell? ⟨b, off + i, none⟩ = some (.int .i64 x)) := by
  obtain ⟨a, n, cap, rfl, h1, h2, h3, h4⟩ := h
  have hn : n = l.length := by simpa using h3.symm
  subst hn
  refine ⟨a, cap, rfl, h1, h2, ?_⟩
  rcases h4 with h4 | ⟨b, off, rfl, h4⟩
  · left
    have : (ints l).length = 0 := by rw [h4]; rfl
    rw [ints_length] at this
    exact List.eq_nil_of_length_eq_zero this
  · exact .inr ⟨b, off, rfl, fun i x hx => h4 i _ (ints_get hx)⟩
theorem ret_bool {a b : Bool} (h : a = b) : Ending.returned (.bool a) = .returned (.bool b) := by rw [h]
end Go.Proofs.YtglbkodmmogomaaGreatDoor
/-
  'works' of layer 16.
-/
namespace Go.Proofs.YtglbkodmmogomaaGreatDoor
open Go Go.RowKit
theorem TabAt.lt {w : World} {B : Nat → Prop} {b m : Nat} {T : Tab} (h : TabAt w B b m T) : m < w.heap.size ∧ b < w.heap.size := by
  obtain ⟨l, hl, _⟩ := h.map
  exact ⟨hl.lt, (Array.getElem?_eq_some_iff.1 h.obj).1⟩
theorem PutQ.none {w0 w w' : World} {B : Nat → Prop} {b m : Nat} {T : Tab} {k : Int} {c : Cell} {e : Ending} (h : PutQ w B b m T k c e w') (hk : Kept none' w0 w) (hm : w0.heap.size ≤ m) : Kept none' w0 w' :=
  hk.new h.2.2 (fun i hi e => by unfold one at e; omega)
end Go.Proofs.YtglbkodmmogomaaGreatDoor
/-
  WHAT THE ROWS SHARE: a slice that came in, of whatever elements, opened as a list of cells; the calls of a table that came in (a slice of structs); the row's step for a law that writes nothing that was there.
-/
namespace Go.Proofs.YtglbkodmmogomaaGreatDoor
open Go Go.RowKit Go.ChangeShapes Go.WideShapes Go.ChangeAt Go.Deep

theorem R64.of_wf {n : Int} (h : (Lit.int .i64 n).wf = true) : R64 n := by
  have h2 : IntKind.i64.min ≤ n ∧ n ≤ 9223372036854775807 := by simpa [Lit.wf] using h
  exact ⟨by have : IntKind.i64.min = -9223372036854775808 := by decide
            omega, h2.2⟩
theorem spot_of_cell {w : World} {x : Addr} {v : Value} (h : w.cell? x = some v) : x = ⟨x.block, x.off, none⟩ := by
  unfold World.cell? at h
  split at h
  · by_cases hs : x.spot.isSome = true
    · rw [if_pos hs] at h; cases h
    · have : x.spot = none := by simpa using hs
      cases x; simp only at this; rw [this]
  · cases h

section
variable {H : Type} {enc : TypeId × Value → H} {P : Program} {w : World}
/-- A SLICE THAT CAME IN: its cells as one list, and each element's cells read at the element's type. -/
theorem open_reads {t e : TypeId} {k fuel n cap : Nat} {a : Option Addr} {x : DataW H × List MemPlace} (ht : P.underlying t = some (.slice e)) (hk : P.cellsOf e = k) (hk0 : 0 < k)
    (h : DataW.trod enc P w 0 (fun _ => true) true fuel t [.slice a n cap] = some x) :
    ∃ cs : List Value, cs.length = n * k ∧ Reads w k (.slice a n cap) cs ∧ ∀ i, i < n → ∃ m y, DataW.trod enc P w 0 (fun _ => true) true m e ((cs.drop (i * k)).take k) = some y := by
  rcases open_slice ht h with ⟨h0, _⟩ | ⟨a', len, cap', m, f, D, Pl, h0, hb, hl, hm, hmm, rfl, hx⟩
  · injection h0 with h0 _
    injection h0 with h1 h2 h3
    subst h1 h2 h3
    exact ⟨[], by simp, Reads.nil _ _, fun i hi => by omega⟩
  · injection h0 with h0 _
    injection h0 with h1 h2 h3
    subst h1 h2 h3
    simp only [if_true] at hmm
    subst hmm
    have each : ∀ j, j < n * k → ∃ v, w.cell? (a'.add j) = some v := by
      intro j hj
      have hi : j / k < n := (Nat.div_lt_iff_lt_mul hk0).2 hj
      have hr : j % k < k := Nat.mod_lt _ hk0
      obtain ⟨cs', h1, _⟩ := hx (j / k) (by omega)
      rw [hk] at h1
      obtain ⟨_, hlen, hcell⟩ := World.cells?_some h1
      have h2 := hcell (j % k) hr
      rw [add_add, show j / k * k + j % k = j by rw [Nat.mul_comm]; exact Nat.div_add_mod j k] at h2
      rw [h2, List.getElem?_eq_getElem (by omega)]
      exact ⟨_, rfl⟩
    obtain ⟨V, hV⟩ := choose_lt (α := Value) (p := fun j v => w.cell? (a'.add j) = some v) each
    refine ⟨(List.range (n * k)).map V, by simp, ⟨_, _, _, rfl, hl, hm, by simp, ?_⟩, fun i hi => ?_⟩
    · by_cases hz : n * k = 0
      · left; rw [hz]; rfl
      · right
        have e0 := spot_of_cell (hV 0 (by omega))
        rw [Addr.add_zero'] at e0
        refine ⟨a'.block, a'.off, by rw [← e0], fun j x hj => ?_⟩
        rw [List.getElem?_map] at hj
        obtain ⟨j', hj', rfl⟩ := Option.map_eq_some_iff.1 hj
        obtain ⟨hlt, rfl⟩ := List.getElem?_eq_some_iff.1 hj'
        simp only [List.length_range] at hlt
        have := hV j hlt
        rw [e0, Addr.add_lit] at this
        simpa using this
    · obtain ⟨cs', h1, h2⟩ := hx i (by omega)
      rw [hk] at h1
      obtain ⟨_, hlen, hcell⟩ := World.cells?_some h1
      refine ⟨f, (D i, Pl i), ?_⟩
      · rw [show ((((List.range (n * k)).map V).drop (i * k)).take k) = cs' from ?_]
        · exact h2
        · apply List.ext_getElem?
          intro j
          have hin : i * k + k ≤ n * k := by rw [← Nat.succ_mul]; exact Nat.mul_le_mul_right k hi
          by_cases hj : j < k
          · rw [List.getElem?_take, if_pos hj, List.getElem?_drop, List.getElem?_map, List.getElem?_range (by omega)]
            have h3 := hcell j hj
            rw [add_add, hV (i * k + j) (by omega)] at h3
            simpa using h3
          · rw [List.getElem?_take, if_neg hj, List.getElem?_eq_none (by omega)]
/-- A SLICE OF NUMBERS THAT CAME IN. -/
theorem open_nums {t e : TypeId} {fuel n cap : Nat} {a : Option Addr} {x : DataW H × List MemPlace} (ht : P.underlying t = some (.slice e)) (he : P.underlying e = some (.int .i64)) (hk : P.cellsOf e = 1)
    (h : DataW.trod enc P w 0 (fun _ => true) true fuel t [.slice a n cap] = some x) :
    ∃ l : List Int, l.length = n ∧ Reads w 1 (.slice a n cap) (ints l) ∧ ∀ y ∈ l, R64 y := by
  obtain ⟨cs, hl, hr, hel⟩ := open_reads ht hk (by omega) h
  have : ∃ l : List Int, cs = ints l ∧ ∀ y ∈ l, R64 y := by
    rw [Nat.mul_one] at hl
    have hel' : ∀ v ∈ cs, ∃ y, v = .int .i64 y ∧ R64 y := by
      intro v hv
      obtain ⟨i, hi, rfl⟩ := List.mem_iff_getElem.1 hv
      obtain ⟨m, y, hy⟩ := hel i (by omega)
      obtain ⟨z, hz, _, hw⟩ := DataW.trod_int he hy
      rw [Nat.mul_one, List.drop_eq_getElem_cons hi, List.take_succ_cons, List.take_zero] at hz
      injection hz with hz _
      exact ⟨z, hz, .of_wf hw⟩
    clear hl hr hel
    induction cs with
    | nil => exact ⟨[], rfl, by simp⟩
    | cons v cs ih =>
      obtain ⟨y, rfl, hy⟩ := hel' v (by simp)
      obtain ⟨l, rfl, hl⟩ := ih (fun u hu => hel' u (by simp [hu]))
      exact ⟨y :: l, rfl, by simpa using ⟨hy, hl⟩⟩
  obtain ⟨l, rfl, h64⟩ := this
  exact ⟨l, by simpa using hl, hr, h64⟩
end

/-! ### THE ROW's STEP -/
theorem own : ownKnob Tryz.prog.godebug = none := by kernel_rfl
theorem laidOut : laidOutB Tryz.prog = true := by kernel_rfl
noncomputable def readB (ts : List TypeId) : Bool := ts.all fun t => Tryz.prog.readableRec t && decide (t < Tryz.prog.types.size)
set_option maxRecDepth 100000 in
theorem again_all {H : Type} {enc : TypeId × Value → H} {W W' : World} (hb : Below W.heap.size W W') (ts : List TypeId) : ∀ {vs : List Value} {ds : List (DataW H)} {ps : List MemPlace}, readB ts = true →
    DataW.TrodAll enc Tryz.prog W 0 (fun _ => true) true ts vs ds ps → ∃ ps', DataW.TrodAll enc Tryz.prog W' 0 (fun b => decide (b < W.heap.size)) true ts vs ds ps' := by
  induction ts with
  | nil =>
    intro vs ds ps _ h
    obtain ⟨rfl, rfl, rfl⟩ := trodAll_nil h
    exact ⟨[], trodAll_mk0⟩
  | cons t ts ih =>
    intro vs ds ps hr h
    obtain ⟨v, vs', d, ds', p, q, rfl, rfl, rfl, h0, h1⟩ := trodAll_cons h
    unfold readB at hr
    rw [List.all_cons, Bool.and_eq_true, Bool.and_eq_true] at hr
    obtain ⟨ps', h2⟩ := ih hr.2 h1
    have hlt : ∀ x ∈ p, x.block < W.heap.size := by obtain ⟨m, hm⟩ := h0; exact DataW.trod_lt m _ _ _ hm
    exact ⟨_, trodAll_cons_mk (Below.trod laidOut hr.1.1 (of_decide_eq_true hr.1.2) h0 hb hlt) h2⟩
end Go.Proofs.YtglbkodmmogomaaGreatDoor
