/-
  The machine's operations: maps that turn, iterators, function values, copy.
-/
import Derived.Test.YtmcoaebldobapaaGreatDoorD17
set_option linter.unusedVariables false
set_option linter.unusedSimpArgs false
namespace Go.Proofs.YtmcoaebldobapaaGreatDoor
namespace Eng
open Go Go.RowKit
section
variable {P : Program} {g : Nat} {w0 : World} {ρ : Ren} {h : Hp} {nx : Nat} {w : World}
def setO (w : World) (b : Nat) (x : Obj) : World := { w with heap := w.heap.setIfInBounds b x }
theorem run_setO {b : Nat} {o x : Obj} (hh : w.heap[b]? = some o) (hc : ∀ c e f, o ≠ .cells c e f) : (setObj b x).run P w = .ok () (setO w b x) := by
  cases o <;> simp [setObj, Sem.run, hh, setO]
  exact absurd rfl (hc _ _ _)
theorem HR.setO (H : HR P g w0 ρ h nx w) {id b : Nat} {o o' : AO} (ho : h.get id = some o) (hg : g ≤ id) (hb : blkOf ρ id b) {x : Obj} (hx : ∀ w' : World, w'.heap[b]? = some x → Ob P ρ id o' w') {h' : Hp} (hh : ∀ m, h'.get m = if m = id then some o' else h.get m) :
    HR P g w0 ρ h' nx (setO w b x) := by
  have hlt := H.lt id b hb
  refine H.turn (w' := Eng.setO w b x) ho hg hb (by simp [Eng.setO]) rfl rfl rfl (fun k hk => ?_) hh (hx _ ?_)
  · simp only [Eng.setO]; rw [Array.getElem?_setIfInBounds_ne (Ne.symm hk)]
  · simp only [Eng.setO]; simp [hlt]
theorem findM_idx {d : TypeDesc} {kt : TypeId} {key : AV} : ∀ {es : List ME} {i j : Nat} {v : AV}, findM P d kt key es i = some (some (j, v)) → i ≤ j ∧ ∃ e, es[j - i]? = some e ∧ keyEq P d kt key e.key = some true ∧ e.val = v
  | [], i, j, v, h => by cases h
  | e :: es, i, j, v, h => by
    change (match keyEq P d kt key e.key with | some true => some (some (i, e.val)) | some false => findM P d kt key es (i + 1) | none => none) = some (some (j, v)) at h
    split at h
    · rename_i hb
      cases h
      exact ⟨Nat.le_refl _, e, by simp, hb, rfl⟩
    · obtain ⟨h1, e', h2, h3⟩ := findM_idx h
      refine ⟨by omega, e', ?_, h3⟩
      rw [show j - i = (j - (i + 1)) + 1 by omega]
      simpa using h2
    · cases h
theorem scalar_key {d : TypeDesc} {kt : TypeId} {c : CV} {b : AV} (h : keyEq P d kt (.c c) b = some true) : b = .c c ∧ ∀ {x : Value}, G ρ c x → Instr.sameBits 10000 x x = true := by
  have hb : b = .c c := by unfold keyEq at h; split at h <;> simp_all [eqI_eq, lbeq_eq]
  refine ⟨hb, fun {x} hx => ?_⟩
  subst hb
  cases hx <;> first | (simp [Instr.sameBits]; done) | (simp [Instr.sameBits, beq_toListBytes]; done) | (unfold keyEq at h; split at h <;> simp_all)
noncomputable def mapUpdK (P : Program) (g : Nat) (h : Hp) (t : TypeId) (m key v : RV) (k : Hp → Bool) : Bool :=
  optK (undL P t) fun d => (match d with
    | .map kt _ => optK (undL P kt) fun dk => rv2 key fun key => iff (keyOk P dk key) (rv2 v fun v => (match m with
      | .c (.mp id) => iff (Nat.ble g id) (optK (h.get id) fun o => (match o with
        | .map es clock => optK (findM P dk kt key es 0) fun r => (match r with
          | some iv => (match key with
            | .c _ => optK (lget es iv.1) fun e => lsetK es iv.1 ⟨key, v, e.born⟩ fun es => h.setK id (some (.map es clock)) k
            | _ => false)
          | none => fL (es ++ [⟨key, v, clock⟩]) fun es => h.setK id (some (.map es (Nat.succ clock))) k)
        | _ => false))
      | _ => false))
    | _ => false)
theorem mapUpdK_ok (H : HR P g w0 ρ h nx w) {t : TypeId} {m key v : RV} {mv kv x : Value} (hm : GR ρ m mv) (hkey : GR ρ key kv) (hv : GR ρ v x) {k : Hp → Nat → Bool} (hk : mapUpdK P g h t m key v (fun h => k h nx) = true) : DoU P g w0 ρ nx w k (Instr.mapUpdate t mv kv x) := by
  replace hk := optK_ok hk
  obtain ⟨d, hd, hk⟩ := hk
  try simp only [undL_eq, infL_eq, fnL_eq] at hd
  cases d <;> try (cases hk; done)
  rename_i kt et
  replace hk := optK_ok hk
  obtain ⟨dk, hdk, hk⟩ := hk
  try simp only [undL_eq, infL_eq, fnL_eq] at hdk
  replace hk := rv2_ok hkey hk
  obtain ⟨ka, hk, hka⟩ := hk
  replace hk := iff_ok hk
  obtain ⟨hok, hk⟩ := hk
  replace hk := rv2_ok hv hk
  obtain ⟨va, hk, hva⟩ := hk
  have hchk := fun b w => check_ok hdk hka hok b w
  split at hk
  · rename_i id
    replace hk := iff_ok hk
    obtain ⟨hg, hk⟩ := hk
    replace hk := optK_ok hk
    obtain ⟨o, ho, hk⟩ := hk
    cases o <;> try (cases hk; done)
    rename_i es clock
    replace hk := optK_ok hk
    obtain ⟨r, hr, hk⟩ := hk
    cases hm with
    | c hm => cases hm with
      | @mp _ bm _ _ hrho =>
        have hob := H.ob ho hrho
        obtain ⟨xs, hh, hxs⟩ := hob.mapAt hrho
        obtain ⟨r', h1, h2⟩ := findM_ok hdk hka hxs hok hr
        have hrb : ρ id = some (.blk bm 0 0) := by
          cases hob with
          | map hr' hh' hx' => rw [hrho] at hr'; cases hr'; exact hrho
        cases h2 with
        | none =>
          dsimp only at hk
          rw [fL_eq] at hk
          replace hk := Tr.setK_ok hk
          obtain ⟨h', hk, hh'⟩ := hk
          refine ⟨ρ, h', nx, _, hk, Ext.refl _ _, H.setO (x := Obj.map (xs ++ [({ key := kv, val := x, born := clock } : MapEntry)]).toArray (clock + 1)) ho (natle hg) ⟨_, _, hrho⟩ (fun w' hw' => .map hrb hw' (f2_app hxs (.cons ⟨hka, hva, rfl⟩ .nil))) hh', ?_⟩
          simp [Instr.mapUpdate, run_underlying hd, run_getObj hh (fun _ _ _ => by simp), hchk, h1]
          exact run_setO hh (fun _ _ _ => by simp)
        | @some i va' xa' hva' =>
          dsimp only at hk
          split at hk
          · rename_i c
            replace hk := optK_ok hk
            obtain ⟨e, he, hk⟩ := hk
            rw [lget_eq] at he
            replace hk := lsetK_ok hk
            obtain ⟨hi, hk⟩ := hk
            replace hk := Tr.setK_ok hk
            obtain ⟨h', hk, hh'⟩ := hk
            obtain ⟨_, e2, he2, hkeq, _⟩ := findM_idx hr
            simp only [Nat.sub_zero] at he2
            rw [he] at he2
            cases he2
            obtain ⟨hkk, hsame⟩ := scalar_key (ρ := ρ) hkeq
            obtain ⟨xe, hxe, hge⟩ := f2_get hxs he
            have hkx : xe.key = kv := by
              have := hge.1
              rw [hkk] at this
              exact GA.det this hka
            have hsb : Instr.sameBits 10000 kv kv = true := by
              cases hka with
              | c hka => exact hsame hka
            have hmod : xs.toArray.modify i (fun e => { e with key := kv, val := x }) = (xs.set i { key := kv, val := x, born := xe.born }).toArray := by
              apply Array.ext'
              apply List.ext_getElem?
              intro j
              simp only [List.modify_toArray, List.getElem?_modify, List.getElem?_set]
              by_cases hij : i = j
              · subst hij; simp [hxe, (List.getElem?_eq_some_iff.1 hxe).1, (List.getElem?_eq_some_iff.1 hxe).2]
              · simp [hij]
            refine ⟨ρ, h', nx, _, hk, Ext.refl _ _, H.setO (x := Obj.map (xs.set i ({ key := kv, val := x, born := xe.born } : MapEntry)).toArray clock) ho (natle hg) ⟨_, _, hrho⟩ (fun w' hw' => .map hrb hw' (f2_set hxs (show GE ρ ⟨.c c, va, e.born⟩ ⟨kv, x, xe.born⟩ from ⟨hka, hva, hge.2.2⟩) i)) hh', ?_⟩
            simp [Instr.mapUpdate, run_underlying hd, run_getObj hh (fun _ _ _ => by simp), hchk, h1, hxe, hkx, Instr.keyThatStays, hsb]
            have hmod' : (xs.modify i (fun e => { e with key := kv, val := x })).toArray = (xs.set i { key := kv, val := x, born := xe.born }).toArray := by simpa using hmod
            rw [hmod']
            exact run_setO hh (fun _ _ _ => by simp)
          · cases hk
  · cases hk
noncomputable def makeMapK (P : Program) (h : Hp) (nx : Nat) (t : TypeId) (r : Option RV) (k : RV → Hp → Nat → Bool) : Bool :=
  match r with
  | none => newK h nx (.map [] 0) fun id h nx => k (.c (.mp id)) h nx
  | some r => optK (undL P t) fun d => (match d with
    | .map _ _ => optK (natOf r) fun _ => newK h nx (.map [] 0) fun id h nx => k (.c (.mp id)) h nx
    | _ => false)
theorem makeMapK_ok (H : HR P g w0 ρ h nx w) {t : TypeId} {r : Option RV} {rv : Option Value} (hr : Option.Rel (GR ρ) r rv) {k : RV → Hp → Nat → Bool} (hk : makeMapK P h nx t r k = true) : Do P g w0 ρ nx w k (Instr.makeMap t rv) := by
  have core : newK h nx (.map [] 0) (fun id h nx => k (.c (.mp id)) h nx) = true → (Instr.makeMap t rv).run P w = .ok (.map (some w.heap.size)) (w.alloc (.map #[] 0)) → Do P g w0 ρ nx w k (Instr.makeMap t rv) := fun hk hrun => by
    replace hk := Tr.setK_ok hk
    obtain ⟨h', hk, hh⟩ := hk
    obtain ⟨ρ', hle, hr', H'⟩ := H.new (.map #[] 0) (base := 0) (cap := 0) hh fun ρ' _ hr' => .map hr' (xs := []) (heap_alloc_new _ _) .nil
    exact ⟨_, _, ρ', h', nx + 1, _, hk, hle, H', .c (.mp hr'), hrun⟩
  cases hr with
  | none => exact core hk (by simp [Instr.makeMap])
  | some hr =>
    replace hk := optK_ok hk
    obtain ⟨d, hd, hk⟩ := hk
    try simp only [undL_eq, infL_eq, fnL_eq] at hd
    cases d <;> try (cases hk; done)
    replace hk := optK_ok hk
    obtain ⟨n, hn, hk⟩ := hk
    obtain ⟨q, rfl⟩ := natOf_ok hn hr
    exact core hk (by simp [Instr.makeMap, run_underlying hd, asInt, asIntOf])
end
end Eng
end Go.Proofs.YtmcoaebldobapaaGreatDoor
