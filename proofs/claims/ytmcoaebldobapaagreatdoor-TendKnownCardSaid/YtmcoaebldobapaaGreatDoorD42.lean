/-
  DERIVED: THE SHELF's CONTRACTS AT THIS DUMP, IN PLAIN WORDS (tools/lay-plain.mjs out of 'YtmcoaebldobapaaGreatDoorShelj.lean', which tools/lay-shelf.mjs wrote): THE SAME DECLARATIONS UNDER THE SAME NAMES: 'import', 'namespace', 'open', 'def', 'theorem' AND NOTHING ELSE: no command of the shelf's: FOR A HAND-IN. Each laying: the table of numbers ('.._ren') and one theorem, a field a fact of the dump's own or the kernel's comparison; each contract: ONE APPLICATION.
-/
import Derived.Test.YtmcoaebldobapaaGreatDoorProg
import Derived.Shelf.SlGeneric
import Derived.Shelf.Lays
import Derived.Shelf.Strings.OnBuilder
import Derived.Test.YtmcoaebldobapaaGreatDoorD41
import Derived.Lib.Join
set_option linter.unusedVariables false
set_option linter.unusedSimpArgs false
namespace Go.Proofs
open Go.Shelf
def Tryz.joinL_ren : Go.Shelf.Ren := ⟨fun | 156 => 228 | 165 => 347 | 166 => 97 | 169 => 98 | 240 => 147 | 241 => 395 | 276 => 234 | 277 => 433 | n => n, fun | 31 => 129 | 9 => 9 | 3 => 3 | 4 => 4 | 0 => 0 | 20 => 20 | 72 => 128 | 76 => 133 | 70 => 125 | 37 => 126 | 75 => 132 | 127 => 223 | 164 => 333 | 5 => 5 | 80 => 135 | n => n, fun | n => n⟩
theorem Tryz.joinL : Go.Proofs.Lays.n156 Tryz.prog Tryz.joinL_ren := {
  mixed := by kernel_rfl
  f156 := Tryz.func228.trans (congrArg some (by kernel_rfl))
  f165 := Tryz.func347.trans (congrArg some (by kernel_rfl))
  f166 := Tryz.func97.trans (congrArg some (by kernel_rfl))
  f169 := Tryz.func98.trans (congrArg some (by kernel_rfl))
  f240 := Tryz.func147.trans (congrArg some (by kernel_rfl))
  f241 := Tryz.func395.trans (congrArg some (by kernel_rfl))
  f276 := Tryz.func234.trans (congrArg some (by kernel_rfl))
  f277 := Tryz.func433.trans (congrArg some (by kernel_rfl))
  t0 := Tryz.underlying0
  a0 := Tryz.isAgg0
  z0 := Tryz.sizeOf0
  v0 := Tryz.zeroValue0
  t3 := Tryz.underlying3
  a3 := Tryz.isAgg3
  z3 := Tryz.sizeOf3
  v3 := Tryz.zeroValue3
  t4 := Tryz.underlying4
  a4 := Tryz.isAgg4
  z4 := Tryz.sizeOf4
  v4 := Tryz.zeroValue4
  t9 := Tryz.underlying9
  a9 := Tryz.isAgg9
  z9 := Tryz.sizeOf9
  v9 := Tryz.zeroValue9
  t20 := Tryz.underlying20
  a20 := Tryz.isAgg20
  z20 := Tryz.sizeOf20
  v20 := Tryz.zeroValue20
  t31 := Tryz.underlying129
  a31 := Tryz.isAgg129
  z31 := Tryz.sizeOf129
  v31 := Tryz.zeroValue129
  t37 := Tryz.underlying126
  a37 := Tryz.isAgg126
  z37 := Tryz.sizeOf126
  v37 := Tryz.zeroValue126
  t70 := Tryz.underlying125
  a70 := Tryz.isAgg125
  z70 := Tryz.sizeOf125
  v70 := Tryz.zeroValue125
  t72 := Tryz.underlying128
  a72 := Tryz.isAgg128
  z72 := Tryz.sizeOf128
  v72 := Tryz.zeroValue128
  t75 := Tryz.underlying132
  a75 := Tryz.isAgg132
  z75 := Tryz.sizeOf132
  v75 := Tryz.zeroValue132
  t76 := Tryz.underlying133
  a76 := Tryz.isAgg133
  z76 := Tryz.sizeOf133
  v76 := Tryz.zeroValue133
  t127 := Tryz.underlying223
  a127 := Tryz.isAgg223
  z127 := Tryz.sizeOf223
  v127 := Tryz.zeroValue223
  t164 := Tryz.underlying333
  a164 := Tryz.isAgg333
  z164 := Tryz.sizeOf333
  v164 := Tryz.zeroValue333 }
theorem Tryz.joinX : Builder.Extra Tryz.prog Tryz.joinL_ren := {
  sizeBuilder := by kernel_rfl
  liesBuilder := by kernel_rfl
  t5 := Tryz.underlying5
  a5 := Tryz.isAgg5
  z5 := Tryz.sizeOf5
  v5 := Tryz.zeroValue5
  infoByte := by kernel_rfl
  cellsByte := by kernel_rfl
  sizeByte := by kernel_rfl
  neB5 := by decide }
end Go.Proofs
/-
  The machine's answer for strings put together tells the truth.
-/
namespace Go.Proofs.YtmcoaebldobapaaGreatDoor
namespace Eng
open Go Go.RowKit
theorem HR.grew {P : Program} {g : Nat} {w0 : World} {ρ : Ren} {h : Hp} {nx : Nat} {w w' : World} (H : HR P g w0 ρ h nx w) (hk : Below w.heap.size w w') : HR P g w0 ρ h nx w' := by
  have hs := hk.size
  have h0 := H.kept.size
  exact ⟨H.fresh, H.gnx, fun id o ho hn => (H.objs id o ho hn).frame fun b _ hb => hk.block b hb, H.inj, H.own, fun id b hid => Nat.lt_of_lt_of_le (H.lt id b hid) hs,
    ⟨hk.os.trans H.kept.os, hk.tape.trans H.kept.tape, hk.output.trans H.kept.output, Nat.le_trans h0 hs, fun k hk' => (hk.block k (by omega)).trans (H.kept.block k hk')⟩, H.glob, H.hfr⟩
theorem strsK_ok : ∀ {l : List CV} {k : List (List Nat) → Bool}, strsK l k = true → ∃ ss, k ss = true ∧ l = ss.map .str
  | [], k, hk => ⟨[], hk, rfl⟩
  | v :: l, k, hk => by
    cases v <;> try (cases hk; done)
    rename_i s
    obtain ⟨ss, hk, e⟩ := strsK_ok (l := l) (k := fun ss => k (s :: ss)) hk
    exact ⟨_, hk, by rw [e]; rfl⟩
theorem joinT_eq (sep : List Nat) (l : List (List Nat)) : (joinT sep l).map UInt8.ofNat = Lib.joinTail (sep.map UInt8.ofNat) (l.map fun s => s.map UInt8.ofNat) := by
  induction l with
  | nil => rfl
  | cons s l ih =>
    show (sep ++ (s ++ joinT sep l)).map UInt8.ofNat = _
    simp only [List.map_append, ih, Lib.joinTail, List.map_cons, List.flatten_cons, List.append_assoc]
theorem joinJ_eq (sep : List Nat) (l : List (List Nat)) : (joinJ sep l).map UInt8.ofNat = Lib.join (l.map fun s => s.map UInt8.ofNat) (sep.map UInt8.ofNat) := by
  cases l with
  | nil => rfl
  | cons s l => rw [List.map_cons, Lib.join_cons, ← joinT_eq]; show (s ++ joinT sep l).map _ = _; rw [List.map_append]
theorem joinT_small {sep : List Nat} {l : List (List Nat)} (hs : small sep) (hl : ∀ s ∈ l, small s) : small (joinT sep l) := by
  induction l with
  | nil => intro b hb; cases hb
  | cons s l ih =>
    intro b hb
    change b ∈ sep ++ (s ++ joinT sep l) at hb
    simp only [List.mem_append] at hb
    rcases hb with hb | hb | hb
    · exact hs b hb
    · exact hl s (.head _) b hb
    · exact ih (fun s hs => hl s (.tail _ hs)) b hb
theorem joinJ_small {sep : List Nat} {l : List (List Nat)} (hs : small sep) (hl : ∀ s ∈ l, small s) : small (joinJ sep l) := by
  cases l with
  | nil => intro b hb; cases hb
  | cons s l =>
    intro b hb
    change b ∈ s ++ joinT sep l at hb
    simp only [List.mem_append] at hb
    rcases hb with hb | hb
    · exact hl s (.head _) b hb
    · exact joinT_small hs (fun s hs => hl s (.tail _ hs)) b hb
theorem joinA_ok {w0 : World} {args : List AV} {h : Hp} {nx : Nat} {k : KV} (hk : joinA args h nx k = true) {ρ : Ren} {w : World} {xs : List Value} (H : HR Tryz.prog 8 w0 ρ h nx w) (hx : F2 (GA ρ) args xs) : CallsK Tryz.prog 8 w0 ρ nx 228 xs w k := by
  unfold joinA at hk
  split at hk
  case h_2 => cases hk
  rename_i id off len cut lim sep
  obtain ⟨o, ho, hk⟩ := optK_ok hk
  obtain ⟨cells, hrow, hk⟩ := optK_ok hk
  rw [fL_eq] at hk
  obtain ⟨hl, hk⟩ := iff_ok hk
  rw [Bool.and_eq_true] at hl
  have hb := natle hl.2
  have hl := nateq hl.1
  rw [llen_eq] at hl
  obtain ⟨ss, hk, hss⟩ := strsK_ok hk
  rw [fLN_eq] at hk
  obtain ⟨hlen, hk⟩ := iff_ok hk
  have hlen := natle hlen
  rw [llen_eq] at hlen
  cases hx with
  | cons h1 t => cases t with
    | cons h2 t => cases t with
      | nil => cases h1 with
        | c h1 => cases h1 with
          | @sl _ b base cap _ _ _ _ hr q1 q2 q3 => cases h2 with
            | c h2 => cases h2 with
              | str _ hsep =>
                have hca := (H.ob ho hr).ca hrow hr
                have hcs : ∀ j s, ss[j]? = some s → small s ∧ w.cell? ⟨b, base + (off + j), none⟩ = some (.string (ba s)) := fun j s hj => by
                  have h1 : (List.take len (List.drop off cells))[j]? = some (.str s) := by rw [hss]; simp [hj]
                  have h2 : cells[off + j]? = some (.str s) := by
                    rw [List.getElem?_take] at h1
                    split at h1
                    · rwa [List.getElem?_drop] at h1
                    · cases h1
                  obtain ⟨x, g1, g2⟩ := hca _ _ h2
                  cases g1 with
                  | str _ hs => exact ⟨hs, g2⟩
                have hsl : ss.length = len := by rw [← hl, hss]; simp
                have hj := Any.strings_Join Tryz.joinL Tryz.joinX b (base + off) (lim.getD (cap - cut)) (ss.map ba) (ba sep) w
                  (fun j x hj => by
                    rw [List.getElem?_map] at hj
                    obtain ⟨s, hs, rfl⟩ := Option.map_eq_some_iff.1 hj
                    rw [Nat.add_assoc]; exact (hcs j s hs).2)
                  (H.lt id b ⟨_, _, hr⟩) (by rw [List.length_map, hsl]; exact Nat.le_trans hb (by decide)) (by rw [List.length_map, hsl]; exact q1)
                  (by
                    have e : ((ss.map ba).map fun x => x.data.toList) = ss.map fun s => s.map UInt8.ofNat := by simp [ba]
                    have e2 : (ba sep).data.toList = sep.map UInt8.ofNat := by simp [ba]
                    rw [e, e2, ← joinJ_eq]; simp; omega)
                have e : ((ss.map ba).map fun x => x.data.toList) = ss.map fun s => s.map UInt8.ofNat := by simp [ba]
                have e2 : (ba sep).data.toList = sep.map UInt8.ofNat := by simp [ba]
                rw [e, e2, ← joinJ_eq] at hj
                rw [List.length_map, hsl] at hj
                refine Calls.mono hj fun e w' ⟨h1, h2⟩ => ?_
                exact ⟨_, _, ρ, h, nx, h1, hk, Ext.refl _ _, H.grew h2, .c (.str _ (joinJ_small hsep fun s hs => by
                  obtain ⟨j, hj⟩ := List.getElem?_of_mem hs
                  exact (hcs j s hj).1))⟩
theorem sameA_ok {l : List AV} {k : RV → Bool} (hk : sameA l k = true) {ρ : Ren} {xs : List Value} (hx : F2 (GA ρ) l xs) : ∃ r x, k r = true ∧ GR ρ r x ∧ ∀ w, (callFunc 234 xs.toArray).run Tryz.prog w = .ok (.value x) w := by
  unfold sameA at hk
  split at hk
  · cases hx with
    | cons h1 t => cases t with
      | nil =>
        refine ⟨_, _, hk, h1.rv, fun w => ?_⟩
        rw [run_callFunc_extern (P := Tryz.prog) Tryz.func234 (by kernel_rfl) (by kernel_rfl) (by kernel_rfl) (e := Extern.AbiNoEscape.same) (by kernel_rfl)]
        simp [Lib.run_noEscape]
  · cases hk
theorem orcS_ok (w0 : World) : OSnd Tryz.prog 8 w0 orcS := by
  intro f ans hf
  unfold orcS at hf
  split at hf
  · cases hf; exact fun args k hk ρ xs hx => idxA_ok hk hx
  · cases hf; exact fun args k hk ρ xs hx => cntA_ok hk hx
  · cases hf
    exact ⟨⟨_, Tryz.func308, by kernel_rfl, by kernel_rfl⟩, fun args h nx k hk ρ w xs H hx => keysA_ok hk H hx⟩
  · cases hf
    exact ⟨⟨_, Tryz.func228, by kernel_rfl, by kernel_rfl⟩, fun args h nx k hk ρ w xs H hx => joinA_ok hk H hx⟩
  · cases hf; trivial
  · cases hf; exact fun args k hk ρ xs hx => sameA_ok hk hx
  · cases hf
end Eng
end Go.Proofs.YtmcoaebldobapaaGreatDoor
