/-
  The machine's answer for strings put together tells the truth.
-/
import Derived.Test.YtcfncbnloaiifaaGreatDoorEng18
import Derived.Test.YtcfncbnloaiifaaGreatDoorShelj
import Derived.Lib.Join
namespace Go.Proofs.YtcfncbnloaiifaaGreatDoor
namespace Eng
open Go Go.RowKit
theorem HR.grew {P : Program} {g : Nat} {w0 : World} {ρ : Ren} {h : Hp} {nx : Nat} {w w' : World} (H : HR P g w0 ρ h nx w) (hk : Below w.heap.size w w') : HR P g w0 ρ h nx w' := by
  have hs := hk.size
  have h0 := H.kept.size
  exact ⟨H.fresh, H.gnx, fun id o ho hn => (H.objs id o ho hn).frame fun b _ hb => hk.block b hb, H.inj, H.own, fun id b hid => Nat.lt_of_lt_of_le (H.lt id b hid) hs,
    ⟨hk.os.trans H.kept.os, hk.tape.trans H.kept.tape, hk.output.trans H.kept.output, Nat.le_trans h0 hs, fun k hk' => (hk.block k (by omega)).trans (H.kept.block k hk')⟩, H.glob, H.hfr⟩
theorem strsK_ok : ∀ {l : List CV} {k : List (List Nat) → Bool}, strsK l k = true → ∃ ss, k ss = true ∧ l = ss.map .str
  | [], k, hk => ⟨[], hk, rfl⟩
  | v :: l, k, hk => by
    cases v <;> try (cases hk; done)
    rename_i s
    obtain ⟨ss, hk, e⟩ := strsK_ok (l := l) (k := fun ss => k (s :: ss)) hk
    exact ⟨_, hk, by rw [e]; rfl⟩
theorem joinT_eq (sep : List Nat) (l : List (List Nat)) : (joinT sep l).map UInt8.ofNat = Lib.joinTail (sep.map UInt8.ofNat) (l.map fun s => s.map UInt8.ofNat) := by
  induction l with
  | nil => rfl
  | cons s l ih =>
    show (sep ++ (s ++ joinT sep l)).map UInt8.ofNat = _
    simp only [List.map_append, ih, Lib.joinTail, List.map_cons, List.flatten_cons, List.append_assoc]
theorem joinJ_eq (sep : List Nat) (l : List (List Nat)) : (joinJ sep l).map UInt8.ofNat = Lib.join (l.map fun s => s.map UInt8.ofNat) (sep.map UInt8.ofNat) := by
  cases l with
  | nil => rfl
  | cons s l => rw [List.map_cons, Lib.join_cons, ← joinT_eq]; show (s ++ joinT sep l).map _ = _; rw [List.map_append]
theorem joinT_small {sep : List Nat} {l : List (List Nat)} (hs : small sep) (hl : ∀ s ∈ l, small s) : small (joinT sep l) := by
  induction l with
  | nil => intro b hb; cases hb
  | cons s l ih =>
    intro b hb
    change b ∈ sep ++ (s ++ joinT sep l) at hb
    simp only [List.mem_append] at hb
    rcases hb with hb | hb | hb
    · exact hs b hb
    · exact hl s (.head _) b hb
    · exact ih (fun s hs => hl s (.tail _ hs)) b hb
theorem joinJ_small {sep : List Nat} {l : List (List Nat)} (hs : small sep) (hl : ∀ s ∈ l, small s) : small (joinJ sep l) := by
  cases l with
  | nil => intro b hb; cases hb
  | cons s l =>
    intro b hb
    change b ∈ s ++ joinT sep l at hb
    simp only [List.mem_append] at hb
    rcases hb with hb | hb
    · exact hl s (.head _) b hb
    · exact joinT_small hs (fun s hs => hl s (.tail _ hs)) b hb
theorem joinA_ok {w0 : World} {args : List AV} {h : Hp} {nx : Nat} {k : KV} (hk : joinA args h nx k = true) {ρ : Ren} {w : World} {xs : List Value} (H : HR Tryz.prog 8 w0 ρ h nx w) (hx : F2 (GA ρ) args xs) : CallsK Tryz.prog 8 w0 ρ nx 322 xs w k := by
  unfold joinA at hk
  split at hk
  case h_2 => cases hk
  rename_i id off len cut lim sep
  obtain ⟨o, ho, hk⟩ := optK_ok hk
  obtain ⟨cells, hrow, hk⟩ := optK_ok hk
  rw [fL_eq] at hk
  obtain ⟨hl, hk⟩ := iff_ok hk
  rw [Bool.and_eq_true] at hl
  have hb := natle hl.2
  have hl := nateq hl.1
  rw [llen_eq] at hl
  obtain ⟨ss, hk, hss⟩ := strsK_ok hk
  rw [fLN_eq] at hk
  obtain ⟨hlen, hk⟩ := iff_ok hk
  have hlen := natle hlen
  rw [llen_eq] at hlen
  cases hx with
  | cons h1 t => cases t with
    | cons h2 t => cases t with
      | nil => cases h1 with
        | c h1 => cases h1 with
          | @sl _ b base cap _ _ _ _ hr q1 q2 q3 => cases h2 with
            | c h2 => cases h2 with
              | str _ hsep =>
                have hca := (H.ob ho hr).ca hrow hr
                have hcs : ∀ j s, ss[j]? = some s → small s ∧ w.cell? ⟨b, base + (off + j), none⟩ = some (.string (ba s)) := fun j s hj => by
                  have h1 : (List.take len (List.drop off cells))[j]? = some (.str s) := by rw [hss]; simp [hj]
                  have h2 : cells[off + j]? = some (.str s) := by
                    rw [List.getElem?_take] at h1
                    split at h1
                    · rwa [List.getElem?_drop] at h1
                    · cases h1
                  obtain ⟨x, g1, g2⟩ := hca _ _ h2
                  cases g1 with
                  | str _ hs => exact ⟨hs, g2⟩
                have hsl : ss.length = len := by rw [← hl, hss]; simp
                have hj := Any.strings_Join Tryz.joinL Tryz.joinX b (base + off) (lim.getD (cap - cut)) (ss.map ba) (ba sep) w
                  (fun j x hj => by
                    rw [List.getElem?_map] at hj
                    obtain ⟨s, hs, rfl⟩ := Option.map_eq_some_iff.1 hj
                    rw [Nat.add_assoc]; exact (hcs j s hs).2)
                  (H.lt id b ⟨_, _, hr⟩) (by rw [List.length_map, hsl]; exact Nat.le_trans hb (by decide)) (by rw [List.length_map, hsl]; exact q1)
                  (by
                    have e : ((ss.map ba).map fun x => x.data.toList) = ss.map fun s => s.map UInt8.ofNat := by simp [ba]
                    have e2 : (ba sep).data.toList = sep.map UInt8.ofNat := by simp [ba]
                    rw [e, e2, ← joinJ_eq]; simp; omega)
                have e : ((ss.map ba).map fun x => x.data.toList) = ss.map fun s => s.map UInt8.ofNat := by simp [ba]
                have e2 : (ba sep).data.toList = sep.map UInt8.ofNat := by simp [ba]
                rw [e, e2, ← joinJ_eq] at hj
                rw [List.length_map, hsl] at hj
                refine Calls.mono hj fun e w' ⟨h1, h2⟩ => ?_
                exact ⟨_, _, ρ, h, nx, h1, hk, Ext.refl _ _, H.grew h2, .c (.str _ (joinJ_small hsep fun s hs => by
                  obtain ⟨j, hj⟩ := List.getElem?_of_mem hs
                  exact (hcs j s hj).1))⟩
theorem orcS_ok (w0 : World) : OSnd Tryz.prog 8 w0 orcS := by
  intro f ans hf
  unfold orcS at hf
  split at hf
  · cases hf; exact fun args k hk ρ xs hx => idxA_ok hk hx
  · cases hf; exact fun args k hk ρ xs hx => cntA_ok hk hx
  · cases hf
    exact ⟨⟨_, Tryz.func140, by kernel_rfl, by kernel_rfl⟩, fun args h nx k hk ρ w xs H hx => keysA_ok hk H hx⟩
  · cases hf
    exact ⟨⟨_, Tryz.func322, by kernel_rfl, by kernel_rfl⟩, fun args h nx k hk ρ w xs H hx => joinA_ok hk H hx⟩
  · cases hf; trivial
  · cases hf
end Eng
end Go.Proofs.YtcfncbnloaiifaaGreatDoor
