/-
  The machine's answers tell the truth.
-/
import Derived.Test.YtcfncbnloaiifaaGreatDoorEng16
namespace Go.Proofs.YtcfncbnloaiifaaGreatDoor
namespace Eng
open Go Go.RowKit
theorem u8_beq {a b : Nat} (ha : a < 256) (hb : b < 256) : (UInt8.ofNat a == UInt8.ofNat b) = Nat.beq a b := by
  cases h : Nat.beq a b with
  | true => rw [nateq h]; simp
  | false =>
    have hne := natne h
    have : UInt8.ofNat a ≠ UInt8.ofNat b := fun e => hne (by
      have := congrArg UInt8.toNat e
      simpa [UInt8.toNat_ofNat', Nat.mod_eq_of_lt ha, Nat.mod_eq_of_lt hb] using this)
    simpa using this
theorem idxL_eq {b : Nat} (hb : b < 256) : ∀ (s : List Nat) (i : Nat), small s → idxL b s i = (if Lib.indexByte (s.map UInt8.ofNat) (UInt8.ofNat b) == -1 then -1 else Lib.indexByte (s.map UInt8.ofNat) (UInt8.ofNat b) + i)
  | [], i, _ => by simp [idxL, Lib.indexByte]
  | a :: s, i, hs => by
    have ha := hs a (by simp)
    have ih := idxL_eq hb s (i + 1) fun x hx => hs x (by simp [hx])
    have hge := Lib.indexByte_ge (s.map UInt8.ofNat) (UInt8.ofNat b)
    show (Bool.casesOn (Nat.beq a b) (idxL b s (i + 1)) (Int.ofNat i) : Int) = _
    simp only [List.map_cons, Lib.indexByte, u8_beq ha hb]
    cases h : Nat.beq a b with
    | true => simp
    | false =>
      simp only [ih, Bool.false_eq_true, if_false]
      by_cases h1 : Lib.indexByte (s.map UInt8.ofNat) (UInt8.ofNat b) = -1
      · simp [h1]
      · have h2 : ¬ Lib.indexByte (s.map UInt8.ofNat) (UInt8.ofNat b) + 1 = -1 := by omega
        simp only [beq_iff_eq, h1, if_false, h2]
        omega
theorem idxL_eq0 {b : Nat} (hb : b < 256) (s : List Nat) (hs : small s) : idxL b s 0 = Lib.indexByte (ba s).data.toList (UInt8.ofNat b) := by
  rw [idxL_eq hb s 0 hs]
  have : (ba s).data.toList = s.map UInt8.ofNat := by simp [ba]
  rw [this]
  by_cases h1 : Lib.indexByte (s.map UInt8.ofNat) (UInt8.ofNat b) = -1
  · simp [h1]
  · simp [h1]
theorem cntL_eq {b : Nat} (hb : b < 256) : ∀ (s : List Nat), small s → cntL b s = (s.map UInt8.ofNat).count (UInt8.ofNat b)
  | [], _ => rfl
  | a :: s, hs => by
    have ha := hs a (by simp)
    have ih := cntL_eq hb s fun x hx => hs x (by simp [hx])
    show (Bool.casesOn (Nat.beq a b) (cntL b s) (Nat.succ (cntL b s)) : Nat) = _
    rw [List.map_cons, List.count_cons, u8_beq ha hb, ih]
    cases h : Nat.beq a b <;> simp
theorem idxA_ok {l : List AV} {k : RV → Bool} (hk : idxA l k = true) {ρ : Ren} {xs : List Value} (hx : F2 (GA ρ) l xs) : ∃ r x, k r = true ∧ GR ρ r x ∧ ∀ w, (callFunc 352 xs.toArray).run Tryz.prog w = .ok (.value x) w := by
  unfold idxA at hk
  split at hk
  · rename_i s b
    replace hk := iff_ok hk
    obtain ⟨hb, hk⟩ := hk
    have hb : b < 256 := Nat.lt_succ_of_le (natle hb)
    rw [fI_eq] at hk
    cases hx with
    | cons h1 t => cases t with
      | cons h2 t => cases t with
        | nil =>
          cases h1 with
          | c h1 => cases h1 with
            | str _ hs =>
              cases h2 with
              | c h2 =>
                cases h2
                refine ⟨_, _, hk, .c (.int _ _), fun w => ?_⟩
                have he := run_callFunc_extern (P := Tryz.prog) Tryz.func352 (by kernel_rfl) (by kernel_rfl) (by kernel_rfl) (e := Extern.BytealgIndexByte.indexByte) (by kernel_rfl) #[.string (ba s), .int .u8 (Int.ofNat b)] w
                have hr := Lib.run_indexByteString (P := Tryz.prog) (ba s) (Int.ofNat b) w
                have hc : (Int.ofNat b).toNat.toUInt8 = UInt8.ofNat b := rfl
                rw [hc, ← idxL_eq0 hb s hs] at hr
                rw [hr] at he
                simpa using he
  · cases hk
theorem cntA_ok {l : List AV} {k : RV → Bool} (hk : cntA l k = true) {ρ : Ren} {xs : List Value} (hx : F2 (GA ρ) l xs) : ∃ r x, k r = true ∧ GR ρ r x ∧ ∀ w, (callFunc 291 xs.toArray).run Tryz.prog w = .ok (.value x) w := by
  unfold cntA at hk
  split at hk
  · rename_i s b
    replace hk := iff_ok hk
    obtain ⟨hb, hk⟩ := hk
    have hb : b < 256 := Nat.lt_succ_of_le (natle hb)
    rw [fN_eq] at hk
    cases hx with
    | cons h1 t => cases t with
      | cons h2 t => cases t with
        | nil =>
          cases h1 with
          | c h1 => cases h1 with
            | str _ hs =>
              cases h2 with
              | c h2 =>
                cases h2
                refine ⟨_, _, hk, .c (.int _ _), fun w => ?_⟩
                have he := run_callFunc_extern (P := Tryz.prog) Tryz.func291 (by kernel_rfl) (by kernel_rfl) (by kernel_rfl) (e := Extern.BytealgCount.count) (by kernel_rfl) #[.string (ba s), .int .u8 (Int.ofNat b)] w
                have hr := Lib.run_countString (P := Tryz.prog) (ba s) (Int.ofNat b) w
                have hc : (Int.ofNat b).toNat.toUInt8 = UInt8.ofNat b := rfl
                have hd : (ba s).data.toList = s.map UInt8.ofNat := by simp [ba]
                rw [hc, Lib.countByte, hd, ← cntL_eq hb s hs] at hr
                rw [hr] at he
                simpa using he
  · cases hk
end Eng
end Go.Proofs.YtcfncbnloaiifaaGreatDoor
