/-
  The machine's operations: a channel is made.
-/
import Derived.Test.YtmcoaebldobapaaGreatDoorD20
import Derived.Conc.SmallLaws
set_option linter.unusedVariables false
set_option linter.unusedSimpArgs false
namespace Go.Proofs.YtmcoaebldobapaaGreatDoor
namespace Eng
open Go Go.RowKit
section
variable {P : Program} {g : Nat} {w0 : World} {ρ : Ren} {h : Hp} {nx : Nat} {w : World}
noncomputable def makeChanK (P : Program) (h : Hp) (nx : Nat) (t : TypeId) (r : RV) (k : RV → Hp → Nat → Bool) : Bool :=
  optK (undL P t) fun d => (match d with
    | .chan _ e => optK (infL P e) fun i => optK (natOf r) fun n => iff (Nat.ble n 4096) (iff (Nat.ble i.bytes 1048576) (fN n fun n => newK h nx (.chan n [] 0 0) fun id h nx => k (.c (.ch id)) h nx))
    | _ => false)
theorem makeChanK_ok (H : HR P g w0 ρ h nx w) {t : TypeId} {r : RV} {v : Value} (hr : GR ρ r v) {k : RV → Hp → Nat → Bool} (hk : makeChanK P h nx t r k = true) : Do P g w0 ρ nx w k (Instr.makeChan t v) := by
  replace hk := optK_ok hk
  obtain ⟨d, hd, hk⟩ := hk
  try simp only [undL_eq, infL_eq, fnL_eq] at hd
  cases d <;> try (cases hk; done)
  rename_i dir e
  replace hk := optK_ok hk
  obtain ⟨i, hi, hk⟩ := hk
  try simp only [undL_eq, infL_eq, fnL_eq] at hi
  replace hk := optK_ok hk
  obtain ⟨n, hn, hk⟩ := hk
  replace hk := iff_ok hk
  obtain ⟨hn1, hk⟩ := hk
  replace hk := iff_ok hk
  obtain ⟨hb1, hk⟩ := hk
  have hn1 := natle hn1
  have hb1 := natle hb1
  rw [fN_eq] at hk
  obtain ⟨q, rfl⟩ := natOf_ok hn hr
  replace hk := Tr.setK_ok hk
  obtain ⟨h', hk, hh⟩ := hk
  obtain ⟨ρ', hle, hr', H'⟩ := H.new (.chan n #[] false 0 0 false) (base := 0) (cap := 0) hh fun ρ' _ hr' => .chan hr' (xs := []) (heap_alloc_new _ _) .nil
  have hm : i.bytes * n ≤ 1048576 * 4096 := Nat.mul_le_mul hb1 hn1
  have hb2 : (i.bytes : Int) * (n : Int) ≤ 281474976710544 := by
    have h1 : ((i.bytes * n : Nat) : Int) ≤ ((1048576 * 4096 : Nat) : Int) := Int.ofNat_le.2 hm
    rw [Int.natCast_mul] at h1
    omega
  exact ⟨_, _, ρ', h', nx + 1, _, hk, hle, H', .c (.ch hr'), Go.Conc.run_makeChan hd hi q n (by omega) hb2⟩
end
end Eng
end Go.Proofs.YtmcoaebldobapaaGreatDoor
