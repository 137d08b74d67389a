/-
  The law ShadowKnown: its card.
-/
import Derived.Test.YtcfncbnloaiifaaGreatDoorSkoR
import Derived.Test.YtcfncbnloaiifaaGreatDoorCards
import Derived.Test.YtcfncbnloaiifaaGreatDoorTie
import Derived.SevenTiedAt
namespace Go.Proofs.YtcfncbnloaiifaaGreatDoor.shadowKnown
open Go
set_option maxRecDepth 100000
theorem proved : Rows.ShadowKnownCardSaid :=
  Claim7.holds_tied_plain_at .later [] [.data, .data, .data, .data, .sentinel, .sentinel, .pinned] true (true, "5a65ae04754e839289e2fb5d6c4efe821ba22864a1f18fd1fec59533cbf819b7") true
    over (fun _ h => by cases h) (by kernel_rfl) (fun _ h => by cases h) shadowKnown_row_tie rfl ⟨rfl, rfl⟩ (by kernel_rfl) rfl
    (fun f fn hf hfn => by
      obtain rfl : f = 6 := Option.some.inj (funcNo.symm.trans hf) |>.symm
      obtain rfl : fn = Tryz.f6 := (Option.some.inj (Tryz.func6.symm.trans hfn)).symm
      exact ⟨by kernel_rfl, fun j t ht => by
        have hp : Tryz.f6.params = #[] := by kernel_rfl
        rw [hp] at ht
        simp at ht⟩)
    (by kernel_rfl)
#print axioms proved
end Go.Proofs.YtcfncbnloaiifaaGreatDoor.shadowKnown
