/-
  The law RunnerKnown: its card.
-/
import Derived.Test.YtcfncbnloaiifaaGreatDoorRkoR
import Derived.Test.YtcfncbnloaiifaaGreatDoorRkoD
import Derived.Test.YtcfncbnloaiifaaGreatDoorRkoE
import Derived.Test.YtcfncbnloaiifaaGreatDoorRkoF
import Derived.Test.YtcfncbnloaiifaaGreatDoorCards
import Derived.Test.YtcfncbnloaiifaaGreatDoorTie
import Derived.SevenTiedAt
namespace Go.Proofs.YtcfncbnloaiifaaGreatDoor.runnerKnown
open Go
set_option maxRecDepth 100000
theorem proved : Rows.RunnerKnownCardSaid :=
  Claim7.holds_tied_plain_at .later [] [.data, .data, .data, .data, .sentinel, .sentinel, .pinned] true (true, "5a65ae04754e839289e2fb5d6c4efe821ba22864a1f18fd1fec59533cbf819b7") true
    over (fun _ h => by cases h) cWf (fun _ h => by cases h) runnerKnown_row_tie rfl ⟨rfl, rfl⟩ cMain rfl
    (fun f fn hf hfn => by
      obtain rfl : f = 7 := Option.some.inj (funcNo.symm.trans hf) |>.symm
      obtain rfl : fn = Tryz.f7 := (Option.some.inj (Tryz.func7.symm.trans hfn)).symm
      exact ⟨cLooks, fun j t ht => by
        have hp : Tryz.f7.params = #[] := by kernel_rfl
        rw [hp] at ht
        simp at ht⟩)
    cGoes
#print axioms proved
end Go.Proofs.YtcfncbnloaiifaaGreatDoor.runnerKnown
