/-
  The law TendKnown: its card.
-/
import Derived.Test.YtmcoaebldobapaaGreatDoorTdoR
import Derived.Test.YtmcoaebldobapaaGreatDoorD51
import Derived.Test.YtmcoaebldobapaaGreatDoorD52
import Derived.Test.YtmcoaebldobapaaGreatDoorD53
import Derived.Test.YtmcoaebldobapaaGreatDoorCards
import Derived.Test.YtmcoaebldobapaaGreatDoorTie
import Derived.SevenTiedAt
set_option linter.unusedVariables false
set_option linter.unusedSimpArgs false
namespace Go.Proofs.YtmcoaebldobapaaGreatDoor.tendKnown
open Go
set_option maxRecDepth 100000
theorem proved : Rows.TendKnownCardSaid :=
  Claim7.holds_tied_plain_at .later [] [.data, .data, .data, .data, .sentinel, .sentinel, .pinned] true (true, "f2f9755e94e8b5ff2bb67333270673ce339ac9f2508bc2ba53ddced99b0967f0") true
    over (fun _ h => by cases h) cWf (fun _ h => by cases h) tendKnown_row_tie rfl ⟨rfl, rfl⟩ cMain rfl
    (fun f fn hf hfn => by
      obtain rfl : f = 4 := Option.some.inj (funcNo.symm.trans hf) |>.symm
      obtain rfl : fn = Tryz.f4 := (Option.some.inj (Tryz.func4.symm.trans hfn)).symm
      exact ⟨cLooks, fun j t ht => by
        have hp : Tryz.f4.params = #[] := by kernel_rfl
        rw [hp] at ht
        simp at ht⟩)
    (goesBy_false noGo _)
#print axioms proved
end Go.Proofs.YtmcoaebldobapaaGreatDoor.tendKnown
