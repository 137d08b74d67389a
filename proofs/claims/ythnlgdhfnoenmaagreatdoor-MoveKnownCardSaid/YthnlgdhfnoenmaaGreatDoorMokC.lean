/-
  The law MoveKnown: its card.
-/
import Derived.Test.YthnlgdhfnoenmaaGreatDoorMokR
import Derived.Test.YthnlgdhfnoenmaaGreatDoorCards
import Derived.Test.YthnlgdhfnoenmaaGreatDoorTie
import Derived.SevenTiedAt
namespace Go.Proofs.YthnlgdhfnoenmaaGreatDoor.moveKnown
open Go
set_option maxRecDepth 100000
theorem proved : Rows.MoveKnownCardSaid :=
  Claim7.holds_tied_plain_at .later [] [.data, .data, .data, .data, .sentinel, .sentinel, .pinned] true (true, "089aac2a75b6ce0c0c137ce8a5751bfa965492ec7df5875bb849c4a59ac7bed7") true
    over (fun _ h => by cases h) (by kernel_rfl) (fun _ h => by cases h) moveKnown_row_tie rfl ⟨rfl, rfl⟩ (by kernel_rfl) rfl
    (fun f fn hf hfn => by
      obtain rfl : f = 3 := Option.some.inj (funcNo.symm.trans hf) |>.symm
      obtain rfl : fn = Tryz.f3 := (Option.some.inj (Tryz.func3.symm.trans hfn)).symm
      exact ⟨by kernel_rfl, fun j t ht => by
        have hp : Tryz.f3.params = #[] := by kernel_rfl
        rw [hp] at ht
        simp at ht⟩)
    (by kernel_rfl)
#print axioms proved
end Go.Proofs.YthnlgdhfnoenmaaGreatDoor.moveKnown
