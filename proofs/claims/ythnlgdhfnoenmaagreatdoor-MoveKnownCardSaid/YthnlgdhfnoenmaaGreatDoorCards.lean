/-
  DERIVED. GIVEN WITH THE SEED: THE CARDS: each row of YthnlgdhfnoenmaaGreatDoorRows.lean that lists a variable, with what it lists TIED to the program's text (the seventh form; the later family's looks); each row that meets fmt, with fmt's text TOLD by the authors' own Lean function (tested against real Go, not proved from fmt's source: count such statements apart). THE CARD IS WHAT COUNTS. Prove the row's statement (the work); the ties are given (YthnlgdhfnoenmaaGreatDoorTie.lean); close each card by the builder's one call (the guide's Derived/Test/ToyasCard.lean, 'card_holds'). Laid BY PROGRAM, IN A SANDBOX (cutbox-door.mjs). By AI agents, Wed Nov 11 2026. No macro, syntax, notation, axiom, sorry.
-/
import Derived.Test.YthnlgdhfnoenmaaGreatDoorRows
import GoSem.ClaimSeven
namespace Go.Proofs.YthnlgdhfnoenmaaGreatDoor
namespace Rows

/-- THE TIED CARD OF 'changelinglaw24.MoveKnown'. -/
def moveKnownCard : Claim7 := { stood := { row := moveKnownRow, standIns := [], harness := (true, "089aac2a75b6ce0c0c137ce8a5751bfa965492ec7df5875bb849c4a59ac7bed7"), looks := true }, kinds := [], alts := [], laidByText := true, laidKinds := [.data, .data, .data, .data, .sentinel, .sentinel, .pinned], laidTests := true, laidLooks := .later }
def MoveKnownCardSaid : Prop := Claim7.holds Tryz.pinned (.plain (OpenSpec.ofChange moveKnownSpec)) moveKnownCard

/-- THE TIED CARD OF 'changelinglaw24.MoveChecks'. -/
def moveChecksCard : Claim7 := { stood := { row := moveChecksRow, standIns := [], harness := (true, "089aac2a75b6ce0c0c137ce8a5751bfa965492ec7df5875bb849c4a59ac7bed7"), looks := true }, kinds := [], alts := [], laidByText := true, laidKinds := [.data, .data, .data, .data, .sentinel, .sentinel, .pinned], laidTests := true, laidLooks := .later }
def MoveChecksCardSaid : Prop := Claim7.holds Tryz.pinned (.plain (OpenSpec.ofChange moveChecksSpec)) moveChecksCard

/-- THE TIED CARD OF 'changelinglaw18.IdealFits'. -/
def idealFitsCard : Claim7 := { stood := { row := idealFitsRow, standIns := [], harness := (true, "089aac2a75b6ce0c0c137ce8a5751bfa965492ec7df5875bb849c4a59ac7bed7"), looks := true }, kinds := [], alts := [], laidByText := true, laidKinds := [.data, .data, .data, .data, .sentinel, .sentinel, .pinned], laidTests := true, laidLooks := .later }
def IdealFitsCardSaid : Prop := Claim7.holds Tryz.pinned (.plain (OpenSpec.ofChange idealFitsSpec)) idealFitsCard

/-- THE TIED CARD OF 'changelinglaw25.ShadowIdeals'. -/
def shadowIdealsCard : Claim7 := { stood := { row := shadowIdealsRow, standIns := [], harness := (true, "089aac2a75b6ce0c0c137ce8a5751bfa965492ec7df5875bb849c4a59ac7bed7"), looks := true }, kinds := [], alts := [], laidByText := true, laidKinds := [.data, .data, .data, .data, .sentinel, .sentinel, .pinned], laidTests := true, laidLooks := .later }
def ShadowIdealsCardSaid : Prop := Claim7.holds Tryz.pinned (.plain (OpenSpec.ofChange shadowIdealsSpec)) shadowIdealsCard

/-- THE TIED CARD OF 'changelinglaw18.IdealFeeds'. -/
def idealFeedsCard : Claim7 := { stood := { row := idealFeedsRow, standIns := [], harness := (true, "089aac2a75b6ce0c0c137ce8a5751bfa965492ec7df5875bb849c4a59ac7bed7"), looks := true }, kinds := [], alts := [], laidByText := true, laidKinds := [.data, .data, .data, .data, .sentinel, .sentinel, .pinned], laidTests := true, laidLooks := .later }
def IdealFeedsCardSaid : Prop := Claim7.holds Tryz.pinned (.plain (OpenSpec.ofChange idealFeedsSpec)) idealFeedsCard

/-- THE TIED CARD OF 'changelinglaw18.IdealKnown'. -/
def idealKnownCard : Claim7 := { stood := { row := idealKnownRow, standIns := [], harness := (true, "089aac2a75b6ce0c0c137ce8a5751bfa965492ec7df5875bb849c4a59ac7bed7"), looks := true }, kinds := [], alts := [], laidByText := true, laidKinds := [.data, .data, .data, .data, .sentinel, .sentinel, .pinned], laidTests := true, laidLooks := .later }
def IdealKnownCardSaid : Prop := Claim7.holds Tryz.pinned (.plain (OpenSpec.ofChange idealKnownSpec)) idealKnownCard

/-- THE TIED CARD OF 'changelinglaw28.ExactKnown'. -/
def exactKnownCard : Claim7 := { stood := { row := exactKnownRow, standIns := [], harness := (true, "089aac2a75b6ce0c0c137ce8a5751bfa965492ec7df5875bb849c4a59ac7bed7"), looks := true }, kinds := [], alts := [], laidByText := true, laidKinds := [.data, .data, .data, .data, .sentinel, .sentinel, .pinned], laidTests := true, laidLooks := .later }
def ExactKnownCardSaid : Prop := Claim7.holds Tryz.pinned (.plain (OpenSpec.ofChange exactKnownSpec)) exactKnownCard

/-- THE TIED CARD OF 'changelinglaw28.ExactRuns'. -/
def exactRunsCard : Claim7 := { stood := { row := exactRunsRow, standIns := [], harness := (true, "089aac2a75b6ce0c0c137ce8a5751bfa965492ec7df5875bb849c4a59ac7bed7"), looks := true }, kinds := [], alts := [], laidByText := true, laidKinds := [.data, .data, .data, .data, .sentinel, .sentinel, .pinned], laidTests := true, laidLooks := .later }
def ExactRunsCardSaid : Prop := Claim7.holds Tryz.pinned (.plain (OpenSpec.ofChange exactRunsSpec)) exactRunsCard

/-- THE SECOND FORM's CARD OF 'changelinglaw24.MoveKnown'. -/
def moveKnownUptoCard : Claim7 := { stood := { row := moveKnownUptoRow, standIns := [], harness := (true, "089aac2a75b6ce0c0c137ce8a5751bfa965492ec7df5875bb849c4a59ac7bed7"), looks := true }, kinds := [], alts := [], laidByText := true, laidKinds := [.data, .data, .data, .data, .sentinel, .sentinel, .pinned], laidTests := true, laidLooks := .later }
def MoveKnownUptoCardSaid : Prop := Claim7.holds Tryz.pinned (.plain (OpenSpec.upto moveKnownSpec)) moveKnownUptoCard

/-- THE SECOND FORM's CARD OF 'changelinglaw24.MoveChecks'. -/
def moveChecksUptoCard : Claim7 := { stood := { row := moveChecksUptoRow, standIns := [], harness := (true, "089aac2a75b6ce0c0c137ce8a5751bfa965492ec7df5875bb849c4a59ac7bed7"), looks := true }, kinds := [], alts := [], laidByText := true, laidKinds := [.data, .data, .data, .data, .sentinel, .sentinel, .pinned], laidTests := true, laidLooks := .later }
def MoveChecksUptoCardSaid : Prop := Claim7.holds Tryz.pinned (.plain (OpenSpec.upto moveChecksSpec)) moveChecksUptoCard

/-- THE SECOND FORM's CARD OF 'changelinglaw18.IdealFits'. -/
def idealFitsUptoCard : Claim7 := { stood := { row := idealFitsUptoRow, standIns := [], harness := (true, "089aac2a75b6ce0c0c137ce8a5751bfa965492ec7df5875bb849c4a59ac7bed7"), looks := true }, kinds := [], alts := [], laidByText := true, laidKinds := [.data, .data, .data, .data, .sentinel, .sentinel, .pinned], laidTests := true, laidLooks := .later }
def IdealFitsUptoCardSaid : Prop := Claim7.holds Tryz.pinned (.plain (OpenSpec.upto idealFitsSpec)) idealFitsUptoCard

/-- THE SECOND FORM's CARD OF 'changelinglaw25.ShadowIdeals'. -/
def shadowIdealsUptoCard : Claim7 := { stood := { row := shadowIdealsUptoRow, standIns := [], harness := (true, "089aac2a75b6ce0c0c137ce8a5751bfa965492ec7df5875bb849c4a59ac7bed7"), looks := true }, kinds := [], alts := [], laidByText := true, laidKinds := [.data, .data, .data, .data, .sentinel, .sentinel, .pinned], laidTests := true, laidLooks := .later }
def ShadowIdealsUptoCardSaid : Prop := Claim7.holds Tryz.pinned (.plain (OpenSpec.upto shadowIdealsSpec)) shadowIdealsUptoCard

/-- THE SECOND FORM's CARD OF 'changelinglaw18.IdealFeeds'. -/
def idealFeedsUptoCard : Claim7 := { stood := { row := idealFeedsUptoRow, standIns := [], harness := (true, "089aac2a75b6ce0c0c137ce8a5751bfa965492ec7df5875bb849c4a59ac7bed7"), looks := true }, kinds := [], alts := [], laidByText := true, laidKinds := [.data, .data, .data, .data, .sentinel, .sentinel, .pinned], laidTests := true, laidLooks := .later }
def IdealFeedsUptoCardSaid : Prop := Claim7.holds Tryz.pinned (.plain (OpenSpec.upto idealFeedsSpec)) idealFeedsUptoCard

/-- THE SECOND FORM's CARD OF 'changelinglaw18.IdealKnown'. -/
def idealKnownUptoCard : Claim7 := { stood := { row := idealKnownUptoRow, standIns := [], harness := (true, "089aac2a75b6ce0c0c137ce8a5751bfa965492ec7df5875bb849c4a59ac7bed7"), looks := true }, kinds := [], alts := [], laidByText := true, laidKinds := [.data, .data, .data, .data, .sentinel, .sentinel, .pinned], laidTests := true, laidLooks := .later }
def IdealKnownUptoCardSaid : Prop := Claim7.holds Tryz.pinned (.plain (OpenSpec.upto idealKnownSpec)) idealKnownUptoCard

/-- THE SECOND FORM's CARD OF 'changelinglaw28.ExactKnown'. -/
def exactKnownUptoCard : Claim7 := { stood := { row := exactKnownUptoRow, standIns := [], harness := (true, "089aac2a75b6ce0c0c137ce8a5751bfa965492ec7df5875bb849c4a59ac7bed7"), looks := true }, kinds := [], alts := [], laidByText := true, laidKinds := [.data, .data, .data, .data, .sentinel, .sentinel, .pinned], laidTests := true, laidLooks := .later }
def ExactKnownUptoCardSaid : Prop := Claim7.holds Tryz.pinned (.plain (OpenSpec.upto exactKnownSpec)) exactKnownUptoCard

/-- THE SECOND FORM's CARD OF 'changelinglaw28.ExactRuns'. -/
def exactRunsUptoCard : Claim7 := { stood := { row := exactRunsUptoRow, standIns := [], harness := (true, "089aac2a75b6ce0c0c137ce8a5751bfa965492ec7df5875bb849c4a59ac7bed7"), looks := true }, kinds := [], alts := [], laidByText := true, laidKinds := [.data, .data, .data, .data, .sentinel, .sentinel, .pinned], laidTests := true, laidLooks := .later }
def ExactRunsUptoCardSaid : Prop := Claim7.holds Tryz.pinned (.plain (OpenSpec.upto exactRunsSpec)) exactRunsUptoCard
end Rows
end Go.Proofs.YthnlgdhfnoenmaaGreatDoor
