/-
  DERIVED. GIVEN WITH THE SEED: THE CARDS: each row of YtglbkodmmogomaaGreatDoorRows.lean that lists a variable, with what it lists TIED to the program's text (the seventh form; the later family's looks); each row that meets fmt, with fmt's text TOLD by the authors' own Lean function (tested against real Go, not proved from fmt's source: count such statements apart). THE CARD IS WHAT COUNTS. Prove the row's statement (the work); the ties are given (YtglbkodmmogomaaGreatDoorTie.lean); close each card by the builder's one call (the guide's Derived/Test/ToyasCard.lean, 'card_holds'). Laid BY PROGRAM, IN A SANDBOX (cutbox-door.mjs). By AI agents, Wed Nov 11 2026. No macro, syntax, notation, axiom, sorry.
-/
import Derived.Test.YtglbkodmmogomaaGreatDoorRows
import GoSem.ClaimSeven
namespace Go.Proofs.YtglbkodmmogomaaGreatDoor
namespace Rows

/-- THE TIED CARD OF 'changelinglaw24.MoveChecks'. -/
def moveChecksCard : Claim7 := { stood := { row := moveChecksRow, standIns := [], harness := (true, "3a55106789e388af8f5056190e5bf8567fb27339d8663f930565edd9732ae833"), looks := true }, kinds := [], alts := [], laidByText := true, laidKinds := [.data, .data, .data, .data, .sentinel, .sentinel, .pinned], laidTests := true, laidLooks := .later }
def MoveChecksCardSaid : Prop := Claim7.holds Tryz.pinned (.plain (OpenSpec.ofChange moveChecksSpec)) moveChecksCard

/-- THE TIED CARD OF 'changelinglaw18.IdealFits'. -/
def idealFitsCard : Claim7 := { stood := { row := idealFitsRow, standIns := [], harness := (true, "3a55106789e388af8f5056190e5bf8567fb27339d8663f930565edd9732ae833"), looks := true }, kinds := [], alts := [], laidByText := true, laidKinds := [.data, .data, .data, .data, .sentinel, .sentinel, .pinned], laidTests := true, laidLooks := .later }
def IdealFitsCardSaid : Prop := Claim7.holds Tryz.pinned (.plain (OpenSpec.ofChange idealFitsSpec)) idealFitsCard

/-- THE TIED CARD OF 'changelinglaw25.ShadowIdeals'. -/
def shadowIdealsCard : Claim7 := { stood := { row := shadowIdealsRow, standIns := [], harness := (true, "3a55106789e388af8f5056190e5bf8567fb27339d8663f930565edd9732ae833"), looks := true }, kinds := [], alts := [], laidByText := true, laidKinds := [.data, .data, .data, .data, .sentinel, .sentinel, .pinned], laidTests := true, laidLooks := .later }
def ShadowIdealsCardSaid : Prop := Claim7.holds Tryz.pinned (.plain (OpenSpec.ofChange shadowIdealsSpec)) shadowIdealsCard

/-- THE TIED CARD OF 'changelinglaw18.IdealFeeds'. -/
def idealFeedsCard : Claim7 := { stood := { row := idealFeedsRow, standIns := [], harness := (true, "3a55106789e388af8f5056190e5bf8567fb27339d8663f930565edd9732ae833"), looks := true }, kinds := [], alts := [], laidByText := true, laidKinds := [.data, .data, .data, .data, .sentinel, .sentinel, .pinned], laidTests := true, laidLooks := .later }
def IdealFeedsCardSaid : Prop := Claim7.holds Tryz.pinned (.plain (OpenSpec.ofChange idealFeedsSpec)) idealFeedsCard

/-- THE TIED CARD OF 'changelinglaw28.ExactRuns'. -/
def exactRunsCard : Claim7 := { stood := { row := exactRunsRow, standIns := [], harness := (true, "3a55106789e388af8f5056190e5bf8567fb27339d8663f930565edd9732ae833"), looks := true }, kinds := [], alts := [], laidByText := true, laidKinds := [.data, .data, .data, .data, .sentinel, .sentinel, .pinned], laidTests := true, laidLooks := .later }
def ExactRunsCardSaid : Prop := Claim7.holds Tryz.pinned (.plain (OpenSpec.ofChange exactRunsSpec)) exactRunsCard

/-- THE SECOND FORM's CARD OF 'changelinglaw24.MoveChecks'. -/
def moveChecksUptoCard : Claim7 := { stood := { row := moveChecksUptoRow, standIns := [], harness := (true, "3a55106789e388af8f5056190e5bf8567fb27339d8663f930565edd9732ae833"), looks := true }, kinds := [], alts := [], laidByText := true, laidKinds := [.data, .data, .data, .data, .sentinel, .sentinel, .pinned], laidTests := true, laidLooks := .later }
def MoveChecksUptoCardSaid : Prop := Claim7.holds Tryz.pinned (.plain (OpenSpec.upto moveChecksSpec)) moveChecksUptoCard

/-- THE SECOND FORM's CARD OF 'changelinglaw18.IdealFits'. -/
def idealFitsUptoCard : Claim7 := { stood := { row := idealFitsUptoRow, standIns := [], harness := (true, "3a55106789e388af8f5056190e5bf8567fb27339d8663f930565edd9732ae833"), looks := true }, kinds := [], alts := [], laidByText := true, laidKinds := [.data, .data, .data, .data, .sentinel, .sentinel, .pinned], laidTests := true, laidLooks := .later }
def IdealFitsUptoCardSaid : Prop := Claim7.holds Tryz.pinned (.plain (OpenSpec.upto idealFitsSpec)) idealFitsUptoCard

/-- THE SECOND FORM's CARD OF 'changelinglaw25.ShadowIdeals'. -/
def shadowIdealsUptoCard : Claim7 := { stood := { row := shadowIdealsUptoRow, standIns := [], harness := (true, "3a55106789e388af8f5056190e5bf8567fb27339d8663f930565edd9732ae833"), looks := true }, kinds := [], alts := [], laidByText := true, laidKinds := [.data, .data, .data, .data, .sentinel, .sentinel, .pinned], laidTests := true, laidLooks := .later }
def ShadowIdealsUptoCardSaid : Prop := Claim7.holds Tryz.pinned (.plain (OpenSpec.upto shadowIdealsSpec)) shadowIdealsUptoCard

/-- THE SECOND FORM's CARD OF 'changelinglaw18.IdealFeeds'. -/
def idealFeedsUptoCard : Claim7 := { stood := { row := idealFeedsUptoRow, standIns := [], harness := (true, "3a55106789e388af8f5056190e5bf8567fb27339d8663f930565edd9732ae833"), looks := true }, kinds := [], alts := [], laidByText := true, laidKinds := [.data, .data, .data, .data, .sentinel, .sentinel, .pinned], laidTests := true, laidLooks := .later }
def IdealFeedsUptoCardSaid : Prop := Claim7.holds Tryz.pinned (.plain (OpenSpec.upto idealFeedsSpec)) idealFeedsUptoCard

/-- THE SECOND FORM's CARD OF 'changelinglaw28.ExactRuns'. -/
def exactRunsUptoCard : Claim7 := { stood := { row := exactRunsUptoRow, standIns := [], harness := (true, "3a55106789e388af8f5056190e5bf8567fb27339d8663f930565edd9732ae833"), looks := true }, kinds := [], alts := [], laidByText := true, laidKinds := [.data, .data, .data, .data, .sentinel, .sentinel, .pinned], laidTests := true, laidLooks := .later }
def ExactRunsUptoCardSaid : Prop := Claim7.holds Tryz.pinned (.plain (OpenSpec.upto exactRunsSpec)) exactRunsUptoCard
end Rows
end Go.Proofs.YtglbkodmmogomaaGreatDoor
