/-
  DERIVED. GIVEN WITH THE SEED: THE CARDS: each row of YtopeleenlcnkkaaGreatDoorRows.lean that lists a variable, with what it lists TIED to the program's text (the seventh form; the later family's looks); each row that meets fmt, with fmt's text TOLD by the authors' own Lean function (tested against real Go, not proved from fmt's source: count such statements apart). THE CARD IS WHAT COUNTS. Prove the row's statement (the work); the ties are given (YtopeleenlcnkkaaGreatDoorTie.lean); close each card by the builder's one call (the guide's Derived/Test/ToyasCard.lean, 'card_holds'). Laid BY PROGRAM, IN A SANDBOX (cutbox-door.mjs). By AI agents, Wed Nov 11 2026. No macro, syntax, notation, axiom, sorry.
-/
import Derived.Test.YtopeleenlcnkkaaGreatDoorRows
import GoSem.ClaimSeven
namespace Go.Proofs.YtopeleenlcnkkaaGreatDoor
namespace Rows

/-- THE TIED CARD OF 'changelinglaw24.MoveTwice'. -/
def moveTwiceCard : Claim7 := { stood := { row := moveTwiceRow, standIns := [], harness := (true, "f5337fdfab683e7149e482bc0e5e9f7e49b15c96ee6f72787b416a31e454c355"), looks := true }, kinds := [], alts := [], laidByText := true, laidKinds := [.data, .data, .data, .data, .sentinel, .sentinel, .pinned], laidTests := true, laidLooks := .later }
def MoveTwiceCardSaid : Prop := Claim7.holds Tryz.pinned (.plain (OpenSpec.ofChange moveTwiceSpec)) moveTwiceCard

/-- THE TIED CARD OF 'changelinglaw24.MoveNone'. -/
def moveNoneCard : Claim7 := { stood := { row := moveNoneRow, standIns := [], harness := (true, "f5337fdfab683e7149e482bc0e5e9f7e49b15c96ee6f72787b416a31e454c355"), looks := true }, kinds := [], alts := [], laidByText := true, laidKinds := [.data, .data, .data, .data, .sentinel, .sentinel, .pinned], laidTests := true, laidLooks := .later }
def MoveNoneCardSaid : Prop := Claim7.holds Tryz.pinned (.plain (OpenSpec.ofChange moveNoneSpec)) moveNoneCard

/-- THE TIED CARD OF 'changelinglaw18.IdealRises'. -/
def idealRisesCard : Claim7 := { stood := { row := idealRisesRow, standIns := [], harness := (true, "f5337fdfab683e7149e482bc0e5e9f7e49b15c96ee6f72787b416a31e454c355"), looks := true }, kinds := [], alts := [], laidByText := true, laidKinds := [.data, .data, .data, .data, .sentinel, .sentinel, .pinned], laidTests := true, laidLooks := .later }
def IdealRisesCardSaid : Prop := Claim7.holds Tryz.pinned (.plain (OpenSpec.ofChange idealRisesSpec)) idealRisesCard

/-- THE TIED CARD OF 'changelinglaw25.ShadowSame'. -/
def shadowSameCard : Claim7 := { stood := { row := shadowSameRow, standIns := [], harness := (true, "f5337fdfab683e7149e482bc0e5e9f7e49b15c96ee6f72787b416a31e454c355"), looks := true }, kinds := [], alts := [], laidByText := true, laidKinds := [.data, .data, .data, .data, .sentinel, .sentinel, .pinned], laidTests := true, laidLooks := .later }
def ShadowSameCardSaid : Prop := Claim7.holds Tryz.pinned (.plain (OpenSpec.ofChange shadowSameSpec)) shadowSameCard

/-- THE TIED CARD OF 'changelinglaw25.ShadowFirst'. -/
def shadowFirstCard : Claim7 := { stood := { row := shadowFirstRow, standIns := [], harness := (true, "f5337fdfab683e7149e482bc0e5e9f7e49b15c96ee6f72787b416a31e454c355"), looks := true }, kinds := [], alts := [], laidByText := true, laidKinds := [.data, .data, .data, .data, .sentinel, .sentinel, .pinned], laidTests := true, laidLooks := .later }
def ShadowFirstCardSaid : Prop := Claim7.holds Tryz.pinned (.plain (OpenSpec.ofChange shadowFirstSpec)) shadowFirstCard

/-- THE TIED CARD OF 'changelinglaw18.IdealPar'. -/
def idealParCard : Claim7 := { stood := { row := idealParRow, standIns := [], harness := (true, "f5337fdfab683e7149e482bc0e5e9f7e49b15c96ee6f72787b416a31e454c355"), looks := true }, kinds := [], alts := [], laidByText := true, laidKinds := [.data, .data, .data, .data, .sentinel, .sentinel, .pinned], laidTests := true, laidLooks := .later }
def IdealParCardSaid : Prop := Claim7.holds Tryz.pinned (.plain (OpenSpec.ofChange idealParSpec)) idealParCard

/-- THE TIED CARD OF 'changelinglaw18.IdealOwn'. -/
def idealOwnCard : Claim7 := { stood := { row := idealOwnRow, standIns := [], harness := (true, "f5337fdfab683e7149e482bc0e5e9f7e49b15c96ee6f72787b416a31e454c355"), looks := true }, kinds := [], alts := [], laidByText := true, laidKinds := [.data, .data, .data, .data, .sentinel, .sentinel, .pinned], laidTests := true, laidLooks := .later }
def IdealOwnCardSaid : Prop := Claim7.holds Tryz.pinned (.plain (OpenSpec.ofChange idealOwnSpec)) idealOwnCard

/-- THE TIED CARD OF 'changelinglaw18.IdealGoes'. -/
def idealGoesCard : Claim7 := { stood := { row := idealGoesRow, standIns := [], harness := (true, "f5337fdfab683e7149e482bc0e5e9f7e49b15c96ee6f72787b416a31e454c355"), looks := true }, kinds := [], alts := [], laidByText := true, laidKinds := [.data, .data, .data, .data, .sentinel, .sentinel, .pinned], laidTests := true, laidLooks := .later }
def IdealGoesCardSaid : Prop := Claim7.holds Tryz.pinned (.plain (OpenSpec.ofChange idealGoesSpec)) idealGoesCard

/-- THE TIED CARD OF 'changelinglaw24.MoveKeeps'. -/
def moveKeepsCard : Claim7 := { stood := { row := moveKeepsRow, standIns := [], harness := (true, "f5337fdfab683e7149e482bc0e5e9f7e49b15c96ee6f72787b416a31e454c355"), looks := true }, kinds := [], alts := [], laidByText := true, laidKinds := [.data, .data, .data, .data, .sentinel, .sentinel, .pinned], laidTests := true, laidLooks := .later }
def MoveKeepsCardSaid : Prop := Claim7.holds Tryz.pinned (.plain (OpenSpec.ofChange moveKeepsSpec)) moveKeepsCard

/-- THE TIED CARD OF 'changelinglaw28.ExactNone'. -/
def exactNoneCard : Claim7 := { stood := { row := exactNoneRow, standIns := [], harness := (true, "f5337fdfab683e7149e482bc0e5e9f7e49b15c96ee6f72787b416a31e454c355"), looks := true }, kinds := [], alts := [], laidByText := true, laidKinds := [.data, .data, .data, .data, .sentinel, .sentinel, .pinned], laidTests := true, laidLooks := .later }
def ExactNoneCardSaid : Prop := Claim7.holds Tryz.pinned (.plain (OpenSpec.ofChange exactNoneSpec)) exactNoneCard

/-- THE TIED CARD OF 'changelinglaw28.ExactGrows'. -/
def exactGrowsCard : Claim7 := { stood := { row := exactGrowsRow, standIns := [], harness := (true, "f5337fdfab683e7149e482bc0e5e9f7e49b15c96ee6f72787b416a31e454c355"), looks := true }, kinds := [], alts := [], laidByText := true, laidKinds := [.data, .data, .data, .data, .sentinel, .sentinel, .pinned], laidTests := true, laidLooks := .later }
def ExactGrowsCardSaid : Prop := Claim7.holds Tryz.pinned (.plain (OpenSpec.ofChange exactGrowsSpec)) exactGrowsCard

/-- THE TIED CARD OF 'changelinglaw28.ExactParts'. -/
def exactPartsCard : Claim7 := { stood := { row := exactPartsRow, standIns := [], harness := (true, "f5337fdfab683e7149e482bc0e5e9f7e49b15c96ee6f72787b416a31e454c355"), looks := true }, kinds := [], alts := [], laidByText := true, laidKinds := [.data, .data, .data, .data, .sentinel, .sentinel, .pinned], laidTests := true, laidLooks := .later }
def ExactPartsCardSaid : Prop := Claim7.holds Tryz.pinned (.plain (OpenSpec.ofChange exactPartsSpec)) exactPartsCard

/-- THE SECOND FORM's CARD OF 'changelinglaw24.MoveTwice'. -/
def moveTwiceUptoCard : Claim7 := { stood := { row := moveTwiceUptoRow, standIns := [], harness := (true, "f5337fdfab683e7149e482bc0e5e9f7e49b15c96ee6f72787b416a31e454c355"), looks := true }, kinds := [], alts := [], laidByText := true, laidKinds := [.data, .data, .data, .data, .sentinel, .sentinel, .pinned], laidTests := true, laidLooks := .later }
def MoveTwiceUptoCardSaid : Prop := Claim7.holds Tryz.pinned (.plain (OpenSpec.upto moveTwiceSpec)) moveTwiceUptoCard

/-- THE SECOND FORM's CARD OF 'changelinglaw24.MoveNone'. -/
def moveNoneUptoCard : Claim7 := { stood := { row := moveNoneUptoRow, standIns := [], harness := (true, "f5337fdfab683e7149e482bc0e5e9f7e49b15c96ee6f72787b416a31e454c355"), looks := true }, kinds := [], alts := [], laidByText := true, laidKinds := [.data, .data, .data, .data, .sentinel, .sentinel, .pinned], laidTests := true, laidLooks := .later }
def MoveNoneUptoCardSaid : Prop := Claim7.holds Tryz.pinned (.plain (OpenSpec.upto moveNoneSpec)) moveNoneUptoCard

/-- THE SECOND FORM's CARD OF 'changelinglaw18.IdealRises'. -/
def idealRisesUptoCard : Claim7 := { stood := { row := idealRisesUptoRow, standIns := [], harness := (true, "f5337fdfab683e7149e482bc0e5e9f7e49b15c96ee6f72787b416a31e454c355"), looks := true }, kinds := [], alts := [], laidByText := true, laidKinds := [.data, .data, .data, .data, .sentinel, .sentinel, .pinned], laidTests := true, laidLooks := .later }
def IdealRisesUptoCardSaid : Prop := Claim7.holds Tryz.pinned (.plain (OpenSpec.upto idealRisesSpec)) idealRisesUptoCard

/-- THE SECOND FORM's CARD OF 'changelinglaw25.ShadowSame'. -/
def shadowSameUptoCard : Claim7 := { stood := { row := shadowSameUptoRow, standIns := [], harness := (true, "f5337fdfab683e7149e482bc0e5e9f7e49b15c96ee6f72787b416a31e454c355"), looks := true }, kinds := [], alts := [], laidByText := true, laidKinds := [.data, .data, .data, .data, .sentinel, .sentinel, .pinned], laidTests := true, laidLooks := .later }
def ShadowSameUptoCardSaid : Prop := Claim7.holds Tryz.pinned (.plain (OpenSpec.upto shadowSameSpec)) shadowSameUptoCard

/-- THE SECOND FORM's CARD OF 'changelinglaw25.ShadowFirst'. -/
def shadowFirstUptoCard : Claim7 := { stood := { row := shadowFirstUptoRow, standIns := [], harness := (true, "f5337fdfab683e7149e482bc0e5e9f7e49b15c96ee6f72787b416a31e454c355"), looks := true }, kinds := [], alts := [], laidByText := true, laidKinds := [.data, .data, .data, .data, .sentinel, .sentinel, .pinned], laidTests := true, laidLooks := .later }
def ShadowFirstUptoCardSaid : Prop := Claim7.holds Tryz.pinned (.plain (OpenSpec.upto shadowFirstSpec)) shadowFirstUptoCard

/-- THE SECOND FORM's CARD OF 'changelinglaw18.IdealPar'. -/
def idealParUptoCard : Claim7 := { stood := { row := idealParUptoRow, standIns := [], harness := (true, "f5337fdfab683e7149e482bc0e5e9f7e49b15c96ee6f72787b416a31e454c355"), looks := true }, kinds := [], alts := [], laidByText := true, laidKinds := [.data, .data, .data, .data, .sentinel, .sentinel, .pinned], laidTests := true, laidLooks := .later }
def IdealParUptoCardSaid : Prop := Claim7.holds Tryz.pinned (.plain (OpenSpec.upto idealParSpec)) idealParUptoCard

/-- THE SECOND FORM's CARD OF 'changelinglaw18.IdealOwn'. -/
def idealOwnUptoCard : Claim7 := { stood := { row := idealOwnUptoRow, standIns := [], harness := (true, "f5337fdfab683e7149e482bc0e5e9f7e49b15c96ee6f72787b416a31e454c355"), looks := true }, kinds := [], alts := [], laidByText := true, laidKinds := [.data, .data, .data, .data, .sentinel, .sentinel, .pinned], laidTests := true, laidLooks := .later }
def IdealOwnUptoCardSaid : Prop := Claim7.holds Tryz.pinned (.plain (OpenSpec.upto idealOwnSpec)) idealOwnUptoCard

/-- THE SECOND FORM's CARD OF 'changelinglaw18.IdealGoes'. -/
def idealGoesUptoCard : Claim7 := { stood := { row := idealGoesUptoRow, standIns := [], harness := (true, "f5337fdfab683e7149e482bc0e5e9f7e49b15c96ee6f72787b416a31e454c355"), looks := true }, kinds := [], alts := [], laidByText := true, laidKinds := [.data, .data, .data, .data, .sentinel, .sentinel, .pinned], laidTests := true, laidLooks := .later }
def IdealGoesUptoCardSaid : Prop := Claim7.holds Tryz.pinned (.plain (OpenSpec.upto idealGoesSpec)) idealGoesUptoCard

/-- THE SECOND FORM's CARD OF 'changelinglaw24.MoveKeeps'. -/
def moveKeepsUptoCard : Claim7 := { stood := { row := moveKeepsUptoRow, standIns := [], harness := (true, "f5337fdfab683e7149e482bc0e5e9f7e49b15c96ee6f72787b416a31e454c355"), looks := true }, kinds := [], alts := [], laidByText := true, laidKinds := [.data, .data, .data, .data, .sentinel, .sentinel, .pinned], laidTests := true, laidLooks := .later }
def MoveKeepsUptoCardSaid : Prop := Claim7.holds Tryz.pinned (.plain (OpenSpec.upto moveKeepsSpec)) moveKeepsUptoCard

/-- THE SECOND FORM's CARD OF 'changelinglaw28.ExactNone'. -/
def exactNoneUptoCard : Claim7 := { stood := { row := exactNoneUptoRow, standIns := [], harness := (true, "f5337fdfab683e7149e482bc0e5e9f7e49b15c96ee6f72787b416a31e454c355"), looks := true }, kinds := [], alts := [], laidByText := true, laidKinds := [.data, .data, .data, .data, .sentinel, .sentinel, .pinned], laidTests := true, laidLooks := .later }
def ExactNoneUptoCardSaid : Prop := Claim7.holds Tryz.pinned (.plain (OpenSpec.upto exactNoneSpec)) exactNoneUptoCard

/-- THE SECOND FORM's CARD OF 'changelinglaw28.ExactGrows'. -/
def exactGrowsUptoCard : Claim7 := { stood := { row := exactGrowsUptoRow, standIns := [], harness := (true, "f5337fdfab683e7149e482bc0e5e9f7e49b15c96ee6f72787b416a31e454c355"), looks := true }, kinds := [], alts := [], laidByText := true, laidKinds := [.data, .data, .data, .data, .sentinel, .sentinel, .pinned], laidTests := true, laidLooks := .later }
def ExactGrowsUptoCardSaid : Prop := Claim7.holds Tryz.pinned (.plain (OpenSpec.upto exactGrowsSpec)) exactGrowsUptoCard

/-- THE SECOND FORM's CARD OF 'changelinglaw28.ExactParts'. -/
def exactPartsUptoCard : Claim7 := { stood := { row := exactPartsUptoRow, standIns := [], harness := (true, "f5337fdfab683e7149e482bc0e5e9f7e49b15c96ee6f72787b416a31e454c355"), looks := true }, kinds := [], alts := [], laidByText := true, laidKinds := [.data, .data, .data, .data, .sentinel, .sentinel, .pinned], laidTests := true, laidLooks := .later }
def ExactPartsUptoCardSaid : Prop := Claim7.holds Tryz.pinned (.plain (OpenSpec.upto exactPartsSpec)) exactPartsUptoCard
end Rows
end Go.Proofs.YtopeleenlcnkkaaGreatDoor
