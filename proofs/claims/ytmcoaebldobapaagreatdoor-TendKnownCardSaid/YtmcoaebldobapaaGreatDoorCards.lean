/-
  DERIVED. GIVEN WITH THE SEED: THE CARDS: each row of YtmcoaebldobapaaGreatDoorRows.lean that lists a variable, with what it lists TIED to the program's text (the seventh form; the later family's looks); each row that meets fmt, with fmt's text TOLD by the authors' own Lean function (tested against real Go, not proved from fmt's source: count such statements apart). THE CARD IS WHAT COUNTS. Prove the row's statement (the work); the ties are given (YtmcoaebldobapaaGreatDoorTie.lean); close each card by the builder's one call (the guide's Derived/Test/ToyasCard.lean, 'card_holds'). Laid BY PROGRAM, IN A SANDBOX (cutbox-door.mjs). By AI agents, Wed Nov 11 2026. No macro, syntax, notation, axiom, sorry.
-/
import Derived.Test.YtmcoaebldobapaaGreatDoorRows
import GoSem.ClaimSeven
namespace Go.Proofs.YtmcoaebldobapaaGreatDoor
namespace Rows

/-- THE TIED CARD OF 'changelinglaw29.WorldKnown'. -/
def worldKnownCard : Claim7 := { stood := { row := worldKnownRow, standIns := [], harness := (true, "f2f9755e94e8b5ff2bb67333270673ce339ac9f2508bc2ba53ddced99b0967f0"), looks := true }, kinds := [], alts := [], laidByText := true, laidKinds := [.data, .data, .data, .data, .sentinel, .sentinel, .pinned], laidTests := true, laidLooks := .later }
def WorldKnownCardSaid : Prop := Claim7.holds Tryz.pinned (.plain (OpenSpec.ofChange worldKnownSpec)) worldKnownCard

/-- THE TIED CARD OF 'changelinglaw30.TendKnown'. -/
def tendKnownCard : Claim7 := { stood := { row := tendKnownRow, standIns := [], harness := (true, "f2f9755e94e8b5ff2bb67333270673ce339ac9f2508bc2ba53ddced99b0967f0"), looks := true }, kinds := [], alts := [], laidByText := true, laidKinds := [.data, .data, .data, .data, .sentinel, .sentinel, .pinned], laidTests := true, laidLooks := .later }
def TendKnownCardSaid : Prop := Claim7.holds Tryz.pinned (.plain (OpenSpec.ofChange tendKnownSpec)) tendKnownCard

/-- THE TIED CARD OF 'changelinglaw31.TapeKnown'. -/
def tapeKnownCard : Claim7 := { stood := { row := tapeKnownRow, standIns := [], harness := (true, "f2f9755e94e8b5ff2bb67333270673ce339ac9f2508bc2ba53ddced99b0967f0"), looks := true }, kinds := [], alts := [], laidByText := true, laidKinds := [.data, .data, .data, .data, .sentinel, .sentinel, .pinned], laidTests := true, laidLooks := .later }
def TapeKnownCardSaid : Prop := Claim7.holds Tryz.pinned (.plain (OpenSpec.ofChange tapeKnownSpec)) tapeKnownCard

/-- THE TIED CARD OF 'changelinglaw32.SpeakKnown'. -/
def speakKnownCard : Claim7 := { stood := { row := speakKnownRow, standIns := [], harness := (true, "f2f9755e94e8b5ff2bb67333270673ce339ac9f2508bc2ba53ddced99b0967f0"), looks := true }, kinds := [], alts := [], laidByText := true, laidKinds := [.data, .data, .data, .data, .sentinel, .sentinel, .pinned], laidTests := true, laidLooks := .later }
def SpeakKnownCardSaid : Prop := Claim7.holds Tryz.pinned (.plain (OpenSpec.ofChange speakKnownSpec)) speakKnownCard

/-- THE SECOND FORM's CARD OF 'changelinglaw29.WorldKnown'. -/
def worldKnownUptoCard : Claim7 := { stood := { row := worldKnownUptoRow, standIns := [], harness := (true, "f2f9755e94e8b5ff2bb67333270673ce339ac9f2508bc2ba53ddced99b0967f0"), looks := true }, kinds := [], alts := [], laidByText := true, laidKinds := [.data, .data, .data, .data, .sentinel, .sentinel, .pinned], laidTests := true, laidLooks := .later }
def WorldKnownUptoCardSaid : Prop := Claim7.holds Tryz.pinned (.plain (OpenSpec.upto worldKnownSpec)) worldKnownUptoCard

/-- THE SECOND FORM's CARD OF 'changelinglaw30.TendKnown'. -/
def tendKnownUptoCard : Claim7 := { stood := { row := tendKnownUptoRow, standIns := [], harness := (true, "f2f9755e94e8b5ff2bb67333270673ce339ac9f2508bc2ba53ddced99b0967f0"), looks := true }, kinds := [], alts := [], laidByText := true, laidKinds := [.data, .data, .data, .data, .sentinel, .sentinel, .pinned], laidTests := true, laidLooks := .later }
def TendKnownUptoCardSaid : Prop := Claim7.holds Tryz.pinned (.plain (OpenSpec.upto tendKnownSpec)) tendKnownUptoCard

/-- THE SECOND FORM's CARD OF 'changelinglaw31.TapeKnown'. -/
def tapeKnownUptoCard : Claim7 := { stood := { row := tapeKnownUptoRow, standIns := [], harness := (true, "f2f9755e94e8b5ff2bb67333270673ce339ac9f2508bc2ba53ddced99b0967f0"), looks := true }, kinds := [], alts := [], laidByText := true, laidKinds := [.data, .data, .data, .data, .sentinel, .sentinel, .pinned], laidTests := true, laidLooks := .later }
def TapeKnownUptoCardSaid : Prop := Claim7.holds Tryz.pinned (.plain (OpenSpec.upto tapeKnownSpec)) tapeKnownUptoCard

/-- THE SECOND FORM's CARD OF 'changelinglaw32.SpeakKnown'. -/
def speakKnownUptoCard : Claim7 := { stood := { row := speakKnownUptoRow, standIns := [], harness := (true, "f2f9755e94e8b5ff2bb67333270673ce339ac9f2508bc2ba53ddced99b0967f0"), looks := true }, kinds := [], alts := [], laidByText := true, laidKinds := [.data, .data, .data, .data, .sentinel, .sentinel, .pinned], laidTests := true, laidLooks := .later }
def SpeakKnownUptoCardSaid : Prop := Claim7.holds Tryz.pinned (.plain (OpenSpec.upto speakKnownSpec)) speakKnownUptoCard
end Rows
end Go.Proofs.YtmcoaebldobapaaGreatDoor
