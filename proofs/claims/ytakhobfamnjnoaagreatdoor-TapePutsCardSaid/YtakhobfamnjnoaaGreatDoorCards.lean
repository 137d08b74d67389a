/-
  DERIVED. GIVEN WITH THE SEED: THE CARDS: each row of YtakhobfamnjnoaaGreatDoorRows.lean that lists a variable, with what it lists TIED to the program's text (the seventh form; the later family's looks); each row that meets fmt, with fmt's text TOLD by the authors' own Lean function (tested against real Go, not proved from fmt's source: count such statements apart). THE CARD IS WHAT COUNTS. Prove the row's statement (the work); the ties are given (YtakhobfamnjnoaaGreatDoorTie.lean); close each card by the builder's one call (the guide's Derived/Test/ToyasCard.lean, 'card_holds'). Laid BY PROGRAM, IN A SANDBOX (cutbox-door.mjs). By AI agents, Wed Nov 11 2026. No macro, syntax, notation, axiom, sorry.
-/
import Derived.Test.YtakhobfamnjnoaaGreatDoorRows
import GoSem.ClaimSeven
namespace Go.Proofs.YtakhobfamnjnoaaGreatDoor
namespace Rows

/-- THE TIED CARD OF 'changelinglaw31.TapePuts'. -/
def tapePutsCard : Claim7 := { stood := { row := tapePutsRow, standIns := [], harness := (true, "fd4063dde94cca76b55131326b468ab4ec5c8d2a1cf94a9960636d6793179a67"), looks := true }, kinds := [], alts := [], laidByText := true, laidKinds := [.data, .data, .data, .data, .sentinel, .sentinel, .pinned], laidTests := true, laidLooks := .later }
def TapePutsCardSaid : Prop := Claim7.holds Tryz.pinned (.plain (OpenSpec.ofChange tapePutsSpec)) tapePutsCard

/-- THE TIED CARD OF 'changelinglaw31.TapeBack'. -/
def tapeBackCard : Claim7 := { stood := { row := tapeBackRow, standIns := [], harness := (true, "fd4063dde94cca76b55131326b468ab4ec5c8d2a1cf94a9960636d6793179a67"), looks := true }, kinds := [], alts := [], laidByText := true, laidKinds := [.data, .data, .data, .data, .sentinel, .sentinel, .pinned], laidTests := true, laidLooks := .later }
def TapeBackCardSaid : Prop := Claim7.holds Tryz.pinned (.plain (OpenSpec.ofChange tapeBackSpec)) tapeBackCard

/-- THE SECOND FORM's CARD OF 'changelinglaw31.TapePuts'. -/
def tapePutsUptoCard : Claim7 := { stood := { row := tapePutsUptoRow, standIns := [], harness := (true, "fd4063dde94cca76b55131326b468ab4ec5c8d2a1cf94a9960636d6793179a67"), looks := true }, kinds := [], alts := [], laidByText := true, laidKinds := [.data, .data, .data, .data, .sentinel, .sentinel, .pinned], laidTests := true, laidLooks := .later }
def TapePutsUptoCardSaid : Prop := Claim7.holds Tryz.pinned (.plain (OpenSpec.upto tapePutsSpec)) tapePutsUptoCard

/-- THE SECOND FORM's CARD OF 'changelinglaw31.TapeBack'. -/
def tapeBackUptoCard : Claim7 := { stood := { row := tapeBackUptoRow, standIns := [], harness := (true, "fd4063dde94cca76b55131326b468ab4ec5c8d2a1cf94a9960636d6793179a67"), looks := true }, kinds := [], alts := [], laidByText := true, laidKinds := [.data, .data, .data, .data, .sentinel, .sentinel, .pinned], laidTests := true, laidLooks := .later }
def TapeBackUptoCardSaid : Prop := Claim7.holds Tryz.pinned (.plain (OpenSpec.upto tapeBackSpec)) tapeBackUptoCard
end Rows
end Go.Proofs.YtakhobfamnjnoaaGreatDoor
