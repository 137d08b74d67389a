/-
  DERIVED. GIVEN WITH THE SEED: THE CARDS: each row of YtcfncbnloaiifaaGreatDoorRows.lean that lists a variable, with what it lists TIED to the program's text (the seventh form; the later family's looks); each row that meets fmt, with fmt's text TOLD by the authors' own Lean function (tested against real Go, not proved from fmt's source: count such statements apart). THE CARD IS WHAT COUNTS. Prove the row's statement (the work); the ties are given (YtcfncbnloaiifaaGreatDoorTie.lean); close each card by the builder's one call (the guide's Derived/Test/ToyasCard.lean, 'card_holds'). Laid BY PROGRAM, IN A SANDBOX (cutbox-door.mjs). By AI agents, Wed Nov 11 2026. No macro, syntax, notation, axiom, sorry.
-/
import Derived.Test.YtcfncbnloaiifaaGreatDoorRows
import GoSem.ClaimSeven
namespace Go.Proofs.YtcfncbnloaiifaaGreatDoor
namespace Rows

/-- THE TIED CARD OF 'changelinglaw18.IdealKnown'. -/
def idealKnownCard : Claim7 := { stood := { row := idealKnownRow, standIns := [], harness := (true, "5a65ae04754e839289e2fb5d6c4efe821ba22864a1f18fd1fec59533cbf819b7"), looks := true }, kinds := [], alts := [], laidByText := true, laidKinds := [.data, .data, .data, .data, .sentinel, .sentinel, .pinned], laidTests := true, laidLooks := .later }
def IdealKnownCardSaid : Prop := Claim7.holds Tryz.pinned (.plain (OpenSpec.ofChange idealKnownSpec)) idealKnownCard

/-- THE TIED CARD OF 'changelinglaw28.ExactKnown'. -/
def exactKnownCard : Claim7 := { stood := { row := exactKnownRow, standIns := [], harness := (true, "5a65ae04754e839289e2fb5d6c4efe821ba22864a1f18fd1fec59533cbf819b7"), looks := true }, kinds := [], alts := [], laidByText := true, laidKinds := [.data, .data, .data, .data, .sentinel, .sentinel, .pinned], laidTests := true, laidLooks := .later }
def ExactKnownCardSaid : Prop := Claim7.holds Tryz.pinned (.plain (OpenSpec.ofChange exactKnownSpec)) exactKnownCard

/-- THE TIED CARD OF 'changelinglaw20.FlowKnown'. -/
def flowKnownCard : Claim7 := { stood := { row := flowKnownRow, standIns := [], harness := (true, "5a65ae04754e839289e2fb5d6c4efe821ba22864a1f18fd1fec59533cbf819b7"), looks := true }, kinds := [], alts := [], laidByText := true, laidKinds := [.data, .data, .data, .data, .sentinel, .sentinel, .pinned], laidTests := true, laidLooks := .later }
def FlowKnownCardSaid : Prop := Claim7.holds Tryz.pinned (.plain (OpenSpec.ofChange flowKnownSpec)) flowKnownCard

/-- THE TIED CARD OF 'changelinglaw25.ShadowKnown'. -/
def shadowKnownCard : Claim7 := { stood := { row := shadowKnownRow, standIns := [], harness := (true, "5a65ae04754e839289e2fb5d6c4efe821ba22864a1f18fd1fec59533cbf819b7"), looks := true }, kinds := [], alts := [], laidByText := true, laidKinds := [.data, .data, .data, .data, .sentinel, .sentinel, .pinned], laidTests := true, laidLooks := .later }
def ShadowKnownCardSaid : Prop := Claim7.holds Tryz.pinned (.plain (OpenSpec.ofChange shadowKnownSpec)) shadowKnownCard

/-- THE TIED CARD OF 'changelinglaw27.RunnerKnown'. -/
def runnerKnownCard : Claim7 := { stood := { row := runnerKnownRow, standIns := [], harness := (true, "5a65ae04754e839289e2fb5d6c4efe821ba22864a1f18fd1fec59533cbf819b7"), looks := true }, kinds := [], alts := [], laidByText := true, laidKinds := [.data, .data, .data, .data, .sentinel, .sentinel, .pinned], laidTests := true, laidLooks := .later }
def RunnerKnownCardSaid : Prop := Claim7.holds Tryz.pinned (.plain (OpenSpec.ofChange runnerKnownSpec)) runnerKnownCard

/-- THE SECOND FORM's CARD OF 'changelinglaw18.IdealKnown'. -/
def idealKnownUptoCard : Claim7 := { stood := { row := idealKnownUptoRow, standIns := [], harness := (true, "5a65ae04754e839289e2fb5d6c4efe821ba22864a1f18fd1fec59533cbf819b7"), looks := true }, kinds := [], alts := [], laidByText := true, laidKinds := [.data, .data, .data, .data, .sentinel, .sentinel, .pinned], laidTests := true, laidLooks := .later }
def IdealKnownUptoCardSaid : Prop := Claim7.holds Tryz.pinned (.plain (OpenSpec.upto idealKnownSpec)) idealKnownUptoCard

/-- THE SECOND FORM's CARD OF 'changelinglaw28.ExactKnown'. -/
def exactKnownUptoCard : Claim7 := { stood := { row := exactKnownUptoRow, standIns := [], harness := (true, "5a65ae04754e839289e2fb5d6c4efe821ba22864a1f18fd1fec59533cbf819b7"), looks := true }, kinds := [], alts := [], laidByText := true, laidKinds := [.data, .data, .data, .data, .sentinel, .sentinel, .pinned], laidTests := true, laidLooks := .later }
def ExactKnownUptoCardSaid : Prop := Claim7.holds Tryz.pinned (.plain (OpenSpec.upto exactKnownSpec)) exactKnownUptoCard

/-- THE SECOND FORM's CARD OF 'changelinglaw20.FlowKnown'. -/
def flowKnownUptoCard : Claim7 := { stood := { row := flowKnownUptoRow, standIns := [], harness := (true, "5a65ae04754e839289e2fb5d6c4efe821ba22864a1f18fd1fec59533cbf819b7"), looks := true }, kinds := [], alts := [], laidByText := true, laidKinds := [.data, .data, .data, .data, .sentinel, .sentinel, .pinned], laidTests := true, laidLooks := .later }
def FlowKnownUptoCardSaid : Prop := Claim7.holds Tryz.pinned (.plain (OpenSpec.upto flowKnownSpec)) flowKnownUptoCard

/-- THE SECOND FORM's CARD OF 'changelinglaw25.ShadowKnown'. -/
def shadowKnownUptoCard : Claim7 := { stood := { row := shadowKnownUptoRow, standIns := [], harness := (true, "5a65ae04754e839289e2fb5d6c4efe821ba22864a1f18fd1fec59533cbf819b7"), looks := true }, kinds := [], alts := [], laidByText := true, laidKinds := [.data, .data, .data, .data, .sentinel, .sentinel, .pinned], laidTests := true, laidLooks := .later }
def ShadowKnownUptoCardSaid : Prop := Claim7.holds Tryz.pinned (.plain (OpenSpec.upto shadowKnownSpec)) shadowKnownUptoCard

/-- THE SECOND FORM's CARD OF 'changelinglaw27.RunnerKnown'. -/
def runnerKnownUptoCard : Claim7 := { stood := { row := runnerKnownUptoRow, standIns := [], harness := (true, "5a65ae04754e839289e2fb5d6c4efe821ba22864a1f18fd1fec59533cbf819b7"), looks := true }, kinds := [], alts := [], laidByText := true, laidKinds := [.data, .data, .data, .data, .sentinel, .sentinel, .pinned], laidTests := true, laidLooks := .later }
def RunnerKnownUptoCardSaid : Prop := Claim7.holds Tryz.pinned (.plain (OpenSpec.upto runnerKnownSpec)) runnerKnownUptoCard
end Rows
end Go.Proofs.YtcfncbnloaiifaaGreatDoor
