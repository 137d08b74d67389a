/-
  NARROWER THAN 'FOR EVERY INPUT', by the rows' own cells (each row's printed sentence says how): OperGets: loops · OperRows: loops · OperParted: loops.
  DERIVED. THE GIVEN ROWS OF THIS SEAT. 12 by the template 'for every input the law returns true; each argument reads behind the call as it read before'; 0 by the template 'total and deterministic' (their statements: YtaalpijohdlabaaTotals.lean).
  GIVEN WITH THE SEED: the statements are not yours to turn. If you find one false, say at which input.
  Laid BY PROGRAM, IN A SANDBOX (cutbox-rows.mjs): the forced cells as the released guide's own fill.sh prints them over the translation 8aa12ce2ae3e1cf5… (all of the seat's roots in one cut). By AI agents, Wed Nov 11 2026. No macro, syntax, notation, axiom, sorry.
-/
import Derived.Test.YtaalpijohdlabaaChecked
import GoSem.Claim
import GoSem.ClaimJoined
import GoSem.ClaimMapViews
import Derived.JoinedTies
import Derived.KernelRfl
namespace Go.Proofs.Ytaalpijohdlabaa
/- THE CELL 'sum', in the pinned program and in every row, IS THE sha256 OF THE DUMP (.gsa) THAT YtaalpijohdlabaaProg.lean LOADS. Nothing in Lean hashes anything: it is a label: what it is worth is what the hold of that sum in a sandbox is worth. -/
noncomputable def Try.pinned : Pinned := { name := "ytaalpijohdlabaa", sum := "8aa12ce2ae3e1cf5bcfccd44e73ef1a4bb1a8a7df674335248cdfe647bb7b40e", checked := Try.checked }
namespace Rows
def none {H : Type} : Left H := { results := [], args := [] }

/-- 'changelinglaw16.TableOwn': WHATEVER THE INPUT: true; the input reads as it did. -/
def tableOwnSpec : ChangeSpec := { name := "tableOwn", fn := fun _ => fun
  | [d1, d2, d3] => { results := [.lit (.bool true)], args := [d1, d2, d3] }
  | _ => none }
def tableOwnRow : OpenClaim := { program := "ytaalpijohdlabaa", sum := "8aa12ce2ae3e1cf5bcfccd44e73ef1a4bb1a8a7df674335248cdfe647bb7b40e", func := "changeling/changelinglaw16.TableOwn", spec := "tableOwn", unfollowed := true, recurses := true, plainKeys := false, apart := false }
def TableOwnSaid : Prop := tableOwnRow.holds Try.pinned (OpenSpec.ofChange tableOwnSpec)

/-- ITS FALSE NEIGHBOUR: 'it returns false'. Refute it at one input. -/
def tableOwnWrong : ChangeSpec := { name := "tableOwn", fn := fun _ => fun
  | [d1, d2, d3] => { results := [.lit (.bool false)], args := [d1, d2, d3] }
  | _ => none }
def TableOwnWrongFalsely : Prop := tableOwnRow.holds Try.pinned (OpenSpec.ofChange tableOwnWrong)

/-- 'changelinglaw16.TableRow': WHATEVER THE INPUT: true; the input reads as it did. -/
def tableRowSpec : ChangeSpec := { name := "tableRow", fn := fun _ => fun
  | [d] => { results := [.lit (.bool true)], args := [d] }
  | _ => none }
def tableRowRow : OpenClaim := { program := "ytaalpijohdlabaa", sum := "8aa12ce2ae3e1cf5bcfccd44e73ef1a4bb1a8a7df674335248cdfe647bb7b40e", func := "changeling/changelinglaw16.TableRow", spec := "tableRow", unfollowed := true, recurses := true, plainKeys := false, apart := false }
def TableRowSaid : Prop := tableRowRow.holds Try.pinned (OpenSpec.ofChange tableRowSpec)

/-- ITS FALSE NEIGHBOUR: 'it returns false'. Refute it at one input. -/
def tableRowWrong : ChangeSpec := { name := "tableRow", fn := fun _ => fun
  | [d] => { results := [.lit (.bool false)], args := [d] }
  | _ => none }
def TableRowWrongFalsely : Prop := tableRowRow.holds Try.pinned (OpenSpec.ofChange tableRowWrong)

/-- 'changelinglaw17.OperMerged': WHATEVER THE INPUT: true; the input reads as it did. -/
def operMergedSpec : ChangeSpec := { name := "operMerged", fn := fun _ => fun
  | [d1, d2] => { results := [.lit (.bool true)], args := [d1, d2] }
  | _ => none }
def operMergedRow : OpenClaim := { program := "ytaalpijohdlabaa", sum := "8aa12ce2ae3e1cf5bcfccd44e73ef1a4bb1a8a7df674335248cdfe647bb7b40e", func := "changeling/changelinglaw17.OperMerged", spec := "operMerged", unfollowed := true, recurses := true, plainKeys := false, apart := false }
def OperMergedSaid : Prop := operMergedRow.holds Try.pinned (OpenSpec.ofChange operMergedSpec)

/-- ITS FALSE NEIGHBOUR: 'it returns false'. Refute it at one input. -/
def operMergedWrong : ChangeSpec := { name := "operMerged", fn := fun _ => fun
  | [d1, d2] => { results := [.lit (.bool false)], args := [d1, d2] }
  | _ => none }
def OperMergedWrongFalsely : Prop := operMergedRow.holds Try.pinned (OpenSpec.ofChange operMergedWrong)

/-- 'changelinglaw17.OperKnown': WHATEVER THE INPUT: true; the input reads as it did. -/
def operKnownSpec : ChangeSpec := { name := "operKnown", fn := fun _ => fun
  | [] => { results := [.lit (.bool true)], args := [] }
  | _ => none }
def operKnownRow : OpenClaim := { program := "ytaalpijohdlabaa", sum := "8aa12ce2ae3e1cf5bcfccd44e73ef1a4bb1a8a7df674335248cdfe647bb7b40e", func := "changeling/changelinglaw17.OperKnown", spec := "operKnown", unfollowed := true, recurses := true, plainKeys := false, apart := false }
def OperKnownSaid : Prop := operKnownRow.holds Try.pinned (OpenSpec.ofChange operKnownSpec)

/-- ITS FALSE NEIGHBOUR: 'it returns false'. Refute it at one input. -/
def operKnownWrong : ChangeSpec := { name := "operKnown", fn := fun _ => fun
  | [] => { results := [.lit (.bool false)], args := [] }
  | _ => none }
def OperKnownWrongFalsely : Prop := operKnownRow.holds Try.pinned (OpenSpec.ofChange operKnownWrong)

/-- 'changelinglaw17.OperGets': WHATEVER THE INPUT: true; the input reads as it did. -/
def operGetsSpec : ChangeSpec := { name := "operGets", fn := fun _ => fun
  | [d1, d2] => { results := [.lit (.bool true)], args := [d1, d2] }
  | _ => none }
def operGetsRow : OpenClaim := { program := "ytaalpijohdlabaa", sum := "8aa12ce2ae3e1cf5bcfccd44e73ef1a4bb1a8a7df674335248cdfe647bb7b40e", func := "changeling/changelinglaw17.OperGets", spec := "operGets", unfollowed := true, recurses := true, loops := true, plainKeys := false, apart := false }
def OperGetsSaid : Prop := operGetsRow.holds Try.pinned (OpenSpec.ofChange operGetsSpec)

/-- ITS FALSE NEIGHBOUR: 'it returns false'. Refute it at one input. -/
def operGetsWrong : ChangeSpec := { name := "operGets", fn := fun _ => fun
  | [d1, d2] => { results := [.lit (.bool false)], args := [d1, d2] }
  | _ => none }
def OperGetsWrongFalsely : Prop := operGetsRow.holds Try.pinned (OpenSpec.ofChange operGetsWrong)

/-- 'changelinglaw16.TableTakes': WHATEVER THE INPUT: true; the input reads as it did. -/
def tableTakesSpec : ChangeSpec := { name := "tableTakes", fn := fun _ => fun
  | [d] => { results := [.lit (.bool true)], args := [d] }
  | _ => none }
def tableTakesRow : OpenClaim := { program := "ytaalpijohdlabaa", sum := "8aa12ce2ae3e1cf5bcfccd44e73ef1a4bb1a8a7df674335248cdfe647bb7b40e", func := "changeling/changelinglaw16.TableTakes", spec := "tableTakes", unfollowed := true, recurses := true, plainKeys := false, apart := false }
def TableTakesSaid : Prop := tableTakesRow.holds Try.pinned (OpenSpec.ofChange tableTakesSpec)

/-- ITS FALSE NEIGHBOUR: 'it returns false'. Refute it at one input. -/
def tableTakesWrong : ChangeSpec := { name := "tableTakes", fn := fun _ => fun
  | [d] => { results := [.lit (.bool false)], args := [d] }
  | _ => none }
def TableTakesWrongFalsely : Prop := tableTakesRow.holds Try.pinned (OpenSpec.ofChange tableTakesWrong)

/-- 'changelinglaw16.TableBack': WHATEVER THE INPUT: true; the input reads as it did. -/
def tableBackSpec : ChangeSpec := { name := "tableBack", fn := fun _ => fun
  | [d1, d2] => { results := [.lit (.bool true)], args := [d1, d2] }
  | _ => none }
def tableBackRow : OpenClaim := { program := "ytaalpijohdlabaa", sum := "8aa12ce2ae3e1cf5bcfccd44e73ef1a4bb1a8a7df674335248cdfe647bb7b40e", func := "changeling/changelinglaw16.TableBack", spec := "tableBack", unfollowed := true, recurses := true, plainKeys := false, apart := false }
def TableBackSaid : Prop := tableBackRow.holds Try.pinned (OpenSpec.ofChange tableBackSpec)

/-- ITS FALSE NEIGHBOUR: 'it returns false'. Refute it at one input. -/
def tableBackWrong : ChangeSpec := { name := "tableBack", fn := fun _ => fun
  | [d1, d2] => { results := [.lit (.bool false)], args := [d1, d2] }
  | _ => none }
def TableBackWrongFalsely : Prop := tableBackRow.holds Try.pinned (OpenSpec.ofChange tableBackWrong)

/-- 'changelinglaw16.TablePlays': WHATEVER THE INPUT: true; the input reads as it did. -/
def tablePlaysSpec : ChangeSpec := { name := "tablePlays", fn := fun _ => fun
  | [d] => { results := [.lit (.bool true)], args := [d] }
  | _ => none }
def tablePlaysRow : OpenClaim := { program := "ytaalpijohdlabaa", sum := "8aa12ce2ae3e1cf5bcfccd44e73ef1a4bb1a8a7df674335248cdfe647bb7b40e", func := "changeling/changelinglaw16.TablePlays", spec := "tablePlays", unfollowed := true, recurses := true, plainKeys := false, apart := false }
def TablePlaysSaid : Prop := tablePlaysRow.holds Try.pinned (OpenSpec.ofChange tablePlaysSpec)

/-- ITS FALSE NEIGHBOUR: 'it returns false'. Refute it at one input. -/
def tablePlaysWrong : ChangeSpec := { name := "tablePlays", fn := fun _ => fun
  | [d] => { results := [.lit (.bool false)], args := [d] }
  | _ => none }
def TablePlaysWrongFalsely : Prop := tablePlaysRow.holds Try.pinned (OpenSpec.ofChange tablePlaysWrong)

/-- 'changelinglaw16.TableParts': WHATEVER THE INPUT: true; the input reads as it did. -/
def tablePartsSpec : ChangeSpec := { name := "tableParts", fn := fun _ => fun
  | [d1, d2, d3] => { results := [.lit (.bool true)], args := [d1, d2, d3] }
  | _ => none }
def tablePartsRow : OpenClaim := { program := "ytaalpijohdlabaa", sum := "8aa12ce2ae3e1cf5bcfccd44e73ef1a4bb1a8a7df674335248cdfe647bb7b40e", func := "changeling/changelinglaw16.TableParts", spec := "tableParts", unfollowed := true, recurses := true, plainKeys := false, apart := false }
def TablePartsSaid : Prop := tablePartsRow.holds Try.pinned (OpenSpec.ofChange tablePartsSpec)

/-- ITS FALSE NEIGHBOUR: 'it returns false'. Refute it at one input. -/
def tablePartsWrong : ChangeSpec := { name := "tableParts", fn := fun _ => fun
  | [d1, d2, d3] => { results := [.lit (.bool false)], args := [d1, d2, d3] }
  | _ => none }
def TablePartsWrongFalsely : Prop := tablePartsRow.holds Try.pinned (OpenSpec.ofChange tablePartsWrong)

/-- 'changelinglaw16.TableKnown': WHATEVER THE INPUT: true; the input reads as it did. -/
def tableKnownSpec : ChangeSpec := { name := "tableKnown", fn := fun _ => fun
  | [] => { results := [.lit (.bool true)], args := [] }
  | _ => none }
def tableKnownRow : OpenClaim := { program := "ytaalpijohdlabaa", sum := "8aa12ce2ae3e1cf5bcfccd44e73ef1a4bb1a8a7df674335248cdfe647bb7b40e", func := "changeling/changelinglaw16.TableKnown", spec := "tableKnown", unfollowed := true, recurses := true, plainKeys := false, apart := false }
def TableKnownSaid : Prop := tableKnownRow.holds Try.pinned (OpenSpec.ofChange tableKnownSpec)

/-- ITS FALSE NEIGHBOUR: 'it returns false'. Refute it at one input. -/
def tableKnownWrong : ChangeSpec := { name := "tableKnown", fn := fun _ => fun
  | [] => { results := [.lit (.bool false)], args := [] }
  | _ => none }
def TableKnownWrongFalsely : Prop := tableKnownRow.holds Try.pinned (OpenSpec.ofChange tableKnownWrong)

/-- 'changelinglaw17.OperRows': WHATEVER THE INPUT: true; the input reads as it did. -/
def operRowsSpec : ChangeSpec := { name := "operRows", fn := fun _ => fun
  | [d1, d2, d3, d4] => { results := [.lit (.bool true)], args := [d1, d2, d3, d4] }
  | _ => none }
def operRowsRow : OpenClaim := { program := "ytaalpijohdlabaa", sum := "8aa12ce2ae3e1cf5bcfccd44e73ef1a4bb1a8a7df674335248cdfe647bb7b40e", func := "changeling/changelinglaw17.OperRows", spec := "operRows", unfollowed := true, recurses := true, loops := true, plainKeys := false, apart := false }
def OperRowsSaid : Prop := operRowsRow.holds Try.pinned (OpenSpec.ofChange operRowsSpec)

/-- ITS FALSE NEIGHBOUR: 'it returns false'. Refute it at one input. -/
def operRowsWrong : ChangeSpec := { name := "operRows", fn := fun _ => fun
  | [d1, d2, d3, d4] => { results := [.lit (.bool false)], args := [d1, d2, d3, d4] }
  | _ => none }
def OperRowsWrongFalsely : Prop := operRowsRow.holds Try.pinned (OpenSpec.ofChange operRowsWrong)

/-- 'changelinglaw17.OperParted': WHATEVER THE INPUT: true; the input reads as it did. -/
def operPartedSpec : ChangeSpec := { name := "operParted", fn := fun _ => fun
  | [d1, d2, d3, d4] => { results := [.lit (.bool true)], args := [d1, d2, d3, d4] }
  | _ => none }
def operPartedRow : OpenClaim := { program := "ytaalpijohdlabaa", sum := "8aa12ce2ae3e1cf5bcfccd44e73ef1a4bb1a8a7df674335248cdfe647bb7b40e", func := "changeling/changelinglaw17.OperParted", spec := "operParted", unfollowed := true, recurses := true, loops := true, plainKeys := false, apart := false }
def OperPartedSaid : Prop := operPartedRow.holds Try.pinned (OpenSpec.ofChange operPartedSpec)

/-- ITS FALSE NEIGHBOUR: 'it returns false'. Refute it at one input. -/
def operPartedWrong : ChangeSpec := { name := "operParted", fn := fun _ => fun
  | [d1, d2, d3, d4] => { results := [.lit (.bool false)], args := [d1, d2, d3, d4] }
  | _ => none }
def OperPartedWrongFalsely : Prop := operPartedRow.holds Try.pinned (OpenSpec.ofChange operPartedWrong)

/- THE SECOND FORM. 'bulk': how many values and letters a reading holds, each counted each time it is reached (what is shared counts as often as it is met; a slice's spare places count too). A statement '..UptoSaid' is the law's where the arguments, and the package variables that the reading takes, are together of bulk at most 1048576: NARROWER than '..Said'. Prove '..Said' where nothing that the law and all that it calls make is longer than what came in: it says more and counts as full. Else prove '..UptoSaid'. A law counts once. -/
mutual
def uptoBulk {H : Type} : DataW H → Nat
  | .lit (.string bytes) => bytes.length + 1
  | .lit _ => 1
  | .nil => 1
  | .ptr d => uptoBulk d + 1
  | .slice elems spare => uptoBulkAll elems + uptoBulkAll spare + 1
  | .agg parts => uptoBulkAll parts + 1
  | .iface _ d => uptoBulk d + 1
  | .map entries => uptoBulkEntries entries + 1
  | .held _ => 1
def uptoBulkAll {H : Type} : List (DataW H) → Nat
  | [] => 0
  | d :: r => uptoBulk d + uptoBulkAll r
def uptoBulkEntries {H : Type} : List (Lit × DataW H) → Nat
  | [] => 0
  | x :: r => uptoBulkEntry x + uptoBulkEntries r
def uptoBulkEntry {H : Type} : Lit × DataW H → Nat
  | (.string bytes, d) => bytes.length + uptoBulk d + 1
  | (_, d) => uptoBulk d + 1
 end
def uptoSmall : (H : Type) → List (DataW H) → Bool := fun _ ds => decide (uptoBulkAll ds ≤ 1048576)
def OpenSpec.upto (s : _root_.Go.ChangeSpec) : _root_.Go.OpenSpec := { _root_.Go.OpenSpec.ofChange s with cond := some uptoSmall }

/-- 'changelinglaw16.TableOwn', WHERE WHAT IT READS IS OF BULK AT MOST 1048576: true; the input reads as it did. -/
def tableOwnUptoRow : OpenClaim := { program := "ytaalpijohdlabaa", sum := "8aa12ce2ae3e1cf5bcfccd44e73ef1a4bb1a8a7df674335248cdfe647bb7b40e", func := "changeling/changelinglaw16.TableOwn", spec := "tableOwn", unfollowed := true, recurses := true, plainKeys := false, apart := false, narrowed := true }
def TableOwnUptoSaid : Prop := tableOwnUptoRow.holds Try.pinned (OpenSpec.upto tableOwnSpec)

/-- 'changelinglaw16.TableRow', WHERE WHAT IT READS IS OF BULK AT MOST 1048576: true; the input reads as it did. -/
def tableRowUptoRow : OpenClaim := { program := "ytaalpijohdlabaa", sum := "8aa12ce2ae3e1cf5bcfccd44e73ef1a4bb1a8a7df674335248cdfe647bb7b40e", func := "changeling/changelinglaw16.TableRow", spec := "tableRow", unfollowed := true, recurses := true, plainKeys := false, apart := false, narrowed := true }
def TableRowUptoSaid : Prop := tableRowUptoRow.holds Try.pinned (OpenSpec.upto tableRowSpec)

/-- 'changelinglaw17.OperMerged', WHERE WHAT IT READS IS OF BULK AT MOST 1048576: true; the input reads as it did. -/
def operMergedUptoRow : OpenClaim := { program := "ytaalpijohdlabaa", sum := "8aa12ce2ae3e1cf5bcfccd44e73ef1a4bb1a8a7df674335248cdfe647bb7b40e", func := "changeling/changelinglaw17.OperMerged", spec := "operMerged", unfollowed := true, recurses := true, plainKeys := false, apart := false, narrowed := true }
def OperMergedUptoSaid : Prop := operMergedUptoRow.holds Try.pinned (OpenSpec.upto operMergedSpec)

/-- 'changelinglaw17.OperKnown', WHERE WHAT IT READS IS OF BULK AT MOST 1048576: true; the input reads as it did. -/
def operKnownUptoRow : OpenClaim := { program := "ytaalpijohdlabaa", sum := "8aa12ce2ae3e1cf5bcfccd44e73ef1a4bb1a8a7df674335248cdfe647bb7b40e", func := "changeling/changelinglaw17.OperKnown", spec := "operKnown", unfollowed := true, recurses := true, plainKeys := false, apart := false, narrowed := true }
def OperKnownUptoSaid : Prop := operKnownUptoRow.holds Try.pinned (OpenSpec.upto operKnownSpec)

/-- 'changelinglaw17.OperGets', WHERE WHAT IT READS IS OF BULK AT MOST 1048576: true; the input reads as it did. -/
def operGetsUptoRow : OpenClaim := { program := "ytaalpijohdlabaa", sum := "8aa12ce2ae3e1cf5bcfccd44e73ef1a4bb1a8a7df674335248cdfe647bb7b40e", func := "changeling/changelinglaw17.OperGets", spec := "operGets", unfollowed := true, recurses := true, loops := true, plainKeys := false, apart := false, narrowed := true }
def OperGetsUptoSaid : Prop := operGetsUptoRow.holds Try.pinned (OpenSpec.upto operGetsSpec)

/-- 'changelinglaw16.TableTakes', WHERE WHAT IT READS IS OF BULK AT MOST 1048576: true; the input reads as it did. -/
def tableTakesUptoRow : OpenClaim := { program := "ytaalpijohdlabaa", sum := "8aa12ce2ae3e1cf5bcfccd44e73ef1a4bb1a8a7df674335248cdfe647bb7b40e", func := "changeling/changelinglaw16.TableTakes", spec := "tableTakes", unfollowed := true, recurses := true, plainKeys := false, apart := false, narrowed := true }
def TableTakesUptoSaid : Prop := tableTakesUptoRow.holds Try.pinned (OpenSpec.upto tableTakesSpec)

/-- 'changelinglaw16.TableBack', WHERE WHAT IT READS IS OF BULK AT MOST 1048576: true; the input reads as it did. -/
def tableBackUptoRow : OpenClaim := { program := "ytaalpijohdlabaa", sum := "8aa12ce2ae3e1cf5bcfccd44e73ef1a4bb1a8a7df674335248cdfe647bb7b40e", func := "changeling/changelinglaw16.TableBack", spec := "tableBack", unfollowed := true, recurses := true, plainKeys := false, apart := false, narrowed := true }
def TableBackUptoSaid : Prop := tableBackUptoRow.holds Try.pinned (OpenSpec.upto tableBackSpec)

/-- 'changelinglaw16.TablePlays', WHERE WHAT IT READS IS OF BULK AT MOST 1048576: true; the input reads as it did. -/
def tablePlaysUptoRow : OpenClaim := { program := "ytaalpijohdlabaa", sum := "8aa12ce2ae3e1cf5bcfccd44e73ef1a4bb1a8a7df674335248cdfe647bb7b40e", func := "changeling/changelinglaw16.TablePlays", spec := "tablePlays", unfollowed := true, recurses := true, plainKeys := false, apart := false, narrowed := true }
def TablePlaysUptoSaid : Prop := tablePlaysUptoRow.holds Try.pinned (OpenSpec.upto tablePlaysSpec)

/-- 'changelinglaw16.TableParts', WHERE WHAT IT READS IS OF BULK AT MOST 1048576: true; the input reads as it did. -/
def tablePartsUptoRow : OpenClaim := { program := "ytaalpijohdlabaa", sum := "8aa12ce2ae3e1cf5bcfccd44e73ef1a4bb1a8a7df674335248cdfe647bb7b40e", func := "changeling/changelinglaw16.TableParts", spec := "tableParts", unfollowed := true, recurses := true, plainKeys := false, apart := false, narrowed := true }
def TablePartsUptoSaid : Prop := tablePartsUptoRow.holds Try.pinned (OpenSpec.upto tablePartsSpec)

/-- 'changelinglaw16.TableKnown', WHERE WHAT IT READS IS OF BULK AT MOST 1048576: true; the input reads as it did. -/
def tableKnownUptoRow : OpenClaim := { program := "ytaalpijohdlabaa", sum := "8aa12ce2ae3e1cf5bcfccd44e73ef1a4bb1a8a7df674335248cdfe647bb7b40e", func := "changeling/changelinglaw16.TableKnown", spec := "tableKnown", unfollowed := true, recurses := true, plainKeys := false, apart := false, narrowed := true }
def TableKnownUptoSaid : Prop := tableKnownUptoRow.holds Try.pinned (OpenSpec.upto tableKnownSpec)

/-- 'changelinglaw17.OperRows', WHERE WHAT IT READS IS OF BULK AT MOST 1048576: true; the input reads as it did. -/
def operRowsUptoRow : OpenClaim := { program := "ytaalpijohdlabaa", sum := "8aa12ce2ae3e1cf5bcfccd44e73ef1a4bb1a8a7df674335248cdfe647bb7b40e", func := "changeling/changelinglaw17.OperRows", spec := "operRows", unfollowed := true, recurses := true, loops := true, plainKeys := false, apart := false, narrowed := true }
def OperRowsUptoSaid : Prop := operRowsUptoRow.holds Try.pinned (OpenSpec.upto operRowsSpec)

/-- 'changelinglaw17.OperParted', WHERE WHAT IT READS IS OF BULK AT MOST 1048576: true; the input reads as it did. -/
def operPartedUptoRow : OpenClaim := { program := "ytaalpijohdlabaa", sum := "8aa12ce2ae3e1cf5bcfccd44e73ef1a4bb1a8a7df674335248cdfe647bb7b40e", func := "changeling/changelinglaw17.OperParted", spec := "operParted", unfollowed := true, recurses := true, loops := true, plainKeys := false, apart := false, narrowed := true }
def OperPartedUptoSaid : Prop := operPartedUptoRow.holds Try.pinned (OpenSpec.upto operPartedSpec)

end Rows
end Go.Proofs.Ytaalpijohdlabaa
