/-
  NARROWER THAN 'FOR EVERY INPUT', by the rows' own cells (each row's printed sentence says how): MessagePuts: laid · MessageTakes: laid · MessageDoes: laid · MessageParts: laid · MessageRange: laid · MessageKnown: laid.
  DERIVED. THE GIVEN ROWS OF THIS SEAT. 6 by the template 'for every input the law returns true; each argument reads behind the call as it read before'; 0 by the template 'total and deterministic' (their statements: YtdmlbojhfgimnaaGreatDoorTotals.lean).
  GIVEN WITH THE SEED: the statements are not yours to turn. If you find one false, say at which input.
  Laid BY PROGRAM, IN A SANDBOX (cutbox-rows.mjs): the forced cells as the released guide's own fill.sh prints them over the translation 893cd305a0a17c15… (all of the seat's roots in one cut). By AI agents, Wed Nov 11 2026. No macro, syntax, notation, axiom, sorry.
-/
import Derived.Test.YtdmlbojhfgimnaaGreatDoorChecked
import GoSem.PinnedTables
import GoSem.Claim
import GoSem.ClaimJoined
import GoSem.ClaimMapViews
import Derived.JoinedTies
import Derived.KernelRfl
namespace Go.Proofs.YtdmlbojhfgimnaaGreatDoor
/- THE CELL 'sum', in the pinned program and in every row, IS THE sha256 OF THE DUMP (.gsa) THAT YtdmlbojhfgimnaaGreatDoorProg.lean LOADS. Nothing in Lean hashes anything: it is a label: what it is worth is what the hold of that sum in a sandbox is worth. -/
noncomputable def Tryz.pinned : Pinned := { name := "ytdmlbojhfgimnaagreatdoor", sum := "893cd305a0a17c15f13b7c7ad99b16df1db2f02c67ba980c5c6d7ba58fa241d6", checked := Tryz.checked }
namespace Rows
def none {H : Type} : Left H := { results := [], args := [] }

/- WHAT THE LISTED PACKAGE-LEVEL VARIABLES READ AS WHEN THE CALL BEGINS. Each datum BY PROGRAM (the guide's laid-datum.mjs) off the statement by which the dump's own 'gosem.cut.vars' lays the variable. In a bare row this is a premise. The card (YtdmlbojhfgimnaaGreatDoorCards.lean) ties it to the program's text. -/
def laid_unicode_utf8_acceptRanges {H : Type} : DataW H := .agg [.agg [.lit (.int .u8 128), .lit (.int .u8 191)], .agg [.lit (.int .u8 160), .lit (.int .u8 191)], .agg [.lit (.int .u8 128), .lit (.int .u8 159)], .agg [.lit (.int .u8 144), .lit (.int .u8 191)], .agg [.lit (.int .u8 128), .lit (.int .u8 143)], .agg [.lit (.int .u8 0), .lit (.int .u8 0)], .agg [.lit (.int .u8 0), .lit (.int .u8 0)], .agg [.lit (.int .u8 0), .lit (.int .u8 0)], .agg [.lit (.int .u8 0), .lit (.int .u8 0)], .agg [.lit (.int .u8 0), .lit (.int .u8 0)], .agg [.lit (.int .u8 0), .lit (.int .u8 0)], .agg [.lit (.int .u8 0), .lit (.int .u8 0)], .agg [.lit (.int .u8 0), .lit (.int .u8 0)], .agg [.lit (.int .u8 0), .lit (.int .u8 0)], .agg [.lit (.int .u8 0), .lit (.int .u8 0)], .agg [.lit (.int .u8 0), .lit (.int .u8 0)]]
/-- One of Go's own tables, pinned by name: the form's constant. -/
def laid_unicode_utf8_first : DataW Unit := Go.Pinned.utf8First

/-- 'rillbedlaw09.MessagePuts': WHATEVER THE INPUT: true; the input reads as it did. -/
def messagePutsSpec : ChangeSpec := { name := "messagePuts", fn := fun _ => fun
  | [d] => { results := [.lit (.bool true)], args := [d] }
  | _ => none }
def messagePutsRow : OpenClaim := { program := "ytdmlbojhfgimnaagreatdoor", sum := "893cd305a0a17c15f13b7c7ad99b16df1db2f02c67ba980c5c6d7ba58fa241d6", func := "rillbed/rillbedlaw09.MessagePuts", spec := "messagePuts", inPlace := ["math.Float64frombits", "internal/abi.NoEscape", "internal/bytealg.MakeNoZero", "internal/bytealg.IndexByteString", "internal/bytealg.IndexString", "math.Float64bits"], unfollowed := true, recurses := true, named := ["unicode/utf8.first", "unicode/utf8.acceptRanges", "internal/bytealg.MaxLen"], apart := false, laid := [("unicode/utf8.acceptRanges", laid_unicode_utf8_acceptRanges), ("unicode/utf8.first", laid_unicode_utf8_first)] }
def MessagePutsSaid : Prop := messagePutsRow.holds Tryz.pinned (OpenSpec.ofChange messagePutsSpec)

/-- ITS FALSE NEIGHBOUR: 'it returns false'. Refute it at one input. -/
def messagePutsWrong : ChangeSpec := { name := "messagePuts", fn := fun _ => fun
  | [d] => { results := [.lit (.bool false)], args := [d] }
  | _ => none }
def MessagePutsWrongFalsely : Prop := messagePutsRow.holds Tryz.pinned (OpenSpec.ofChange messagePutsWrong)

/-- 'rillbedlaw09.MessageTakes': WHATEVER THE INPUT: true; the input reads as it did. -/
def messageTakesSpec : ChangeSpec := { name := "messageTakes", fn := fun _ => fun
  | [d] => { results := [.lit (.bool true)], args := [d] }
  | _ => none }
def messageTakesRow : OpenClaim := { program := "ytdmlbojhfgimnaagreatdoor", sum := "893cd305a0a17c15f13b7c7ad99b16df1db2f02c67ba980c5c6d7ba58fa241d6", func := "rillbed/rillbedlaw09.MessageTakes", spec := "messageTakes", inPlace := ["math.Float64frombits", "internal/abi.NoEscape", "internal/bytealg.MakeNoZero", "internal/bytealg.IndexByteString", "internal/bytealg.IndexString", "math.Float64bits"], unfollowed := true, recurses := true, named := ["unicode/utf8.first", "unicode/utf8.acceptRanges", "internal/bytealg.MaxLen"], apart := false, laid := [("unicode/utf8.acceptRanges", laid_unicode_utf8_acceptRanges), ("unicode/utf8.first", laid_unicode_utf8_first)] }
def MessageTakesSaid : Prop := messageTakesRow.holds Tryz.pinned (OpenSpec.ofChange messageTakesSpec)

/-- ITS FALSE NEIGHBOUR: 'it returns false'. Refute it at one input. -/
def messageTakesWrong : ChangeSpec := { name := "messageTakes", fn := fun _ => fun
  | [d] => { results := [.lit (.bool false)], args := [d] }
  | _ => none }
def MessageTakesWrongFalsely : Prop := messageTakesRow.holds Tryz.pinned (OpenSpec.ofChange messageTakesWrong)

/-- 'rillbedlaw09.MessageDoes': WHATEVER THE INPUT: true; the input reads as it did. -/
def messageDoesSpec : ChangeSpec := { name := "messageDoes", fn := fun _ => fun
  | [d1, d2] => { results := [.lit (.bool true)], args := [d1, d2] }
  | _ => none }
def messageDoesRow : OpenClaim := { program := "ytdmlbojhfgimnaagreatdoor", sum := "893cd305a0a17c15f13b7c7ad99b16df1db2f02c67ba980c5c6d7ba58fa241d6", func := "rillbed/rillbedlaw09.MessageDoes", spec := "messageDoes", inPlace := ["math.Float64frombits", "internal/abi.NoEscape", "internal/bytealg.MakeNoZero", "internal/bytealg.IndexByteString", "internal/bytealg.IndexString", "math.Float64bits"], unfollowed := true, recurses := true, named := ["unicode/utf8.first", "unicode/utf8.acceptRanges", "internal/bytealg.MaxLen"], apart := false, laid := [("unicode/utf8.acceptRanges", laid_unicode_utf8_acceptRanges), ("unicode/utf8.first", laid_unicode_utf8_first)] }
def MessageDoesSaid : Prop := messageDoesRow.holds Tryz.pinned (OpenSpec.ofChange messageDoesSpec)

/-- ITS FALSE NEIGHBOUR: 'it returns false'. Refute it at one input. -/
def messageDoesWrong : ChangeSpec := { name := "messageDoes", fn := fun _ => fun
  | [d1, d2] => { results := [.lit (.bool false)], args := [d1, d2] }
  | _ => none }
def MessageDoesWrongFalsely : Prop := messageDoesRow.holds Tryz.pinned (OpenSpec.ofChange messageDoesWrong)

/-- 'rillbedlaw09.MessageParts': WHATEVER THE INPUT: true; the input reads as it did. -/
def messagePartsSpec : ChangeSpec := { name := "messageParts", fn := fun _ => fun
  | [d1, d2, d3] => { results := [.lit (.bool true)], args := [d1, d2, d3] }
  | _ => none }
def messagePartsRow : OpenClaim := { program := "ytdmlbojhfgimnaagreatdoor", sum := "893cd305a0a17c15f13b7c7ad99b16df1db2f02c67ba980c5c6d7ba58fa241d6", func := "rillbed/rillbedlaw09.MessageParts", spec := "messageParts", inPlace := ["math.Float64frombits", "internal/abi.NoEscape", "internal/bytealg.MakeNoZero", "internal/bytealg.IndexByteString", "internal/bytealg.IndexString", "math.Float64bits"], unfollowed := true, recurses := true, named := ["unicode/utf8.first", "unicode/utf8.acceptRanges", "internal/bytealg.MaxLen"], apart := false, laid := [("unicode/utf8.acceptRanges", laid_unicode_utf8_acceptRanges), ("unicode/utf8.first", laid_unicode_utf8_first)] }
def MessagePartsSaid : Prop := messagePartsRow.holds Tryz.pinned (OpenSpec.ofChange messagePartsSpec)

/-- ITS FALSE NEIGHBOUR: 'it returns false'. Refute it at one input. -/
def messagePartsWrong : ChangeSpec := { name := "messageParts", fn := fun _ => fun
  | [d1, d2, d3] => { results := [.lit (.bool false)], args := [d1, d2, d3] }
  | _ => none }
def MessagePartsWrongFalsely : Prop := messagePartsRow.holds Tryz.pinned (OpenSpec.ofChange messagePartsWrong)

/-- 'rillbedlaw09.MessageRange': WHATEVER THE INPUT: true; the input reads as it did. -/
def messageRangeSpec : ChangeSpec := { name := "messageRange", fn := fun _ => fun
  | [d1, d2, d3] => { results := [.lit (.bool true)], args := [d1, d2, d3] }
  | _ => none }
def messageRangeRow : OpenClaim := { program := "ytdmlbojhfgimnaagreatdoor", sum := "893cd305a0a17c15f13b7c7ad99b16df1db2f02c67ba980c5c6d7ba58fa241d6", func := "rillbed/rillbedlaw09.MessageRange", spec := "messageRange", inPlace := ["math.Float64frombits", "internal/abi.NoEscape", "internal/bytealg.MakeNoZero", "internal/bytealg.IndexByteString", "internal/bytealg.IndexString", "math.Float64bits"], unfollowed := true, recurses := true, named := ["unicode/utf8.first", "unicode/utf8.acceptRanges", "internal/bytealg.MaxLen"], apart := false, laid := [("unicode/utf8.acceptRanges", laid_unicode_utf8_acceptRanges), ("unicode/utf8.first", laid_unicode_utf8_first)] }
def MessageRangeSaid : Prop := messageRangeRow.holds Tryz.pinned (OpenSpec.ofChange messageRangeSpec)

/-- ITS FALSE NEIGHBOUR: 'it returns false'. Refute it at one input. -/
def messageRangeWrong : ChangeSpec := { name := "messageRange", fn := fun _ => fun
  | [d1, d2, d3] => { results := [.lit (.bool false)], args := [d1, d2, d3] }
  | _ => none }
def MessageRangeWrongFalsely : Prop := messageRangeRow.holds Tryz.pinned (OpenSpec.ofChange messageRangeWrong)

/-- 'rillbedlaw09.MessageKnown': WHATEVER THE INPUT: true; the input reads as it did. -/
def messageKnownSpec : ChangeSpec := { name := "messageKnown", fn := fun _ => fun
  | [] => { results := [.lit (.bool true)], args := [] }
  | _ => none }
def messageKnownRow : OpenClaim := { program := "ytdmlbojhfgimnaagreatdoor", sum := "893cd305a0a17c15f13b7c7ad99b16df1db2f02c67ba980c5c6d7ba58fa241d6", func := "rillbed/rillbedlaw09.MessageKnown", spec := "messageKnown", inPlace := ["math.Float64frombits", "internal/abi.NoEscape", "internal/bytealg.MakeNoZero", "internal/bytealg.IndexByteString", "internal/bytealg.IndexString", "math.Float64bits"], unfollowed := true, recurses := true, named := ["unicode/utf8.first", "unicode/utf8.acceptRanges", "internal/bytealg.MaxLen"], apart := false, laid := [("unicode/utf8.acceptRanges", laid_unicode_utf8_acceptRanges), ("unicode/utf8.first", laid_unicode_utf8_first)] }
def MessageKnownSaid : Prop := messageKnownRow.holds Tryz.pinned (OpenSpec.ofChange messageKnownSpec)

/-- ITS FALSE NEIGHBOUR: 'it returns false'. Refute it at one input. -/
def messageKnownWrong : ChangeSpec := { name := "messageKnown", fn := fun _ => fun
  | [] => { results := [.lit (.bool false)], args := [] }
  | _ => none }
def MessageKnownWrongFalsely : Prop := messageKnownRow.holds Tryz.pinned (OpenSpec.ofChange messageKnownWrong)

/- THE SECOND FORM. 'bulk': how many values and letters a reading holds, each counted each time it is reached (what is shared counts as often as it is met; a slice's spare places count too). A statement '..UptoSaid' is the law's where the arguments, and the package variables that the reading takes, are together of bulk at most 1048576: NARROWER than '..Said'. Prove '..Said' where nothing that the law and all that it calls make is longer than what came in: it says more and counts as full. Else prove '..UptoSaid'. A law counts once. -/
mutual
def uptoBulk {H : Type} : DataW H → Nat
  | .lit (.string bytes) => bytes.length + 1
  | .lit _ => 1
  | .nil => 1
  | .ptr d => uptoBulk d + 1
  | .slice elems spare => uptoBulkAll elems + uptoBulkAll spare + 1
  | .agg parts => uptoBulkAll parts + 1
  | .iface _ d => uptoBulk d + 1
  | .map entries => uptoBulkEntries entries + 1
  | .held _ => 1
def uptoBulkAll {H : Type} : List (DataW H) → Nat
  | [] => 0
  | d :: r => uptoBulk d + uptoBulkAll r
def uptoBulkEntries {H : Type} : List (Lit × DataW H) → Nat
  | [] => 0
  | x :: r => uptoBulkEntry x + uptoBulkEntries r
def uptoBulkEntry {H : Type} : Lit × DataW H → Nat
  | (.string bytes, d) => bytes.length + uptoBulk d + 1
  | (_, d) => uptoBulk d + 1
 end
def uptoSmall : (H : Type) → List (DataW H) → Bool := fun _ ds => decide (uptoBulkAll ds ≤ 1048576)
def OpenSpec.upto (s : _root_.Go.ChangeSpec) : _root_.Go.OpenSpec := { _root_.Go.OpenSpec.ofChange s with cond := some uptoSmall }

/-- 'rillbedlaw09.MessagePuts', WHERE WHAT IT READS IS OF BULK AT MOST 1048576: true; the input reads as it did. -/
def messagePutsUptoRow : OpenClaim := { program := "ytdmlbojhfgimnaagreatdoor", sum := "893cd305a0a17c15f13b7c7ad99b16df1db2f02c67ba980c5c6d7ba58fa241d6", func := "rillbed/rillbedlaw09.MessagePuts", spec := "messagePuts", inPlace := ["math.Float64frombits", "internal/abi.NoEscape", "internal/bytealg.MakeNoZero", "internal/bytealg.IndexByteString", "internal/bytealg.IndexString", "math.Float64bits"], unfollowed := true, recurses := true, named := ["unicode/utf8.first", "unicode/utf8.acceptRanges", "internal/bytealg.MaxLen"], apart := false, laid := [("unicode/utf8.acceptRanges", laid_unicode_utf8_acceptRanges), ("unicode/utf8.first", laid_unicode_utf8_first)], narrowed := true }
def MessagePutsUptoSaid : Prop := messagePutsUptoRow.holds Tryz.pinned (OpenSpec.upto messagePutsSpec)

/-- 'rillbedlaw09.MessageTakes', WHERE WHAT IT READS IS OF BULK AT MOST 1048576: true; the input reads as it did. -/
def messageTakesUptoRow : OpenClaim := { program := "ytdmlbojhfgimnaagreatdoor", sum := "893cd305a0a17c15f13b7c7ad99b16df1db2f02c67ba980c5c6d7ba58fa241d6", func := "rillbed/rillbedlaw09.MessageTakes", spec := "messageTakes", inPlace := ["math.Float64frombits", "internal/abi.NoEscape", "internal/bytealg.MakeNoZero", "internal/bytealg.IndexByteString", "internal/bytealg.IndexString", "math.Float64bits"], unfollowed := true, recurses := true, named := ["unicode/utf8.first", "unicode/utf8.acceptRanges", "internal/bytealg.MaxLen"], apart := false, laid := [("unicode/utf8.acceptRanges", laid_unicode_utf8_acceptRanges), ("unicode/utf8.first", laid_unicode_utf8_first)], narrowed := true }
def MessageTakesUptoSaid : Prop := messageTakesUptoRow.holds Tryz.pinned (OpenSpec.upto messageTakesSpec)

/-- 'rillbedlaw09.MessageDoes', WHERE WHAT IT READS IS OF BULK AT MOST 1048576: true; the input reads as it did. -/
def messageDoesUptoRow : OpenClaim := { program := "ytdmlbojhfgimnaagreatdoor", sum := "893cd305a0a17c15f13b7c7ad99b16df1db2f02c67ba980c5c6d7ba58fa241d6", func := "rillbed/rillbedlaw09.MessageDoes", spec := "messageDoes", inPlace := ["math.Float64frombits", "internal/abi.NoEscape", "internal/bytealg.MakeNoZero", "internal/bytealg.IndexByteString", "internal/bytealg.IndexString", "math.Float64bits"], unfollowed := true, recurses := true, named := ["unicode/utf8.first", "unicode/utf8.acceptRanges", "internal/bytealg.MaxLen"], apart := false, laid := [("unicode/utf8.acceptRanges", laid_unicode_utf8_acceptRanges), ("unicode/utf8.first", laid_unicode_utf8_first)], narrowed := true }
def MessageDoesUptoSaid : Prop := messageDoesUptoRow.holds Tryz.pinned (OpenSpec.upto messageDoesSpec)

/-- 'rillbedlaw09.MessageParts', WHERE WHAT IT READS IS OF BULK AT MOST 1048576: true; the input reads as it did. -/
def messagePartsUptoRow : OpenClaim := { program := "ytdmlbojhfgimnaagreatdoor", sum := "893cd305a0a17c15f13b7c7ad99b16df1db2f02c67ba980c5c6d7ba58fa241d6", func := "rillbed/rillbedlaw09.MessageParts", spec := "messageParts", inPlace := ["math.Float64frombits", "internal/abi.NoEscape", "internal/bytealg.MakeNoZero", "internal/bytealg.IndexByteString", "internal/bytealg.IndexString", "math.Float64bits"], unfollowed := true, recurses := true, named := ["unicode/utf8.first", "unicode/utf8.acceptRanges", "internal/bytealg.MaxLen"], apart := false, laid := [("unicode/utf8.acceptRanges", laid_unicode_utf8_acceptRanges), ("unicode/utf8.first", laid_unicode_utf8_first)], narrowed := true }
def MessagePartsUptoSaid : Prop := messagePartsUptoRow.holds Tryz.pinned (OpenSpec.upto messagePartsSpec)

/-- 'rillbedlaw09.MessageRange', WHERE WHAT IT READS IS OF BULK AT MOST 1048576: true; the input reads as it did. -/
def messageRangeUptoRow : OpenClaim := { program := "ytdmlbojhfgimnaagreatdoor", sum := "893cd305a0a17c15f13b7c7ad99b16df1db2f02c67ba980c5c6d7ba58fa241d6", func := "rillbed/rillbedlaw09.MessageRange", spec := "messageRange", inPlace := ["math.Float64frombits", "internal/abi.NoEscape", "internal/bytealg.MakeNoZero", "internal/bytealg.IndexByteString", "internal/bytealg.IndexString", "math.Float64bits"], unfollowed := true, recurses := true, named := ["unicode/utf8.first", "unicode/utf8.acceptRanges", "internal/bytealg.MaxLen"], apart := false, laid := [("unicode/utf8.acceptRanges", laid_unicode_utf8_acceptRanges), ("unicode/utf8.first", laid_unicode_utf8_first)], narrowed := true }
def MessageRangeUptoSaid : Prop := messageRangeUptoRow.holds Tryz.pinned (OpenSpec.upto messageRangeSpec)

/-- 'rillbedlaw09.MessageKnown', WHERE WHAT IT READS IS OF BULK AT MOST 1048576: true; the input reads as it did. -/
def messageKnownUptoRow : OpenClaim := { program := "ytdmlbojhfgimnaagreatdoor", sum := "893cd305a0a17c15f13b7c7ad99b16df1db2f02c67ba980c5c6d7ba58fa241d6", func := "rillbed/rillbedlaw09.MessageKnown", spec := "messageKnown", inPlace := ["math.Float64frombits", "internal/abi.NoEscape", "internal/bytealg.MakeNoZero", "internal/bytealg.IndexByteString", "internal/bytealg.IndexString", "math.Float64bits"], unfollowed := true, recurses := true, named := ["unicode/utf8.first", "unicode/utf8.acceptRanges", "internal/bytealg.MaxLen"], apart := false, laid := [("unicode/utf8.acceptRanges", laid_unicode_utf8_acceptRanges), ("unicode/utf8.first", laid_unicode_utf8_first)], narrowed := true }
def MessageKnownUptoSaid : Prop := messageKnownUptoRow.holds Tryz.pinned (OpenSpec.upto messageKnownSpec)

end Rows
end Go.Proofs.YtdmlbojhfgimnaaGreatDoor
