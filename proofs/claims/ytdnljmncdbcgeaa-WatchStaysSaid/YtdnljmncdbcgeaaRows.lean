/-
  No cell of these rows narrows 'for every input' (looked for: loops, veiled, ifaces, maps, wideKeys, modest, calm, conditions, laid).
  DERIVED. THE GIVEN ROWS OF THIS SEAT. 8 by the template 'for every input the law returns true; each argument reads behind the call as it read before'; 0 by the template 'total and deterministic' (their statements: YtdnljmncdbcgeaaTotals.lean).
  GIVEN WITH THE SEED: the statements are not yours to turn. If you find one false, say at which input.
  Laid BY PROGRAM, IN A SANDBOX (cutbox-rows.mjs): the forced cells as the released guide's own fill.sh prints them over the translation 90e51916bb3bfb7f… (all of the seat's roots in one cut). By AI agents, Wed Nov 11 2026. No macro, syntax, notation, axiom, sorry.
-/
import Derived.Test.YtdnljmncdbcgeaaChecked
import GoSem.Claim
import GoSem.ClaimJoined
import GoSem.ClaimMapViews
import Derived.JoinedTies
import Derived.KernelRfl
namespace Go.Proofs.Ytdnljmncdbcgeaa
/- THE CELL 'sum', in the pinned program and in every row, IS THE sha256 OF THE DUMP (.gsa) THAT YtdnljmncdbcgeaaProg.lean LOADS. Nothing in Lean hashes anything: it is a label: what it is worth is what the hold of that sum in a sandbox is worth. -/
noncomputable def Try.pinned : Pinned := { name := "ytdnljmncdbcgeaa", sum := "90e51916bb3bfb7fd9f8f72cba8e8638074290a5c050b9631d788c908c2910c7", checked := Try.checked }
namespace Rows
def none {H : Type} : Left H := { results := [], args := [] }

/-- 'tenderlaw22.BookFull': WHATEVER THE INPUT: true; the input reads as it did. -/
def bookFullSpec : ChangeSpec := { name := "bookFull", fn := fun _ => fun
  | [d1, d2] => { results := [.lit (.bool true)], args := [d1, d2] }
  | _ => none }
def bookFullRow : OpenClaim := { program := "ytdnljmncdbcgeaa", sum := "90e51916bb3bfb7fd9f8f72cba8e8638074290a5c050b9631d788c908c2910c7", func := "tender/tenderlaw22.BookFull", spec := "bookFull", inPlace := ["internal/bytealg.IndexByteString", "internal/bytealg.IndexString"], unfollowed := true, recurses := true, named := ["internal/bytealg.MaxLen"], apart := false }
def BookFullSaid : Prop := bookFullRow.holds Try.pinned (OpenSpec.ofChange bookFullSpec)

/-- ITS FALSE NEIGHBOUR: 'it returns false'. Refute it at one input. -/
def bookFullWrong : ChangeSpec := { name := "bookFull", fn := fun _ => fun
  | [d1, d2] => { results := [.lit (.bool false)], args := [d1, d2] }
  | _ => none }
def BookFullWrongFalsely : Prop := bookFullRow.holds Try.pinned (OpenSpec.ofChange bookFullWrong)

/-- 'tenderlaw22.BookPlays': WHATEVER THE INPUT: true; the input reads as it did. -/
def bookPlaysSpec : ChangeSpec := { name := "bookPlays", fn := fun _ => fun
  | [d1, d2, d3] => { results := [.lit (.bool true)], args := [d1, d2, d3] }
  | _ => none }
def bookPlaysRow : OpenClaim := { program := "ytdnljmncdbcgeaa", sum := "90e51916bb3bfb7fd9f8f72cba8e8638074290a5c050b9631d788c908c2910c7", func := "tender/tenderlaw22.BookPlays", spec := "bookPlays", inPlace := ["internal/bytealg.IndexByteString", "internal/bytealg.IndexString"], unfollowed := true, recurses := true, named := ["internal/bytealg.MaxLen"], apart := false }
def BookPlaysSaid : Prop := bookPlaysRow.holds Try.pinned (OpenSpec.ofChange bookPlaysSpec)

/-- ITS FALSE NEIGHBOUR: 'it returns false'. Refute it at one input. -/
def bookPlaysWrong : ChangeSpec := { name := "bookPlays", fn := fun _ => fun
  | [d1, d2, d3] => { results := [.lit (.bool false)], args := [d1, d2, d3] }
  | _ => none }
def BookPlaysWrongFalsely : Prop := bookPlaysRow.holds Try.pinned (OpenSpec.ofChange bookPlaysWrong)

/-- 'tenderlaw25.MergeChanges': WHATEVER THE INPUT: true; the input reads as it did. -/
def mergeChangesSpec : ChangeSpec := { name := "mergeChanges", fn := fun _ => fun
  | [d1, d2, d3] => { results := [.lit (.bool true)], args := [d1, d2, d3] }
  | _ => none }
def mergeChangesRow : OpenClaim := { program := "ytdnljmncdbcgeaa", sum := "90e51916bb3bfb7fd9f8f72cba8e8638074290a5c050b9631d788c908c2910c7", func := "tender/tenderlaw25.MergeChanges", spec := "mergeChanges", inPlace := ["internal/bytealg.IndexByteString", "internal/bytealg.IndexString"], unfollowed := true, recurses := true, named := ["internal/bytealg.MaxLen"], apart := false }
def MergeChangesSaid : Prop := mergeChangesRow.holds Try.pinned (OpenSpec.ofChange mergeChangesSpec)

/-- ITS FALSE NEIGHBOUR: 'it returns false'. Refute it at one input. -/
def mergeChangesWrong : ChangeSpec := { name := "mergeChanges", fn := fun _ => fun
  | [d1, d2, d3] => { results := [.lit (.bool false)], args := [d1, d2, d3] }
  | _ => none }
def MergeChangesWrongFalsely : Prop := mergeChangesRow.holds Try.pinned (OpenSpec.ofChange mergeChangesWrong)

/-- 'tenderlaw25.MergeTurns': WHATEVER THE INPUT: true; the input reads as it did. -/
def mergeTurnsSpec : ChangeSpec := { name := "mergeTurns", fn := fun _ => fun
  | [d1, d2, d3] => { results := [.lit (.bool true)], args := [d1, d2, d3] }
  | _ => none }
def mergeTurnsRow : OpenClaim := { program := "ytdnljmncdbcgeaa", sum := "90e51916bb3bfb7fd9f8f72cba8e8638074290a5c050b9631d788c908c2910c7", func := "tender/tenderlaw25.MergeTurns", spec := "mergeTurns", inPlace := ["internal/bytealg.IndexByteString", "internal/bytealg.IndexString"], unfollowed := true, recurses := true, named := ["internal/bytealg.MaxLen"], apart := false }
def MergeTurnsSaid : Prop := mergeTurnsRow.holds Try.pinned (OpenSpec.ofChange mergeTurnsSpec)

/-- ITS FALSE NEIGHBOUR: 'it returns false'. Refute it at one input. -/
def mergeTurnsWrong : ChangeSpec := { name := "mergeTurns", fn := fun _ => fun
  | [d1, d2, d3] => { results := [.lit (.bool false)], args := [d1, d2, d3] }
  | _ => none }
def MergeTurnsWrongFalsely : Prop := mergeTurnsRow.holds Try.pinned (OpenSpec.ofChange mergeTurnsWrong)

/-- 'tenderlaw22.BookOlder': WHATEVER THE INPUT: true; the input reads as it did. -/
def bookOlderSpec : ChangeSpec := { name := "bookOlder", fn := fun _ => fun
  | [d1, d2] => { results := [.lit (.bool true)], args := [d1, d2] }
  | _ => none }
def bookOlderRow : OpenClaim := { program := "ytdnljmncdbcgeaa", sum := "90e51916bb3bfb7fd9f8f72cba8e8638074290a5c050b9631d788c908c2910c7", func := "tender/tenderlaw22.BookOlder", spec := "bookOlder", inPlace := ["internal/bytealg.IndexByteString", "internal/bytealg.IndexString", "maps.clone"], unfollowed := true, recurses := true, named := ["internal/bytealg.MaxLen"], apart := false }
def BookOlderSaid : Prop := bookOlderRow.holds Try.pinned (OpenSpec.ofChange bookOlderSpec)

/-- ITS FALSE NEIGHBOUR: 'it returns false'. Refute it at one input. -/
def bookOlderWrong : ChangeSpec := { name := "bookOlder", fn := fun _ => fun
  | [d1, d2] => { results := [.lit (.bool false)], args := [d1, d2] }
  | _ => none }
def BookOlderWrongFalsely : Prop := bookOlderRow.holds Try.pinned (OpenSpec.ofChange bookOlderWrong)

/-- 'tenderlaw42.WatchStays': WHATEVER THE INPUT: true; the input reads as it did. -/
def watchStaysSpec : ChangeSpec := { name := "watchStays", fn := fun _ => fun
  | [d1, d2, d3] => { results := [.lit (.bool true)], args := [d1, d2, d3] }
  | _ => none }
def watchStaysRow : OpenClaim := { program := "ytdnljmncdbcgeaa", sum := "90e51916bb3bfb7fd9f8f72cba8e8638074290a5c050b9631d788c908c2910c7", func := "tender/tenderlaw42.WatchStays", spec := "watchStays", inPlace := ["internal/bytealg.IndexByteString", "internal/bytealg.IndexString", "maps.clone"], unfollowed := true, recurses := true, named := ["internal/bytealg.MaxLen"], apart := false }
def WatchStaysSaid : Prop := watchStaysRow.holds Try.pinned (OpenSpec.ofChange watchStaysSpec)

/-- ITS FALSE NEIGHBOUR: 'it returns false'. Refute it at one input. -/
def watchStaysWrong : ChangeSpec := { name := "watchStays", fn := fun _ => fun
  | [d1, d2, d3] => { results := [.lit (.bool false)], args := [d1, d2, d3] }
  | _ => none }
def WatchStaysWrongFalsely : Prop := watchStaysRow.holds Try.pinned (OpenSpec.ofChange watchStaysWrong)

/-- 'tenderlaw22.BookReads': WHATEVER THE INPUT: true; the input reads as it did. -/
def bookReadsSpec : ChangeSpec := { name := "bookReads", fn := fun _ => fun
  | [d] => { results := [.lit (.bool true)], args := [d] }
  | _ => none }
def bookReadsRow : OpenClaim := { program := "ytdnljmncdbcgeaa", sum := "90e51916bb3bfb7fd9f8f72cba8e8638074290a5c050b9631d788c908c2910c7", func := "tender/tenderlaw22.BookReads", spec := "bookReads", inPlace := ["internal/bytealg.IndexByteString", "internal/bytealg.IndexString"], unfollowed := true, recurses := true, named := ["internal/bytealg.MaxLen"], apart := false }
def BookReadsSaid : Prop := bookReadsRow.holds Try.pinned (OpenSpec.ofChange bookReadsSpec)

/-- ITS FALSE NEIGHBOUR: 'it returns false'. Refute it at one input. -/
def bookReadsWrong : ChangeSpec := { name := "bookReads", fn := fun _ => fun
  | [d] => { results := [.lit (.bool false)], args := [d] }
  | _ => none }
def BookReadsWrongFalsely : Prop := bookReadsRow.holds Try.pinned (OpenSpec.ofChange bookReadsWrong)

/-- 'tenderlaw42.WatchNobody': WHATEVER THE INPUT: true; the input reads as it did. -/
def watchNobodySpec : ChangeSpec := { name := "watchNobody", fn := fun _ => fun
  | [d1, d2] => { results := [.lit (.bool true)], args := [d1, d2] }
  | _ => none }
def watchNobodyRow : OpenClaim := { program := "ytdnljmncdbcgeaa", sum := "90e51916bb3bfb7fd9f8f72cba8e8638074290a5c050b9631d788c908c2910c7", func := "tender/tenderlaw42.WatchNobody", spec := "watchNobody", inPlace := ["internal/bytealg.IndexByteString", "internal/bytealg.IndexString", "maps.clone"], unfollowed := true, recurses := true, named := ["internal/bytealg.MaxLen"], apart := false }
def WatchNobodySaid : Prop := watchNobodyRow.holds Try.pinned (OpenSpec.ofChange watchNobodySpec)

/-- ITS FALSE NEIGHBOUR: 'it returns false'. Refute it at one input. -/
def watchNobodyWrong : ChangeSpec := { name := "watchNobody", fn := fun _ => fun
  | [d1, d2] => { results := [.lit (.bool false)], args := [d1, d2] }
  | _ => none }
def WatchNobodyWrongFalsely : Prop := watchNobodyRow.holds Try.pinned (OpenSpec.ofChange watchNobodyWrong)

/- THE SECOND FORM. 'bulk': how many values and letters a reading holds, each counted each time it is reached (what is shared counts as often as it is met; a slice's spare places count too). A statement '..UptoSaid' is the law's where the arguments, and the package variables that the reading takes, are together of bulk at most 1048576: NARROWER than '..Said'. Prove '..Said' where nothing that the law and all that it calls make is longer than what came in: it says more and counts as full. Else prove '..UptoSaid'. A law counts once. -/
mutual
def uptoBulk {H : Type} : DataW H → Nat
  | .lit (.string bytes) => bytes.length + 1
  | .lit _ => 1
  | .nil => 1
  | .ptr d => uptoBulk d + 1
  | .slice elems spare => uptoBulkAll elems + uptoBulkAll spare + 1
  | .agg parts => uptoBulkAll parts + 1
  | .iface _ d => uptoBulk d + 1
  | .map entries => uptoBulkEntries entries + 1
  | .held _ => 1
def uptoBulkAll {H : Type} : List (DataW H) → Nat
  | [] => 0
  | d :: r => uptoBulk d + uptoBulkAll r
def uptoBulkEntries {H : Type} : List (Lit × DataW H) → Nat
  | [] => 0
  | x :: r => uptoBulkEntry x + uptoBulkEntries r
def uptoBulkEntry {H : Type} : Lit × DataW H → Nat
  | (.string bytes, d) => bytes.length + uptoBulk d + 1
  | (_, d) => uptoBulk d + 1
 end
def uptoSmall : (H : Type) → List (DataW H) → Bool := fun _ ds => decide (uptoBulkAll ds ≤ 1048576)
def OpenSpec.upto (s : _root_.Go.ChangeSpec) : _root_.Go.OpenSpec := { _root_.Go.OpenSpec.ofChange s with cond := some uptoSmall }

/-- 'tenderlaw22.BookFull', WHERE WHAT IT READS IS OF BULK AT MOST 1048576: true; the input reads as it did. -/
def bookFullUptoRow : OpenClaim := { program := "ytdnljmncdbcgeaa", sum := "90e51916bb3bfb7fd9f8f72cba8e8638074290a5c050b9631d788c908c2910c7", func := "tender/tenderlaw22.BookFull", spec := "bookFull", inPlace := ["internal/bytealg.IndexByteString", "internal/bytealg.IndexString"], unfollowed := true, recurses := true, named := ["internal/bytealg.MaxLen"], apart := false, narrowed := true }
def BookFullUptoSaid : Prop := bookFullUptoRow.holds Try.pinned (OpenSpec.upto bookFullSpec)

/-- 'tenderlaw22.BookPlays', WHERE WHAT IT READS IS OF BULK AT MOST 1048576: true; the input reads as it did. -/
def bookPlaysUptoRow : OpenClaim := { program := "ytdnljmncdbcgeaa", sum := "90e51916bb3bfb7fd9f8f72cba8e8638074290a5c050b9631d788c908c2910c7", func := "tender/tenderlaw22.BookPlays", spec := "bookPlays", inPlace := ["internal/bytealg.IndexByteString", "internal/bytealg.IndexString"], unfollowed := true, recurses := true, named := ["internal/bytealg.MaxLen"], apart := false, narrowed := true }
def BookPlaysUptoSaid : Prop := bookPlaysUptoRow.holds Try.pinned (OpenSpec.upto bookPlaysSpec)

/-- 'tenderlaw25.MergeChanges', WHERE WHAT IT READS IS OF BULK AT MOST 1048576: true; the input reads as it did. -/
def mergeChangesUptoRow : OpenClaim := { program := "ytdnljmncdbcgeaa", sum := "90e51916bb3bfb7fd9f8f72cba8e8638074290a5c050b9631d788c908c2910c7", func := "tender/tenderlaw25.MergeChanges", spec := "mergeChanges", inPlace := ["internal/bytealg.IndexByteString", "internal/bytealg.IndexString"], unfollowed := true, recurses := true, named := ["internal/bytealg.MaxLen"], apart := false, narrowed := true }
def MergeChangesUptoSaid : Prop := mergeChangesUptoRow.holds Try.pinned (OpenSpec.upto mergeChangesSpec)

/-- 'tenderlaw25.MergeTurns', WHERE WHAT IT READS IS OF BULK AT MOST 1048576: true; the input reads as it did. -/
def mergeTurnsUptoRow : OpenClaim := { program := "ytdnljmncdbcgeaa", sum := "90e51916bb3bfb7fd9f8f72cba8e8638074290a5c050b9631d788c908c2910c7", func := "tender/tenderlaw25.MergeTurns", spec := "mergeTurns", inPlace := ["internal/bytealg.IndexByteString", "internal/bytealg.IndexString"], unfollowed := true, recurses := true, named := ["internal/bytealg.MaxLen"], apart := false, narrowed := true }
def MergeTurnsUptoSaid : Prop := mergeTurnsUptoRow.holds Try.pinned (OpenSpec.upto mergeTurnsSpec)

/-- 'tenderlaw22.BookOlder', WHERE WHAT IT READS IS OF BULK AT MOST 1048576: true; the input reads as it did. -/
def bookOlderUptoRow : OpenClaim := { program := "ytdnljmncdbcgeaa", sum := "90e51916bb3bfb7fd9f8f72cba8e8638074290a5c050b9631d788c908c2910c7", func := "tender/tenderlaw22.BookOlder", spec := "bookOlder", inPlace := ["internal/bytealg.IndexByteString", "internal/bytealg.IndexString", "maps.clone"], unfollowed := true, recurses := true, named := ["internal/bytealg.MaxLen"], apart := false, narrowed := true }
def BookOlderUptoSaid : Prop := bookOlderUptoRow.holds Try.pinned (OpenSpec.upto bookOlderSpec)

/-- 'tenderlaw42.WatchStays', WHERE WHAT IT READS IS OF BULK AT MOST 1048576: true; the input reads as it did. -/
def watchStaysUptoRow : OpenClaim := { program := "ytdnljmncdbcgeaa", sum := "90e51916bb3bfb7fd9f8f72cba8e8638074290a5c050b9631d788c908c2910c7", func := "tender/tenderlaw42.WatchStays", spec := "watchStays", inPlace := ["internal/bytealg.IndexByteString", "internal/bytealg.IndexString", "maps.clone"], unfollowed := true, recurses := true, named := ["internal/bytealg.MaxLen"], apart := false, narrowed := true }
def WatchStaysUptoSaid : Prop := watchStaysUptoRow.holds Try.pinned (OpenSpec.upto watchStaysSpec)

/-- 'tenderlaw22.BookReads', WHERE WHAT IT READS IS OF BULK AT MOST 1048576: true; the input reads as it did. -/
def bookReadsUptoRow : OpenClaim := { program := "ytdnljmncdbcgeaa", sum := "90e51916bb3bfb7fd9f8f72cba8e8638074290a5c050b9631d788c908c2910c7", func := "tender/tenderlaw22.BookReads", spec := "bookReads", inPlace := ["internal/bytealg.IndexByteString", "internal/bytealg.IndexString"], unfollowed := true, recurses := true, named := ["internal/bytealg.MaxLen"], apart := false, narrowed := true }
def BookReadsUptoSaid : Prop := bookReadsUptoRow.holds Try.pinned (OpenSpec.upto bookReadsSpec)

/-- 'tenderlaw42.WatchNobody', WHERE WHAT IT READS IS OF BULK AT MOST 1048576: true; the input reads as it did. -/
def watchNobodyUptoRow : OpenClaim := { program := "ytdnljmncdbcgeaa", sum := "90e51916bb3bfb7fd9f8f72cba8e8638074290a5c050b9631d788c908c2910c7", func := "tender/tenderlaw42.WatchNobody", spec := "watchNobody", inPlace := ["internal/bytealg.IndexByteString", "internal/bytealg.IndexString", "maps.clone"], unfollowed := true, recurses := true, named := ["internal/bytealg.MaxLen"], apart := false, narrowed := true }
def WatchNobodyUptoSaid : Prop := watchNobodyUptoRow.holds Try.pinned (OpenSpec.upto watchNobodySpec)

end Rows
end Go.Proofs.Ytdnljmncdbcgeaa
