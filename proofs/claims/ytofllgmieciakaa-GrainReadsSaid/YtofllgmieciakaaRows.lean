/-
  No cell of these rows narrows 'for every input' (looked for: loops, veiled, ifaces, maps, wideKeys, modest, calm, conditions, laid).
  DERIVED. THE GIVEN ROWS OF THIS SEAT. 6 by the template 'for every input the law returns true; each argument reads behind the call as it read before'; 0 by the template 'total and deterministic' (their statements: YtofllgmieciakaaTotals.lean).
  GIVEN WITH THE SEED: the statements are not yours to turn. If you find one false, say at which input.
  Laid BY PROGRAM, IN A SANDBOX (cutbox-rows.mjs): the forced cells as the released guide's own fill.sh prints them over the translation a4dac49334cc40a2… (all of the seat's roots in one cut). By AI agents, Wed Nov 11 2026. No macro, syntax, notation, axiom, sorry.
-/
import Derived.Test.YtofllgmieciakaaChecked
import GoSem.Claim
import GoSem.ClaimJoined
import GoSem.ClaimMapViews
import Derived.JoinedTies
import Derived.KernelRfl
namespace Go.Proofs.Ytofllgmieciakaa
/- THE CELL 'sum', in the pinned program and in every row, IS THE sha256 OF THE DUMP (.gsa) THAT YtofllgmieciakaaProg.lean LOADS. Nothing in Lean hashes anything: it is a label: what it is worth is what the hold of that sum in a sandbox is worth. -/
noncomputable def Try.pinned : Pinned := { name := "ytofllgmieciakaa", sum := "a4dac49334cc40a292ff48723b25acca80a72295f6de05a538d297d80e2cb400", checked := Try.checked }
namespace Rows
def none {H : Type} : Left H := { results := [], args := [] }

/-- 'tenderlaw21.EntryVersions': WHATEVER THE INPUT: true; the input reads as it did. -/
def entryVersionsSpec : ChangeSpec := { name := "entryVersions", fn := fun _ => fun
  | [d1, d2, d3] => { results := [.lit (.bool true)], args := [d1, d2, d3] }
  | _ => none }
def entryVersionsRow : OpenClaim := { program := "ytofllgmieciakaa", sum := "a4dac49334cc40a292ff48723b25acca80a72295f6de05a538d297d80e2cb400", func := "tender/tenderlaw21.EntryVersions", spec := "entryVersions", apart := false }
def EntryVersionsSaid : Prop := entryVersionsRow.holds Try.pinned (OpenSpec.ofChange entryVersionsSpec)

/-- ITS FALSE NEIGHBOUR: 'it returns false'. Refute it at one input. -/
def entryVersionsWrong : ChangeSpec := { name := "entryVersions", fn := fun _ => fun
  | [d1, d2, d3] => { results := [.lit (.bool false)], args := [d1, d2, d3] }
  | _ => none }
def EntryVersionsWrongFalsely : Prop := entryVersionsRow.holds Try.pinned (OpenSpec.ofChange entryVersionsWrong)

/-- 'tenderlaw25.MergeTells': WHATEVER THE INPUT: true; the input reads as it did. -/
def mergeTellsSpec : ChangeSpec := { name := "mergeTells", fn := fun _ => fun
  | [d1, d2] => { results := [.lit (.bool true)], args := [d1, d2] }
  | _ => none }
def mergeTellsRow : OpenClaim := { program := "ytofllgmieciakaa", sum := "a4dac49334cc40a292ff48723b25acca80a72295f6de05a538d297d80e2cb400", func := "tender/tenderlaw25.MergeTells", spec := "mergeTells", apart := false }
def MergeTellsSaid : Prop := mergeTellsRow.holds Try.pinned (OpenSpec.ofChange mergeTellsSpec)

/-- ITS FALSE NEIGHBOUR: 'it returns false'. Refute it at one input. -/
def mergeTellsWrong : ChangeSpec := { name := "mergeTells", fn := fun _ => fun
  | [d1, d2] => { results := [.lit (.bool false)], args := [d1, d2] }
  | _ => none }
def MergeTellsWrongFalsely : Prop := mergeTellsRow.holds Try.pinned (OpenSpec.ofChange mergeTellsWrong)

/-- 'tenderlaw01.GrainWrites': WHATEVER THE INPUT: true; the input reads as it did. -/
def grainWritesSpec : ChangeSpec := { name := "grainWrites", fn := fun _ => fun
  | [d] => { results := [.lit (.bool true)], args := [d] }
  | _ => none }
def grainWritesRow : OpenClaim := { program := "ytofllgmieciakaa", sum := "a4dac49334cc40a292ff48723b25acca80a72295f6de05a538d297d80e2cb400", func := "tender/tenderlaw01.GrainWrites", spec := "grainWrites", apart := false }
def GrainWritesSaid : Prop := grainWritesRow.holds Try.pinned (OpenSpec.ofChange grainWritesSpec)

/-- ITS FALSE NEIGHBOUR: 'it returns false'. Refute it at one input. -/
def grainWritesWrong : ChangeSpec := { name := "grainWrites", fn := fun _ => fun
  | [d] => { results := [.lit (.bool false)], args := [d] }
  | _ => none }
def GrainWritesWrongFalsely : Prop := grainWritesRow.holds Try.pinned (OpenSpec.ofChange grainWritesWrong)

/-- 'tenderlaw01.GrainOnce': WHATEVER THE INPUT: true; the input reads as it did. -/
def grainOnceSpec : ChangeSpec := { name := "grainOnce", fn := fun _ => fun
  | [d1, d2] => { results := [.lit (.bool true)], args := [d1, d2] }
  | _ => none }
def grainOnceRow : OpenClaim := { program := "ytofllgmieciakaa", sum := "a4dac49334cc40a292ff48723b25acca80a72295f6de05a538d297d80e2cb400", func := "tender/tenderlaw01.GrainOnce", spec := "grainOnce", apart := false }
def GrainOnceSaid : Prop := grainOnceRow.holds Try.pinned (OpenSpec.ofChange grainOnceSpec)

/-- ITS FALSE NEIGHBOUR: 'it returns false'. Refute it at one input. -/
def grainOnceWrong : ChangeSpec := { name := "grainOnce", fn := fun _ => fun
  | [d1, d2] => { results := [.lit (.bool false)], args := [d1, d2] }
  | _ => none }
def GrainOnceWrongFalsely : Prop := grainOnceRow.holds Try.pinned (OpenSpec.ofChange grainOnceWrong)

/-- 'tenderlaw01.GrainReads': WHATEVER THE INPUT: true; the input reads as it did. -/
def grainReadsSpec : ChangeSpec := { name := "grainReads", fn := fun _ => fun
  | [d1, d2] => { results := [.lit (.bool true)], args := [d1, d2] }
  | _ => none }
def grainReadsRow : OpenClaim := { program := "ytofllgmieciakaa", sum := "a4dac49334cc40a292ff48723b25acca80a72295f6de05a538d297d80e2cb400", func := "tender/tenderlaw01.GrainReads", spec := "grainReads", apart := false }
def GrainReadsSaid : Prop := grainReadsRow.holds Try.pinned (OpenSpec.ofChange grainReadsSpec)

/-- ITS FALSE NEIGHBOUR: 'it returns false'. Refute it at one input. -/
def grainReadsWrong : ChangeSpec := { name := "grainReads", fn := fun _ => fun
  | [d1, d2] => { results := [.lit (.bool false)], args := [d1, d2] }
  | _ => none }
def GrainReadsWrongFalsely : Prop := grainReadsRow.holds Try.pinned (OpenSpec.ofChange grainReadsWrong)

/-- 'tenderlaw01.GrainBack': WHATEVER THE INPUT: true; the input reads as it did. -/
def grainBackSpec : ChangeSpec := { name := "grainBack", fn := fun _ => fun
  | [d] => { results := [.lit (.bool true)], args := [d] }
  | _ => none }
def grainBackRow : OpenClaim := { program := "ytofllgmieciakaa", sum := "a4dac49334cc40a292ff48723b25acca80a72295f6de05a538d297d80e2cb400", func := "tender/tenderlaw01.GrainBack", spec := "grainBack", apart := false }
def GrainBackSaid : Prop := grainBackRow.holds Try.pinned (OpenSpec.ofChange grainBackSpec)

/-- ITS FALSE NEIGHBOUR: 'it returns false'. Refute it at one input. -/
def grainBackWrong : ChangeSpec := { name := "grainBack", fn := fun _ => fun
  | [d] => { results := [.lit (.bool false)], args := [d] }
  | _ => none }
def GrainBackWrongFalsely : Prop := grainBackRow.holds Try.pinned (OpenSpec.ofChange grainBackWrong)

/- THE SECOND FORM. 'bulk': how many values and letters a reading holds, each counted each time it is reached (what is shared counts as often as it is met; a slice's spare places count too). A statement '..UptoSaid' is the law's where the arguments, and the package variables that the reading takes, are together of bulk at most 1048576: NARROWER than '..Said'. Prove '..Said' where nothing that the law and all that it calls make is longer than what came in: it says more and counts as full. Else prove '..UptoSaid'. A law counts once. -/
mutual
def uptoBulk {H : Type} : DataW H → Nat
  | .lit (.string bytes) => bytes.length + 1
  | .lit _ => 1
  | .nil => 1
  | .ptr d => uptoBulk d + 1
  | .slice elems spare => uptoBulkAll elems + uptoBulkAll spare + 1
  | .agg parts => uptoBulkAll parts + 1
  | .iface _ d => uptoBulk d + 1
  | .map entries => uptoBulkEntries entries + 1
  | .held _ => 1
def uptoBulkAll {H : Type} : List (DataW H) → Nat
  | [] => 0
  | d :: r => uptoBulk d + uptoBulkAll r
def uptoBulkEntries {H : Type} : List (Lit × DataW H) → Nat
  | [] => 0
  | x :: r => uptoBulkEntry x + uptoBulkEntries r
def uptoBulkEntry {H : Type} : Lit × DataW H → Nat
  | (.string bytes, d) => bytes.length + uptoBulk d + 1
  | (_, d) => uptoBulk d + 1
 end
def uptoSmall : (H : Type) → List (DataW H) → Bool := fun _ ds => decide (uptoBulkAll ds ≤ 1048576)
def OpenSpec.upto (s : _root_.Go.ChangeSpec) : _root_.Go.OpenSpec := { _root_.Go.OpenSpec.ofChange s with cond := some uptoSmall }

/-- 'tenderlaw21.EntryVersions', WHERE WHAT IT READS IS OF BULK AT MOST 1048576: true; the input reads as it did. -/
def entryVersionsUptoRow : OpenClaim := { program := "ytofllgmieciakaa", sum := "a4dac49334cc40a292ff48723b25acca80a72295f6de05a538d297d80e2cb400", func := "tender/tenderlaw21.EntryVersions", spec := "entryVersions", apart := false, narrowed := true }
def EntryVersionsUptoSaid : Prop := entryVersionsUptoRow.holds Try.pinned (OpenSpec.upto entryVersionsSpec)

/-- 'tenderlaw25.MergeTells', WHERE WHAT IT READS IS OF BULK AT MOST 1048576: true; the input reads as it did. -/
def mergeTellsUptoRow : OpenClaim := { program := "ytofllgmieciakaa", sum := "a4dac49334cc40a292ff48723b25acca80a72295f6de05a538d297d80e2cb400", func := "tender/tenderlaw25.MergeTells", spec := "mergeTells", apart := false, narrowed := true }
def MergeTellsUptoSaid : Prop := mergeTellsUptoRow.holds Try.pinned (OpenSpec.upto mergeTellsSpec)

/-- 'tenderlaw01.GrainWrites', WHERE WHAT IT READS IS OF BULK AT MOST 1048576: true; the input reads as it did. -/
def grainWritesUptoRow : OpenClaim := { program := "ytofllgmieciakaa", sum := "a4dac49334cc40a292ff48723b25acca80a72295f6de05a538d297d80e2cb400", func := "tender/tenderlaw01.GrainWrites", spec := "grainWrites", apart := false, narrowed := true }
def GrainWritesUptoSaid : Prop := grainWritesUptoRow.holds Try.pinned (OpenSpec.upto grainWritesSpec)

/-- 'tenderlaw01.GrainOnce', WHERE WHAT IT READS IS OF BULK AT MOST 1048576: true; the input reads as it did. -/
def grainOnceUptoRow : OpenClaim := { program := "ytofllgmieciakaa", sum := "a4dac49334cc40a292ff48723b25acca80a72295f6de05a538d297d80e2cb400", func := "tender/tenderlaw01.GrainOnce", spec := "grainOnce", apart := false, narrowed := true }
def GrainOnceUptoSaid : Prop := grainOnceUptoRow.holds Try.pinned (OpenSpec.upto grainOnceSpec)

/-- 'tenderlaw01.GrainReads', WHERE WHAT IT READS IS OF BULK AT MOST 1048576: true; the input reads as it did. -/
def grainReadsUptoRow : OpenClaim := { program := "ytofllgmieciakaa", sum := "a4dac49334cc40a292ff48723b25acca80a72295f6de05a538d297d80e2cb400", func := "tender/tenderlaw01.GrainReads", spec := "grainReads", apart := false, narrowed := true }
def GrainReadsUptoSaid : Prop := grainReadsUptoRow.holds Try.pinned (OpenSpec.upto grainReadsSpec)

/-- 'tenderlaw01.GrainBack', WHERE WHAT IT READS IS OF BULK AT MOST 1048576: true; the input reads as it did. -/
def grainBackUptoRow : OpenClaim := { program := "ytofllgmieciakaa", sum := "a4dac49334cc40a292ff48723b25acca80a72295f6de05a538d297d80e2cb400", func := "tender/tenderlaw01.GrainBack", spec := "grainBack", apart := false, narrowed := true }
def GrainBackUptoSaid : Prop := grainBackUptoRow.holds Try.pinned (OpenSpec.upto grainBackSpec)

end Rows
end Go.Proofs.Ytofllgmieciakaa
