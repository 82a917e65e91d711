/-
  No cell of these rows narrows 'for every input' (looked for: loops, veiled, ifaces, maps, wideKeys, modest, calm, conditions, laid).
  DERIVED. THE GIVEN ROWS OF THIS SEAT. 6 by the template 'for every input the law returns true; each argument reads behind the call as it read before'; 0 by the template 'total and deterministic' (their statements: YtpbgcbpofhbgbaaTotals.lean).
  GIVEN WITH THE SEED: the statements are not yours to turn. If you find one false, say at which input.
  Laid BY PROGRAM, IN A SANDBOX (cutbox-rows.mjs): the forced cells as the released guide's own fill.sh prints them over the translation 9c7d6a7e194c8c17… (all of the seat's roots in one cut). By AI agents, Wed Nov 11 2026. No macro, syntax, notation, axiom, sorry.
-/
import Derived.Test.YtpbgcbpofhbgbaaChecked
import GoSem.Claim
import GoSem.ClaimJoined
import GoSem.ClaimMapViews
import Derived.JoinedTies
import Derived.KernelRfl
namespace Go.Proofs.Ytpbgcbpofhbgbaa
/- THE CELL 'sum', in the pinned program and in every row, IS THE sha256 OF THE DUMP (.gsa) THAT YtpbgcbpofhbgbaaProg.lean LOADS. Nothing in Lean hashes anything: it is a label: what it is worth is what the hold of that sum in a sandbox is worth. -/
noncomputable def Try.pinned : Pinned := { name := "ytpbgcbpofhbgbaa", sum := "9c7d6a7e194c8c17e20984fb0fc76211ab3dd753f2ce2c357eb7e1962c666dbe", checked := Try.checked }
namespace Rows
def none {H : Type} : Left H := { results := [], args := [] }

/-- 'tenderlaw16.PipeCuts': WHATEVER THE INPUT: true; the input reads as it did. -/
def pipeCutsSpec : ChangeSpec := { name := "pipeCuts", fn := fun _ => fun
  | [d1, d2, d3] => { results := [.lit (.bool true)], args := [d1, d2, d3] }
  | _ => none }
def pipeCutsRow : OpenClaim := { program := "ytpbgcbpofhbgbaa", sum := "9c7d6a7e194c8c17e20984fb0fc76211ab3dd753f2ce2c357eb7e1962c666dbe", func := "tender/tenderlaw16.PipeCuts", spec := "pipeCuts", apart := false }
def PipeCutsSaid : Prop := pipeCutsRow.holds Try.pinned (OpenSpec.ofChange pipeCutsSpec)

/-- ITS FALSE NEIGHBOUR: 'it returns false'. Refute it at one input. -/
def pipeCutsWrong : ChangeSpec := { name := "pipeCuts", fn := fun _ => fun
  | [d1, d2, d3] => { results := [.lit (.bool false)], args := [d1, d2, d3] }
  | _ => none }
def PipeCutsWrongFalsely : Prop := pipeCutsRow.holds Try.pinned (OpenSpec.ofChange pipeCutsWrong)

/-- 'tenderlaw16.PipePlays': WHATEVER THE INPUT: true; the input reads as it did. -/
def pipePlaysSpec : ChangeSpec := { name := "pipePlays", fn := fun _ => fun
  | [d] => { results := [.lit (.bool true)], args := [d] }
  | _ => none }
def pipePlaysRow : OpenClaim := { program := "ytpbgcbpofhbgbaa", sum := "9c7d6a7e194c8c17e20984fb0fc76211ab3dd753f2ce2c357eb7e1962c666dbe", func := "tender/tenderlaw16.PipePlays", spec := "pipePlays", unfollowed := true, recurses := true, apart := false }
def PipePlaysSaid : Prop := pipePlaysRow.holds Try.pinned (OpenSpec.ofChange pipePlaysSpec)

/-- ITS FALSE NEIGHBOUR: 'it returns false'. Refute it at one input. -/
def pipePlaysWrong : ChangeSpec := { name := "pipePlays", fn := fun _ => fun
  | [d] => { results := [.lit (.bool false)], args := [d] }
  | _ => none }
def PipePlaysWrongFalsely : Prop := pipePlaysRow.holds Try.pinned (OpenSpec.ofChange pipePlaysWrong)

/-- 'tenderlaw16.PipeNobody': WHATEVER THE INPUT: true; the input reads as it did. -/
def pipeNobodySpec : ChangeSpec := { name := "pipeNobody", fn := fun _ => fun
  | [d] => { results := [.lit (.bool true)], args := [d] }
  | _ => none }
def pipeNobodyRow : OpenClaim := { program := "ytpbgcbpofhbgbaa", sum := "9c7d6a7e194c8c17e20984fb0fc76211ab3dd753f2ce2c357eb7e1962c666dbe", func := "tender/tenderlaw16.PipeNobody", spec := "pipeNobody", unfollowed := true, recurses := true, apart := false }
def PipeNobodySaid : Prop := pipeNobodyRow.holds Try.pinned (OpenSpec.ofChange pipeNobodySpec)

/-- ITS FALSE NEIGHBOUR: 'it returns false'. Refute it at one input. -/
def pipeNobodyWrong : ChangeSpec := { name := "pipeNobody", fn := fun _ => fun
  | [d] => { results := [.lit (.bool false)], args := [d] }
  | _ => none }
def PipeNobodyWrongFalsely : Prop := pipeNobodyRow.holds Try.pinned (OpenSpec.ofChange pipeNobodyWrong)

/-- 'tenderlaw41.ScriptAny': WHATEVER THE INPUT: true; the input reads as it did. -/
def scriptAnySpec : ChangeSpec := { name := "scriptAny", fn := fun _ => fun
  | [d] => { results := [.lit (.bool true)], args := [d] }
  | _ => none }
def scriptAnyRow : OpenClaim := { program := "ytpbgcbpofhbgbaa", sum := "9c7d6a7e194c8c17e20984fb0fc76211ab3dd753f2ce2c357eb7e1962c666dbe", func := "tender/tenderlaw41.ScriptAny", spec := "scriptAny", unfollowed := true, recurses := true, apart := false }
def ScriptAnySaid : Prop := scriptAnyRow.holds Try.pinned (OpenSpec.ofChange scriptAnySpec)

/-- ITS FALSE NEIGHBOUR: 'it returns false'. Refute it at one input. -/
def scriptAnyWrong : ChangeSpec := { name := "scriptAny", fn := fun _ => fun
  | [d] => { results := [.lit (.bool false)], args := [d] }
  | _ => none }
def ScriptAnyWrongFalsely : Prop := scriptAnyRow.holds Try.pinned (OpenSpec.ofChange scriptAnyWrong)

/-- 'tenderlaw41.ScriptReads': WHATEVER THE INPUT: true; the input reads as it did. -/
def scriptReadsSpec : ChangeSpec := { name := "scriptReads", fn := fun _ => fun
  | [d] => { results := [.lit (.bool true)], args := [d] }
  | _ => none }
def scriptReadsRow : OpenClaim := { program := "ytpbgcbpofhbgbaa", sum := "9c7d6a7e194c8c17e20984fb0fc76211ab3dd753f2ce2c357eb7e1962c666dbe", func := "tender/tenderlaw41.ScriptReads", spec := "scriptReads", unfollowed := true, recurses := true, apart := false }
def ScriptReadsSaid : Prop := scriptReadsRow.holds Try.pinned (OpenSpec.ofChange scriptReadsSpec)

/-- ITS FALSE NEIGHBOUR: 'it returns false'. Refute it at one input. -/
def scriptReadsWrong : ChangeSpec := { name := "scriptReads", fn := fun _ => fun
  | [d] => { results := [.lit (.bool false)], args := [d] }
  | _ => none }
def ScriptReadsWrongFalsely : Prop := scriptReadsRow.holds Try.pinned (OpenSpec.ofChange scriptReadsWrong)

/-- 'tenderlaw41.ScriptWrites': WHATEVER THE INPUT: true; the input reads as it did. -/
def scriptWritesSpec : ChangeSpec := { name := "scriptWrites", fn := fun _ => fun
  | [d1, d2] => { results := [.lit (.bool true)], args := [d1, d2] }
  | _ => none }
def scriptWritesRow : OpenClaim := { program := "ytpbgcbpofhbgbaa", sum := "9c7d6a7e194c8c17e20984fb0fc76211ab3dd753f2ce2c357eb7e1962c666dbe", func := "tender/tenderlaw41.ScriptWrites", spec := "scriptWrites", unfollowed := true, recurses := true, apart := false }
def ScriptWritesSaid : Prop := scriptWritesRow.holds Try.pinned (OpenSpec.ofChange scriptWritesSpec)

/-- ITS FALSE NEIGHBOUR: 'it returns false'. Refute it at one input. -/
def scriptWritesWrong : ChangeSpec := { name := "scriptWrites", fn := fun _ => fun
  | [d1, d2] => { results := [.lit (.bool false)], args := [d1, d2] }
  | _ => none }
def ScriptWritesWrongFalsely : Prop := scriptWritesRow.holds Try.pinned (OpenSpec.ofChange scriptWritesWrong)

/- THE SECOND FORM. 'bulk': how many values and letters a reading holds, each counted each time it is reached (what is shared counts as often as it is met; a slice's spare places count too). A statement '..UptoSaid' is the law's where the arguments, and the package variables that the reading takes, are together of bulk at most 1048576: NARROWER than '..Said'. Prove '..Said' where nothing that the law and all that it calls make is longer than what came in: it says more and counts as full. Else prove '..UptoSaid'. A law counts once. -/
mutual
def uptoBulk {H : Type} : DataW H → Nat
  | .lit (.string bytes) => bytes.length + 1
  | .lit _ => 1
  | .nil => 1
  | .ptr d => uptoBulk d + 1
  | .slice elems spare => uptoBulkAll elems + uptoBulkAll spare + 1
  | .agg parts => uptoBulkAll parts + 1
  | .iface _ d => uptoBulk d + 1
  | .map entries => uptoBulkEntries entries + 1
  | .held _ => 1
def uptoBulkAll {H : Type} : List (DataW H) → Nat
  | [] => 0
  | d :: r => uptoBulk d + uptoBulkAll r
def uptoBulkEntries {H : Type} : List (Lit × DataW H) → Nat
  | [] => 0
  | x :: r => uptoBulkEntry x + uptoBulkEntries r
def uptoBulkEntry {H : Type} : Lit × DataW H → Nat
  | (.string bytes, d) => bytes.length + uptoBulk d + 1
  | (_, d) => uptoBulk d + 1
 end
def uptoSmall : (H : Type) → List (DataW H) → Bool := fun _ ds => decide (uptoBulkAll ds ≤ 1048576)
def OpenSpec.upto (s : _root_.Go.ChangeSpec) : _root_.Go.OpenSpec := { _root_.Go.OpenSpec.ofChange s with cond := some uptoSmall }

/-- 'tenderlaw16.PipeCuts', WHERE WHAT IT READS IS OF BULK AT MOST 1048576: true; the input reads as it did. -/
def pipeCutsUptoRow : OpenClaim := { program := "ytpbgcbpofhbgbaa", sum := "9c7d6a7e194c8c17e20984fb0fc76211ab3dd753f2ce2c357eb7e1962c666dbe", func := "tender/tenderlaw16.PipeCuts", spec := "pipeCuts", apart := false, narrowed := true }
def PipeCutsUptoSaid : Prop := pipeCutsUptoRow.holds Try.pinned (OpenSpec.upto pipeCutsSpec)

/-- 'tenderlaw16.PipePlays', WHERE WHAT IT READS IS OF BULK AT MOST 1048576: true; the input reads as it did. -/
def pipePlaysUptoRow : OpenClaim := { program := "ytpbgcbpofhbgbaa", sum := "9c7d6a7e194c8c17e20984fb0fc76211ab3dd753f2ce2c357eb7e1962c666dbe", func := "tender/tenderlaw16.PipePlays", spec := "pipePlays", unfollowed := true, recurses := true, apart := false, narrowed := true }
def PipePlaysUptoSaid : Prop := pipePlaysUptoRow.holds Try.pinned (OpenSpec.upto pipePlaysSpec)

/-- 'tenderlaw16.PipeNobody', WHERE WHAT IT READS IS OF BULK AT MOST 1048576: true; the input reads as it did. -/
def pipeNobodyUptoRow : OpenClaim := { program := "ytpbgcbpofhbgbaa", sum := "9c7d6a7e194c8c17e20984fb0fc76211ab3dd753f2ce2c357eb7e1962c666dbe", func := "tender/tenderlaw16.PipeNobody", spec := "pipeNobody", unfollowed := true, recurses := true, apart := false, narrowed := true }
def PipeNobodyUptoSaid : Prop := pipeNobodyUptoRow.holds Try.pinned (OpenSpec.upto pipeNobodySpec)

/-- 'tenderlaw41.ScriptAny', WHERE WHAT IT READS IS OF BULK AT MOST 1048576: true; the input reads as it did. -/
def scriptAnyUptoRow : OpenClaim := { program := "ytpbgcbpofhbgbaa", sum := "9c7d6a7e194c8c17e20984fb0fc76211ab3dd753f2ce2c357eb7e1962c666dbe", func := "tender/tenderlaw41.ScriptAny", spec := "scriptAny", unfollowed := true, recurses := true, apart := false, narrowed := true }
def ScriptAnyUptoSaid : Prop := scriptAnyUptoRow.holds Try.pinned (OpenSpec.upto scriptAnySpec)

/-- 'tenderlaw41.ScriptReads', WHERE WHAT IT READS IS OF BULK AT MOST 1048576: true; the input reads as it did. -/
def scriptReadsUptoRow : OpenClaim := { program := "ytpbgcbpofhbgbaa", sum := "9c7d6a7e194c8c17e20984fb0fc76211ab3dd753f2ce2c357eb7e1962c666dbe", func := "tender/tenderlaw41.ScriptReads", spec := "scriptReads", unfollowed := true, recurses := true, apart := false, narrowed := true }
def ScriptReadsUptoSaid : Prop := scriptReadsUptoRow.holds Try.pinned (OpenSpec.upto scriptReadsSpec)

/-- 'tenderlaw41.ScriptWrites', WHERE WHAT IT READS IS OF BULK AT MOST 1048576: true; the input reads as it did. -/
def scriptWritesUptoRow : OpenClaim := { program := "ytpbgcbpofhbgbaa", sum := "9c7d6a7e194c8c17e20984fb0fc76211ab3dd753f2ce2c357eb7e1962c666dbe", func := "tender/tenderlaw41.ScriptWrites", spec := "scriptWrites", unfollowed := true, recurses := true, apart := false, narrowed := true }
def ScriptWritesUptoSaid : Prop := scriptWritesUptoRow.holds Try.pinned (OpenSpec.upto scriptWritesSpec)

end Rows
end Go.Proofs.Ytpbgcbpofhbgbaa
