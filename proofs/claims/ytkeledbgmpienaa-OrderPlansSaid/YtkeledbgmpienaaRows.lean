/-
  No cell of these rows narrows 'for every input' (looked for: loops, veiled, ifaces, maps, wideKeys, modest, calm, conditions, laid).
  DERIVED. THE GIVEN ROWS OF THIS SEAT. 2 by the template 'for every input the law returns true; each argument reads behind the call as it read before'; 0 by the template 'total and deterministic' (their statements: YtkeledbgmpienaaTotals.lean).
  GIVEN WITH THE SEED: the statements are not yours to turn. If you find one false, say at which input.
  Laid BY PROGRAM, IN A SANDBOX (cutbox-rows.mjs): the forced cells as the released guide's own fill.sh prints them over the translation 401519649e1b1016… (all of the seat's roots in one cut). By AI agents, Wed Nov 11 2026. No macro, syntax, notation, axiom, sorry.
-/
import Derived.Test.YtkeledbgmpienaaChecked
import GoSem.Claim
import GoSem.ClaimJoined
import GoSem.ClaimMapViews
import Derived.JoinedTies
import Derived.KernelRfl
namespace Go.Proofs.Ytkeledbgmpienaa
/- THE CELL 'sum', in the pinned program and in every row, IS THE sha256 OF THE DUMP (.gsa) THAT YtkeledbgmpienaaProg.lean LOADS. Nothing in Lean hashes anything: it is a label: what it is worth is what the hold of that sum in a sandbox is worth. -/
noncomputable def Try.pinned : Pinned := { name := "ytkeledbgmpienaa", sum := "401519649e1b10165afad8b7bb592126cba9301f42e17bece77bb8551fed3dd5", checked := Try.checked }
namespace Rows
def none {H : Type} : Left H := { results := [], args := [] }

/-- 'tenderlaw28.OrderPlans': WHATEVER THE INPUT: true; the input reads as it did. -/
def orderPlansSpec : ChangeSpec := { name := "orderPlans", fn := fun _ => fun
  | [d] => { results := [.lit (.bool true)], args := [d] }
  | _ => none }
def orderPlansRow : OpenClaim := { program := "ytkeledbgmpienaa", sum := "401519649e1b10165afad8b7bb592126cba9301f42e17bece77bb8551fed3dd5", func := "tender/tenderlaw28.OrderPlans", spec := "orderPlans", inPlace := ["internal/bytealg.IndexByteString", "internal/bytealg.IndexString"], unfollowed := true, recurses := true, named := ["internal/bytealg.MaxLen"], apart := false }
def OrderPlansSaid : Prop := orderPlansRow.holds Try.pinned (OpenSpec.ofChange orderPlansSpec)

/-- ITS FALSE NEIGHBOUR: 'it returns false'. Refute it at one input. -/
def orderPlansWrong : ChangeSpec := { name := "orderPlans", fn := fun _ => fun
  | [d] => { results := [.lit (.bool false)], args := [d] }
  | _ => none }
def OrderPlansWrongFalsely : Prop := orderPlansRow.holds Try.pinned (OpenSpec.ofChange orderPlansWrong)

/-- 'tenderlaw28.OrderApplies': WHATEVER THE INPUT: true; the input reads as it did. -/
def orderAppliesSpec : ChangeSpec := { name := "orderApplies", fn := fun _ => fun
  | [d1, d2, d3] => { results := [.lit (.bool true)], args := [d1, d2, d3] }
  | _ => none }
def orderAppliesRow : OpenClaim := { program := "ytkeledbgmpienaa", sum := "401519649e1b10165afad8b7bb592126cba9301f42e17bece77bb8551fed3dd5", func := "tender/tenderlaw28.OrderApplies", spec := "orderApplies", inPlace := ["internal/bytealg.IndexByteString", "internal/bytealg.IndexString", "maps.clone"], unfollowed := true, recurses := true, named := ["internal/bytealg.MaxLen"], apart := false }
def OrderAppliesSaid : Prop := orderAppliesRow.holds Try.pinned (OpenSpec.ofChange orderAppliesSpec)

/-- ITS FALSE NEIGHBOUR: 'it returns false'. Refute it at one input. -/
def orderAppliesWrong : ChangeSpec := { name := "orderApplies", fn := fun _ => fun
  | [d1, d2, d3] => { results := [.lit (.bool false)], args := [d1, d2, d3] }
  | _ => none }
def OrderAppliesWrongFalsely : Prop := orderAppliesRow.holds Try.pinned (OpenSpec.ofChange orderAppliesWrong)

/- THE SECOND FORM. 'bulk': how many values and letters a reading holds, each counted each time it is reached (what is shared counts as often as it is met; a slice's spare places count too). A statement '..UptoSaid' is the law's where the arguments, and the package variables that the reading takes, are together of bulk at most 1048576: NARROWER than '..Said'. Prove '..Said' where nothing that the law and all that it calls make is longer than what came in: it says more and counts as full. Else prove '..UptoSaid'. A law counts once. -/
mutual
def uptoBulk {H : Type} : DataW H → Nat
  | .lit (.string bytes) => bytes.length + 1
  | .lit _ => 1
  | .nil => 1
  | .ptr d => uptoBulk d + 1
  | .slice elems spare => uptoBulkAll elems + uptoBulkAll spare + 1
  | .agg parts => uptoBulkAll parts + 1
  | .iface _ d => uptoBulk d + 1
  | .map entries => uptoBulkEntries entries + 1
  | .held _ => 1
def uptoBulkAll {H : Type} : List (DataW H) → Nat
  | [] => 0
  | d :: r => uptoBulk d + uptoBulkAll r
def uptoBulkEntries {H : Type} : List (Lit × DataW H) → Nat
  | [] => 0
  | x :: r => uptoBulkEntry x + uptoBulkEntries r
def uptoBulkEntry {H : Type} : Lit × DataW H → Nat
  | (.string bytes, d) => bytes.length + uptoBulk d + 1
  | (_, d) => uptoBulk d + 1
 end
def uptoSmall : (H : Type) → List (DataW H) → Bool := fun _ ds => decide (uptoBulkAll ds ≤ 1048576)
def OpenSpec.upto (s : _root_.Go.ChangeSpec) : _root_.Go.OpenSpec := { _root_.Go.OpenSpec.ofChange s with cond := some uptoSmall }

/-- 'tenderlaw28.OrderPlans', WHERE WHAT IT READS IS OF BULK AT MOST 1048576: true; the input reads as it did. -/
def orderPlansUptoRow : OpenClaim := { program := "ytkeledbgmpienaa", sum := "401519649e1b10165afad8b7bb592126cba9301f42e17bece77bb8551fed3dd5", func := "tender/tenderlaw28.OrderPlans", spec := "orderPlans", inPlace := ["internal/bytealg.IndexByteString", "internal/bytealg.IndexString"], unfollowed := true, recurses := true, named := ["internal/bytealg.MaxLen"], apart := false, narrowed := true }
def OrderPlansUptoSaid : Prop := orderPlansUptoRow.holds Try.pinned (OpenSpec.upto orderPlansSpec)

/-- 'tenderlaw28.OrderApplies', WHERE WHAT IT READS IS OF BULK AT MOST 1048576: true; the input reads as it did. -/
def orderAppliesUptoRow : OpenClaim := { program := "ytkeledbgmpienaa", sum := "401519649e1b10165afad8b7bb592126cba9301f42e17bece77bb8551fed3dd5", func := "tender/tenderlaw28.OrderApplies", spec := "orderApplies", inPlace := ["internal/bytealg.IndexByteString", "internal/bytealg.IndexString", "maps.clone"], unfollowed := true, recurses := true, named := ["internal/bytealg.MaxLen"], apart := false, narrowed := true }
def OrderAppliesUptoSaid : Prop := orderAppliesUptoRow.holds Try.pinned (OpenSpec.upto orderAppliesSpec)

end Rows
end Go.Proofs.Ytkeledbgmpienaa
