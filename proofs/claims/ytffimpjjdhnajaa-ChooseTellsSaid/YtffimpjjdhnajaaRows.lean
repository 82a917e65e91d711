/-
  No cell of these rows narrows 'for every input' (looked for: loops, veiled, ifaces, maps, wideKeys, modest, calm, conditions, laid).
  DERIVED. THE GIVEN ROWS OF THIS SEAT. 11 by the template 'for every input the law returns true; each argument reads behind the call as it read before'; 0 by the template 'total and deterministic' (their statements: YtffimpjjdhnajaaTotals.lean).
  GIVEN WITH THE SEED: the statements are not yours to turn. If you find one false, say at which input.
  Laid BY PROGRAM, IN A SANDBOX (cutbox-rows.mjs): the forced cells as the released guide's own fill.sh prints them over the translation a1719ca3d69c0595… (all of the seat's roots in one cut). By AI agents, Wed Nov 11 2026. No macro, syntax, notation, axiom, sorry.
-/
import Derived.Test.YtffimpjjdhnajaaChecked
import GoSem.Claim
import GoSem.ClaimJoined
import GoSem.ClaimMapViews
import Derived.JoinedTies
import Derived.KernelRfl
namespace Go.Proofs.Ytffimpjjdhnajaa
/- THE CELL 'sum', in the pinned program and in every row, IS THE sha256 OF THE DUMP (.gsa) THAT YtffimpjjdhnajaaProg.lean LOADS. Nothing in Lean hashes anything: it is a label: what it is worth is what the hold of that sum in a sandbox is worth. -/
noncomputable def Try.pinned : Pinned := { name := "ytffimpjjdhnajaa", sum := "a1719ca3d69c059534616030f42c3944936452b1c3b5a466e4a03ae348323c43", checked := Try.checked }
namespace Rows
def none {H : Type} : Left H := { results := [], args := [] }

/-- 'tenderlaw03.NameOrders': WHATEVER THE INPUT: true; the input reads as it did. -/
def nameOrdersSpec : ChangeSpec := { name := "nameOrders", fn := fun _ => fun
  | [d1, d2, d3] => { results := [.lit (.bool true)], args := [d1, d2, d3] }
  | _ => none }
def nameOrdersRow : OpenClaim := { program := "ytffimpjjdhnajaa", sum := "a1719ca3d69c059534616030f42c3944936452b1c3b5a466e4a03ae348323c43", func := "tender/tenderlaw03.NameOrders", spec := "nameOrders", inPlace := ["internal/bytealg.IndexByteString", "internal/bytealg.IndexString"], unfollowed := true, recurses := true, named := ["internal/bytealg.MaxLen"], apart := false }
def NameOrdersSaid : Prop := nameOrdersRow.holds Try.pinned (OpenSpec.ofChange nameOrdersSpec)

/-- ITS FALSE NEIGHBOUR: 'it returns false'. Refute it at one input. -/
def nameOrdersWrong : ChangeSpec := { name := "nameOrders", fn := fun _ => fun
  | [d1, d2, d3] => { results := [.lit (.bool false)], args := [d1, d2, d3] }
  | _ => none }
def NameOrdersWrongFalsely : Prop := nameOrdersRow.holds Try.pinned (OpenSpec.ofChange nameOrdersWrong)

/-- 'tenderlaw03.NameMoves': WHATEVER THE INPUT: true; the input reads as it did. -/
def nameMovesSpec : ChangeSpec := { name := "nameMoves", fn := fun _ => fun
  | [d1, d2, d3] => { results := [.lit (.bool true)], args := [d1, d2, d3] }
  | _ => none }
def nameMovesRow : OpenClaim := { program := "ytffimpjjdhnajaa", sum := "a1719ca3d69c059534616030f42c3944936452b1c3b5a466e4a03ae348323c43", func := "tender/tenderlaw03.NameMoves", spec := "nameMoves", inPlace := ["internal/bytealg.IndexByteString", "internal/bytealg.IndexString"], unfollowed := true, recurses := true, named := ["internal/bytealg.MaxLen"], apart := false }
def NameMovesSaid : Prop := nameMovesRow.holds Try.pinned (OpenSpec.ofChange nameMovesSpec)

/-- ITS FALSE NEIGHBOUR: 'it returns false'. Refute it at one input. -/
def nameMovesWrong : ChangeSpec := { name := "nameMoves", fn := fun _ => fun
  | [d1, d2, d3] => { results := [.lit (.bool false)], args := [d1, d2, d3] }
  | _ => none }
def NameMovesWrongFalsely : Prop := nameMovesRow.holds Try.pinned (OpenSpec.ofChange nameMovesWrong)

/-- 'tenderlaw03.NameUps': WHATEVER THE INPUT: true; the input reads as it did. -/
def nameUpsSpec : ChangeSpec := { name := "nameUps", fn := fun _ => fun
  | [d1, d2] => { results := [.lit (.bool true)], args := [d1, d2] }
  | _ => none }
def nameUpsRow : OpenClaim := { program := "ytffimpjjdhnajaa", sum := "a1719ca3d69c059534616030f42c3944936452b1c3b5a466e4a03ae348323c43", func := "tender/tenderlaw03.NameUps", spec := "nameUps", inPlace := ["internal/bytealg.IndexByteString", "internal/bytealg.IndexString"], unfollowed := true, recurses := true, named := ["internal/bytealg.MaxLen"], apart := false }
def NameUpsSaid : Prop := nameUpsRow.holds Try.pinned (OpenSpec.ofChange nameUpsSpec)

/-- ITS FALSE NEIGHBOUR: 'it returns false'. Refute it at one input. -/
def nameUpsWrong : ChangeSpec := { name := "nameUps", fn := fun _ => fun
  | [d1, d2] => { results := [.lit (.bool false)], args := [d1, d2] }
  | _ => none }
def NameUpsWrongFalsely : Prop := nameUpsRow.holds Try.pinned (OpenSpec.ofChange nameUpsWrong)

/-- 'tenderlaw03.NameChecks': WHATEVER THE INPUT: true; the input reads as it did. -/
def nameChecksSpec : ChangeSpec := { name := "nameChecks", fn := fun _ => fun
  | [d1, d2] => { results := [.lit (.bool true)], args := [d1, d2] }
  | _ => none }
def nameChecksRow : OpenClaim := { program := "ytffimpjjdhnajaa", sum := "a1719ca3d69c059534616030f42c3944936452b1c3b5a466e4a03ae348323c43", func := "tender/tenderlaw03.NameChecks", spec := "nameChecks", inPlace := ["internal/bytealg.IndexByteString", "internal/bytealg.IndexString", "internal/abi.NoEscape", "internal/bytealg.MakeNoZero"], unfollowed := true, recurses := true, named := ["internal/bytealg.MaxLen"], apart := false }
def NameChecksSaid : Prop := nameChecksRow.holds Try.pinned (OpenSpec.ofChange nameChecksSpec)

/-- ITS FALSE NEIGHBOUR: 'it returns false'. Refute it at one input. -/
def nameChecksWrong : ChangeSpec := { name := "nameChecks", fn := fun _ => fun
  | [d1, d2] => { results := [.lit (.bool false)], args := [d1, d2] }
  | _ => none }
def NameChecksWrongFalsely : Prop := nameChecksRow.holds Try.pinned (OpenSpec.ofChange nameChecksWrong)

/-- 'tenderlaw26.FenceTurns': WHATEVER THE INPUT: true; the input reads as it did. -/
def fenceTurnsSpec : ChangeSpec := { name := "fenceTurns", fn := fun _ => fun
  | [d] => { results := [.lit (.bool true)], args := [d] }
  | _ => none }
def fenceTurnsRow : OpenClaim := { program := "ytffimpjjdhnajaa", sum := "a1719ca3d69c059534616030f42c3944936452b1c3b5a466e4a03ae348323c43", func := "tender/tenderlaw26.FenceTurns", spec := "fenceTurns", inPlace := ["internal/bytealg.IndexByteString", "internal/bytealg.IndexString"], unfollowed := true, recurses := true, named := ["internal/bytealg.MaxLen"], apart := false }
def FenceTurnsSaid : Prop := fenceTurnsRow.holds Try.pinned (OpenSpec.ofChange fenceTurnsSpec)

/-- ITS FALSE NEIGHBOUR: 'it returns false'. Refute it at one input. -/
def fenceTurnsWrong : ChangeSpec := { name := "fenceTurns", fn := fun _ => fun
  | [d] => { results := [.lit (.bool false)], args := [d] }
  | _ => none }
def FenceTurnsWrongFalsely : Prop := fenceTurnsRow.holds Try.pinned (OpenSpec.ofChange fenceTurnsWrong)

/-- 'tenderlaw26.FenceCloses': WHATEVER THE INPUT: true; the input reads as it did. -/
def fenceClosesSpec : ChangeSpec := { name := "fenceCloses", fn := fun _ => fun
  | [d] => { results := [.lit (.bool true)], args := [d] }
  | _ => none }
def fenceClosesRow : OpenClaim := { program := "ytffimpjjdhnajaa", sum := "a1719ca3d69c059534616030f42c3944936452b1c3b5a466e4a03ae348323c43", func := "tender/tenderlaw26.FenceCloses", spec := "fenceCloses", inPlace := ["internal/bytealg.IndexByteString", "internal/bytealg.IndexString"], unfollowed := true, recurses := true, named := ["internal/bytealg.MaxLen"], apart := false }
def FenceClosesSaid : Prop := fenceClosesRow.holds Try.pinned (OpenSpec.ofChange fenceClosesSpec)

/-- ITS FALSE NEIGHBOUR: 'it returns false'. Refute it at one input. -/
def fenceClosesWrong : ChangeSpec := { name := "fenceCloses", fn := fun _ => fun
  | [d] => { results := [.lit (.bool false)], args := [d] }
  | _ => none }
def FenceClosesWrongFalsely : Prop := fenceClosesRow.holds Try.pinned (OpenSpec.ofChange fenceClosesWrong)

/-- 'tenderlaw26.FenceSound': WHATEVER THE INPUT: true; the input reads as it did. -/
def fenceSoundSpec : ChangeSpec := { name := "fenceSound", fn := fun _ => fun
  | [d1, d2, d3] => { results := [.lit (.bool true)], args := [d1, d2, d3] }
  | _ => none }
def fenceSoundRow : OpenClaim := { program := "ytffimpjjdhnajaa", sum := "a1719ca3d69c059534616030f42c3944936452b1c3b5a466e4a03ae348323c43", func := "tender/tenderlaw26.FenceSound", spec := "fenceSound", inPlace := ["internal/bytealg.IndexByteString", "internal/bytealg.IndexString"], unfollowed := true, recurses := true, named := ["internal/bytealg.MaxLen"], apart := false }
def FenceSoundSaid : Prop := fenceSoundRow.holds Try.pinned (OpenSpec.ofChange fenceSoundSpec)

/-- ITS FALSE NEIGHBOUR: 'it returns false'. Refute it at one input. -/
def fenceSoundWrong : ChangeSpec := { name := "fenceSound", fn := fun _ => fun
  | [d1, d2, d3] => { results := [.lit (.bool false)], args := [d1, d2, d3] }
  | _ => none }
def FenceSoundWrongFalsely : Prop := fenceSoundRow.holds Try.pinned (OpenSpec.ofChange fenceSoundWrong)

/-- 'tenderlaw27.ChooseApplies': WHATEVER THE INPUT: true; the input reads as it did. -/
def chooseAppliesSpec : ChangeSpec := { name := "chooseApplies", fn := fun _ => fun
  | [d1, d2] => { results := [.lit (.bool true)], args := [d1, d2] }
  | _ => none }
def chooseAppliesRow : OpenClaim := { program := "ytffimpjjdhnajaa", sum := "a1719ca3d69c059534616030f42c3944936452b1c3b5a466e4a03ae348323c43", func := "tender/tenderlaw27.ChooseApplies", spec := "chooseApplies", inPlace := ["internal/bytealg.IndexByteString", "internal/bytealg.IndexString"], unfollowed := true, recurses := true, named := ["internal/bytealg.MaxLen"], apart := false }
def ChooseAppliesSaid : Prop := chooseAppliesRow.holds Try.pinned (OpenSpec.ofChange chooseAppliesSpec)

/-- ITS FALSE NEIGHBOUR: 'it returns false'. Refute it at one input. -/
def chooseAppliesWrong : ChangeSpec := { name := "chooseApplies", fn := fun _ => fun
  | [d1, d2] => { results := [.lit (.bool false)], args := [d1, d2] }
  | _ => none }
def ChooseAppliesWrongFalsely : Prop := chooseAppliesRow.holds Try.pinned (OpenSpec.ofChange chooseAppliesWrong)

/-- 'tenderlaw27.ChooseLeaves': WHATEVER THE INPUT: true; the input reads as it did. -/
def chooseLeavesSpec : ChangeSpec := { name := "chooseLeaves", fn := fun _ => fun
  | [d1, d2] => { results := [.lit (.bool true)], args := [d1, d2] }
  | _ => none }
def chooseLeavesRow : OpenClaim := { program := "ytffimpjjdhnajaa", sum := "a1719ca3d69c059534616030f42c3944936452b1c3b5a466e4a03ae348323c43", func := "tender/tenderlaw27.ChooseLeaves", spec := "chooseLeaves", inPlace := ["internal/bytealg.IndexByteString", "internal/bytealg.IndexString"], unfollowed := true, recurses := true, named := ["internal/bytealg.MaxLen"], apart := false }
def ChooseLeavesSaid : Prop := chooseLeavesRow.holds Try.pinned (OpenSpec.ofChange chooseLeavesSpec)

/-- ITS FALSE NEIGHBOUR: 'it returns false'. Refute it at one input. -/
def chooseLeavesWrong : ChangeSpec := { name := "chooseLeaves", fn := fun _ => fun
  | [d1, d2] => { results := [.lit (.bool false)], args := [d1, d2] }
  | _ => none }
def ChooseLeavesWrongFalsely : Prop := chooseLeavesRow.holds Try.pinned (OpenSpec.ofChange chooseLeavesWrong)

/-- 'tenderlaw27.ChooseTells': WHATEVER THE INPUT: true; the input reads as it did. -/
def chooseTellsSpec : ChangeSpec := { name := "chooseTells", fn := fun _ => fun
  | [d1, d2, d3] => { results := [.lit (.bool true)], args := [d1, d2, d3] }
  | _ => none }
def chooseTellsRow : OpenClaim := { program := "ytffimpjjdhnajaa", sum := "a1719ca3d69c059534616030f42c3944936452b1c3b5a466e4a03ae348323c43", func := "tender/tenderlaw27.ChooseTells", spec := "chooseTells", inPlace := ["internal/bytealg.IndexByteString", "internal/bytealg.IndexString"], unfollowed := true, recurses := true, named := ["internal/bytealg.MaxLen"], apart := false }
def ChooseTellsSaid : Prop := chooseTellsRow.holds Try.pinned (OpenSpec.ofChange chooseTellsSpec)

/-- ITS FALSE NEIGHBOUR: 'it returns false'. Refute it at one input. -/
def chooseTellsWrong : ChangeSpec := { name := "chooseTells", fn := fun _ => fun
  | [d1, d2, d3] => { results := [.lit (.bool false)], args := [d1, d2, d3] }
  | _ => none }
def ChooseTellsWrongFalsely : Prop := chooseTellsRow.holds Try.pinned (OpenSpec.ofChange chooseTellsWrong)

/-- 'tenderlaw28.OrderPlans': WHATEVER THE INPUT: true; the input reads as it did. -/
def orderPlansSpec : ChangeSpec := { name := "orderPlans", fn := fun _ => fun
  | [d] => { results := [.lit (.bool true)], args := [d] }
  | _ => none }
def orderPlansRow : OpenClaim := { program := "ytffimpjjdhnajaa", sum := "a1719ca3d69c059534616030f42c3944936452b1c3b5a466e4a03ae348323c43", func := "tender/tenderlaw28.OrderPlans", spec := "orderPlans", inPlace := ["internal/bytealg.IndexByteString", "internal/bytealg.IndexString"], unfollowed := true, recurses := true, named := ["internal/bytealg.MaxLen"], apart := false }
def OrderPlansSaid : Prop := orderPlansRow.holds Try.pinned (OpenSpec.ofChange orderPlansSpec)

/-- ITS FALSE NEIGHBOUR: 'it returns false'. Refute it at one input. -/
def orderPlansWrong : ChangeSpec := { name := "orderPlans", fn := fun _ => fun
  | [d] => { results := [.lit (.bool false)], args := [d] }
  | _ => none }
def OrderPlansWrongFalsely : Prop := orderPlansRow.holds Try.pinned (OpenSpec.ofChange orderPlansWrong)

/- THE SECOND FORM. 'bulk': how many values and letters a reading holds, each counted each time it is reached (what is shared counts as often as it is met; a slice's spare places count too). A statement '..UptoSaid' is the law's where the arguments, and the package variables that the reading takes, are together of bulk at most 1048576: NARROWER than '..Said'. Prove '..Said' where nothing that the law and all that it calls make is longer than what came in: it says more and counts as full. Else prove '..UptoSaid'. A law counts once. -/
mutual
def uptoBulk {H : Type} : DataW H → Nat
  | .lit (.string bytes) => bytes.length + 1
  | .lit _ => 1
  | .nil => 1
  | .ptr d => uptoBulk d + 1
  | .slice elems spare => uptoBulkAll elems + uptoBulkAll spare + 1
  | .agg parts => uptoBulkAll parts + 1
  | .iface _ d => uptoBulk d + 1
  | .map entries => uptoBulkEntries entries + 1
  | .held _ => 1
def uptoBulkAll {H : Type} : List (DataW H) → Nat
  | [] => 0
  | d :: r => uptoBulk d + uptoBulkAll r
def uptoBulkEntries {H : Type} : List (Lit × DataW H) → Nat
  | [] => 0
  | x :: r => uptoBulkEntry x + uptoBulkEntries r
def uptoBulkEntry {H : Type} : Lit × DataW H → Nat
  | (.string bytes, d) => bytes.length + uptoBulk d + 1
  | (_, d) => uptoBulk d + 1
 end
def uptoSmall : (H : Type) → List (DataW H) → Bool := fun _ ds => decide (uptoBulkAll ds ≤ 1048576)
def OpenSpec.upto (s : _root_.Go.ChangeSpec) : _root_.Go.OpenSpec := { _root_.Go.OpenSpec.ofChange s with cond := some uptoSmall }

/-- 'tenderlaw03.NameOrders', WHERE WHAT IT READS IS OF BULK AT MOST 1048576: true; the input reads as it did. -/
def nameOrdersUptoRow : OpenClaim := { program := "ytffimpjjdhnajaa", sum := "a1719ca3d69c059534616030f42c3944936452b1c3b5a466e4a03ae348323c43", func := "tender/tenderlaw03.NameOrders", spec := "nameOrders", inPlace := ["internal/bytealg.IndexByteString", "internal/bytealg.IndexString"], unfollowed := true, recurses := true, named := ["internal/bytealg.MaxLen"], apart := false, narrowed := true }
def NameOrdersUptoSaid : Prop := nameOrdersUptoRow.holds Try.pinned (OpenSpec.upto nameOrdersSpec)

/-- 'tenderlaw03.NameMoves', WHERE WHAT IT READS IS OF BULK AT MOST 1048576: true; the input reads as it did. -/
def nameMovesUptoRow : OpenClaim := { program := "ytffimpjjdhnajaa", sum := "a1719ca3d69c059534616030f42c3944936452b1c3b5a466e4a03ae348323c43", func := "tender/tenderlaw03.NameMoves", spec := "nameMoves", inPlace := ["internal/bytealg.IndexByteString", "internal/bytealg.IndexString"], unfollowed := true, recurses := true, named := ["internal/bytealg.MaxLen"], apart := false, narrowed := true }
def NameMovesUptoSaid : Prop := nameMovesUptoRow.holds Try.pinned (OpenSpec.upto nameMovesSpec)

/-- 'tenderlaw03.NameUps', WHERE WHAT IT READS IS OF BULK AT MOST 1048576: true; the input reads as it did. -/
def nameUpsUptoRow : OpenClaim := { program := "ytffimpjjdhnajaa", sum := "a1719ca3d69c059534616030f42c3944936452b1c3b5a466e4a03ae348323c43", func := "tender/tenderlaw03.NameUps", spec := "nameUps", inPlace := ["internal/bytealg.IndexByteString", "internal/bytealg.IndexString"], unfollowed := true, recurses := true, named := ["internal/bytealg.MaxLen"], apart := false, narrowed := true }
def NameUpsUptoSaid : Prop := nameUpsUptoRow.holds Try.pinned (OpenSpec.upto nameUpsSpec)

/-- 'tenderlaw03.NameChecks', WHERE WHAT IT READS IS OF BULK AT MOST 1048576: true; the input reads as it did. -/
def nameChecksUptoRow : OpenClaim := { program := "ytffimpjjdhnajaa", sum := "a1719ca3d69c059534616030f42c3944936452b1c3b5a466e4a03ae348323c43", func := "tender/tenderlaw03.NameChecks", spec := "nameChecks", inPlace := ["internal/bytealg.IndexByteString", "internal/bytealg.IndexString", "internal/abi.NoEscape", "internal/bytealg.MakeNoZero"], unfollowed := true, recurses := true, named := ["internal/bytealg.MaxLen"], apart := false, narrowed := true }
def NameChecksUptoSaid : Prop := nameChecksUptoRow.holds Try.pinned (OpenSpec.upto nameChecksSpec)

/-- 'tenderlaw26.FenceTurns', WHERE WHAT IT READS IS OF BULK AT MOST 1048576: true; the input reads as it did. -/
def fenceTurnsUptoRow : OpenClaim := { program := "ytffimpjjdhnajaa", sum := "a1719ca3d69c059534616030f42c3944936452b1c3b5a466e4a03ae348323c43", func := "tender/tenderlaw26.FenceTurns", spec := "fenceTurns", inPlace := ["internal/bytealg.IndexByteString", "internal/bytealg.IndexString"], unfollowed := true, recurses := true, named := ["internal/bytealg.MaxLen"], apart := false, narrowed := true }
def FenceTurnsUptoSaid : Prop := fenceTurnsUptoRow.holds Try.pinned (OpenSpec.upto fenceTurnsSpec)

/-- 'tenderlaw26.FenceCloses', WHERE WHAT IT READS IS OF BULK AT MOST 1048576: true; the input reads as it did. -/
def fenceClosesUptoRow : OpenClaim := { program := "ytffimpjjdhnajaa", sum := "a1719ca3d69c059534616030f42c3944936452b1c3b5a466e4a03ae348323c43", func := "tender/tenderlaw26.FenceCloses", spec := "fenceCloses", inPlace := ["internal/bytealg.IndexByteString", "internal/bytealg.IndexString"], unfollowed := true, recurses := true, named := ["internal/bytealg.MaxLen"], apart := false, narrowed := true }
def FenceClosesUptoSaid : Prop := fenceClosesUptoRow.holds Try.pinned (OpenSpec.upto fenceClosesSpec)

/-- 'tenderlaw26.FenceSound', WHERE WHAT IT READS IS OF BULK AT MOST 1048576: true; the input reads as it did. -/
def fenceSoundUptoRow : OpenClaim := { program := "ytffimpjjdhnajaa", sum := "a1719ca3d69c059534616030f42c3944936452b1c3b5a466e4a03ae348323c43", func := "tender/tenderlaw26.FenceSound", spec := "fenceSound", inPlace := ["internal/bytealg.IndexByteString", "internal/bytealg.IndexString"], unfollowed := true, recurses := true, named := ["internal/bytealg.MaxLen"], apart := false, narrowed := true }
def FenceSoundUptoSaid : Prop := fenceSoundUptoRow.holds Try.pinned (OpenSpec.upto fenceSoundSpec)

/-- 'tenderlaw27.ChooseApplies', WHERE WHAT IT READS IS OF BULK AT MOST 1048576: true; the input reads as it did. -/
def chooseAppliesUptoRow : OpenClaim := { program := "ytffimpjjdhnajaa", sum := "a1719ca3d69c059534616030f42c3944936452b1c3b5a466e4a03ae348323c43", func := "tender/tenderlaw27.ChooseApplies", spec := "chooseApplies", inPlace := ["internal/bytealg.IndexByteString", "internal/bytealg.IndexString"], unfollowed := true, recurses := true, named := ["internal/bytealg.MaxLen"], apart := false, narrowed := true }
def ChooseAppliesUptoSaid : Prop := chooseAppliesUptoRow.holds Try.pinned (OpenSpec.upto chooseAppliesSpec)

/-- 'tenderlaw27.ChooseLeaves', WHERE WHAT IT READS IS OF BULK AT MOST 1048576: true; the input reads as it did. -/
def chooseLeavesUptoRow : OpenClaim := { program := "ytffimpjjdhnajaa", sum := "a1719ca3d69c059534616030f42c3944936452b1c3b5a466e4a03ae348323c43", func := "tender/tenderlaw27.ChooseLeaves", spec := "chooseLeaves", inPlace := ["internal/bytealg.IndexByteString", "internal/bytealg.IndexString"], unfollowed := true, recurses := true, named := ["internal/bytealg.MaxLen"], apart := false, narrowed := true }
def ChooseLeavesUptoSaid : Prop := chooseLeavesUptoRow.holds Try.pinned (OpenSpec.upto chooseLeavesSpec)

/-- 'tenderlaw27.ChooseTells', WHERE WHAT IT READS IS OF BULK AT MOST 1048576: true; the input reads as it did. -/
def chooseTellsUptoRow : OpenClaim := { program := "ytffimpjjdhnajaa", sum := "a1719ca3d69c059534616030f42c3944936452b1c3b5a466e4a03ae348323c43", func := "tender/tenderlaw27.ChooseTells", spec := "chooseTells", inPlace := ["internal/bytealg.IndexByteString", "internal/bytealg.IndexString"], unfollowed := true, recurses := true, named := ["internal/bytealg.MaxLen"], apart := false, narrowed := true }
def ChooseTellsUptoSaid : Prop := chooseTellsUptoRow.holds Try.pinned (OpenSpec.upto chooseTellsSpec)

/-- 'tenderlaw28.OrderPlans', WHERE WHAT IT READS IS OF BULK AT MOST 1048576: true; the input reads as it did. -/
def orderPlansUptoRow : OpenClaim := { program := "ytffimpjjdhnajaa", sum := "a1719ca3d69c059534616030f42c3944936452b1c3b5a466e4a03ae348323c43", func := "tender/tenderlaw28.OrderPlans", spec := "orderPlans", inPlace := ["internal/bytealg.IndexByteString", "internal/bytealg.IndexString"], unfollowed := true, recurses := true, named := ["internal/bytealg.MaxLen"], apart := false, narrowed := true }
def OrderPlansUptoSaid : Prop := orderPlansUptoRow.holds Try.pinned (OpenSpec.upto orderPlansSpec)

end Rows
end Go.Proofs.Ytffimpjjdhnajaa
