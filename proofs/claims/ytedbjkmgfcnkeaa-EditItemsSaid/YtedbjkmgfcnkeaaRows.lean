/-
  No cell of these rows narrows 'for every input' (looked for: loops, veiled, ifaces, maps, wideKeys, modest, calm, conditions, laid).
  DERIVED. THE GIVEN ROWS OF THIS SEAT. 6 by the template 'for every input the law returns true; each argument reads behind the call as it read before'; 0 by the template 'total and deterministic' (their statements: YtedbjkmgfcnkeaaTotals.lean).
  GIVEN WITH THE SEED: the statements are not yours to turn. If you find one false, say at which input.
  Laid BY PROGRAM, IN A SANDBOX (cutbox-rows.mjs): the forced cells as the released guide's own fill.sh prints them over the translation 49c282806a75b4fa… (all of the seat's roots in one cut). By AI agents, Wed Nov 11 2026. No macro, syntax, notation, axiom, sorry.
-/
import Derived.Test.YtedbjkmgfcnkeaaChecked
import GoSem.Claim
import GoSem.ClaimJoined
import GoSem.ClaimMapViews
import Derived.JoinedTies
import Derived.KernelRfl
namespace Go.Proofs.Ytedbjkmgfcnkeaa
/- THE CELL 'sum', in the pinned program and in every row, IS THE sha256 OF THE DUMP (.gsa) THAT YtedbjkmgfcnkeaaProg.lean LOADS. Nothing in Lean hashes anything: it is a label: what it is worth is what the hold of that sum in a sandbox is worth. -/
noncomputable def Try.pinned : Pinned := { name := "ytedbjkmgfcnkeaa", sum := "49c282806a75b4fa49e0894437e56797dd755f5712ab3f29db901ca543db3bf7", checked := Try.checked }
namespace Rows
def none {H : Type} : Left H := { results := [], args := [] }

/-- 'tenderlaw08.TreeNews': WHATEVER THE INPUT: true; the input reads as it did. -/
def treeNewsSpec : ChangeSpec := { name := "treeNews", fn := fun _ => fun
  | [d] => { results := [.lit (.bool true)], args := [d] }
  | _ => none }
def treeNewsRow : OpenClaim := { program := "ytedbjkmgfcnkeaa", sum := "49c282806a75b4fa49e0894437e56797dd755f5712ab3f29db901ca543db3bf7", func := "tender/tenderlaw08.TreeNews", spec := "treeNews", inPlace := ["internal/bytealg.IndexByteString", "internal/bytealg.IndexString"], unfollowed := true, recurses := true, named := ["internal/bytealg.MaxLen"], apart := false }
def TreeNewsSaid : Prop := treeNewsRow.holds Try.pinned (OpenSpec.ofChange treeNewsSpec)

/-- ITS FALSE NEIGHBOUR: 'it returns false'. Refute it at one input. -/
def treeNewsWrong : ChangeSpec := { name := "treeNews", fn := fun _ => fun
  | [d] => { results := [.lit (.bool false)], args := [d] }
  | _ => none }
def TreeNewsWrongFalsely : Prop := treeNewsRow.holds Try.pinned (OpenSpec.ofChange treeNewsWrong)

/-- 'tenderlaw08.TreePlays': WHATEVER THE INPUT: true; the input reads as it did. -/
def treePlaysSpec : ChangeSpec := { name := "treePlays", fn := fun _ => fun
  | [d1, d2] => { results := [.lit (.bool true)], args := [d1, d2] }
  | _ => none }
def treePlaysRow : OpenClaim := { program := "ytedbjkmgfcnkeaa", sum := "49c282806a75b4fa49e0894437e56797dd755f5712ab3f29db901ca543db3bf7", func := "tender/tenderlaw08.TreePlays", spec := "treePlays", inPlace := ["internal/bytealg.IndexByteString", "internal/bytealg.IndexString"], unfollowed := true, recurses := true, named := ["internal/bytealg.MaxLen"], apart := false }
def TreePlaysSaid : Prop := treePlaysRow.holds Try.pinned (OpenSpec.ofChange treePlaysSpec)

/-- ITS FALSE NEIGHBOUR: 'it returns false'. Refute it at one input. -/
def treePlaysWrong : ChangeSpec := { name := "treePlays", fn := fun _ => fun
  | [d1, d2] => { results := [.lit (.bool false)], args := [d1, d2] }
  | _ => none }
def TreePlaysWrongFalsely : Prop := treePlaysRow.holds Try.pinned (OpenSpec.ofChange treePlaysWrong)

/-- 'tenderlaw08.TreeDiffs': WHATEVER THE INPUT: true; the input reads as it did. -/
def treeDiffsSpec : ChangeSpec := { name := "treeDiffs", fn := fun _ => fun
  | [d1, d2] => { results := [.lit (.bool true)], args := [d1, d2] }
  | _ => none }
def treeDiffsRow : OpenClaim := { program := "ytedbjkmgfcnkeaa", sum := "49c282806a75b4fa49e0894437e56797dd755f5712ab3f29db901ca543db3bf7", func := "tender/tenderlaw08.TreeDiffs", spec := "treeDiffs", inPlace := ["internal/bytealg.IndexByteString", "internal/bytealg.IndexString"], unfollowed := true, recurses := true, named := ["internal/bytealg.MaxLen"], apart := false }
def TreeDiffsSaid : Prop := treeDiffsRow.holds Try.pinned (OpenSpec.ofChange treeDiffsSpec)

/-- ITS FALSE NEIGHBOUR: 'it returns false'. Refute it at one input. -/
def treeDiffsWrong : ChangeSpec := { name := "treeDiffs", fn := fun _ => fun
  | [d1, d2] => { results := [.lit (.bool false)], args := [d1, d2] }
  | _ => none }
def TreeDiffsWrongFalsely : Prop := treeDiffsRow.holds Try.pinned (OpenSpec.ofChange treeDiffsWrong)

/-- 'tenderlaw08.TreeApart': WHATEVER THE INPUT: true; the input reads as it did. -/
def treeApartSpec : ChangeSpec := { name := "treeApart", fn := fun _ => fun
  | [d1, d2, d3] => { results := [.lit (.bool true)], args := [d1, d2, d3] }
  | _ => none }
def treeApartRow : OpenClaim := { program := "ytedbjkmgfcnkeaa", sum := "49c282806a75b4fa49e0894437e56797dd755f5712ab3f29db901ca543db3bf7", func := "tender/tenderlaw08.TreeApart", spec := "treeApart", inPlace := ["internal/bytealg.IndexByteString", "internal/bytealg.IndexString", "maps.clone"], unfollowed := true, recurses := true, named := ["internal/bytealg.MaxLen"], apart := false }
def TreeApartSaid : Prop := treeApartRow.holds Try.pinned (OpenSpec.ofChange treeApartSpec)

/-- ITS FALSE NEIGHBOUR: 'it returns false'. Refute it at one input. -/
def treeApartWrong : ChangeSpec := { name := "treeApart", fn := fun _ => fun
  | [d1, d2, d3] => { results := [.lit (.bool false)], args := [d1, d2, d3] }
  | _ => none }
def TreeApartWrongFalsely : Prop := treeApartRow.holds Try.pinned (OpenSpec.ofChange treeApartWrong)

/-- 'tenderlaw10.EditItems': WHATEVER THE INPUT: true; the input reads as it did. -/
def editItemsSpec : ChangeSpec := { name := "editItems", fn := fun _ => fun
  | [d1, d2] => { results := [.lit (.bool true)], args := [d1, d2] }
  | _ => none }
def editItemsRow : OpenClaim := { program := "ytedbjkmgfcnkeaa", sum := "49c282806a75b4fa49e0894437e56797dd755f5712ab3f29db901ca543db3bf7", func := "tender/tenderlaw10.EditItems", spec := "editItems", inPlace := ["internal/bytealg.IndexByteString", "internal/bytealg.IndexString", "maps.clone"], unfollowed := true, recurses := true, named := ["internal/bytealg.MaxLen"], apart := false }
def EditItemsSaid : Prop := editItemsRow.holds Try.pinned (OpenSpec.ofChange editItemsSpec)

/-- ITS FALSE NEIGHBOUR: 'it returns false'. Refute it at one input. -/
def editItemsWrong : ChangeSpec := { name := "editItems", fn := fun _ => fun
  | [d1, d2] => { results := [.lit (.bool false)], args := [d1, d2] }
  | _ => none }
def EditItemsWrongFalsely : Prop := editItemsRow.holds Try.pinned (OpenSpec.ofChange editItemsWrong)

/-- 'tenderlaw28.OrderApplies': WHATEVER THE INPUT: true; the input reads as it did. -/
def orderAppliesSpec : ChangeSpec := { name := "orderApplies", fn := fun _ => fun
  | [d1, d2, d3] => { results := [.lit (.bool true)], args := [d1, d2, d3] }
  | _ => none }
def orderAppliesRow : OpenClaim := { program := "ytedbjkmgfcnkeaa", sum := "49c282806a75b4fa49e0894437e56797dd755f5712ab3f29db901ca543db3bf7", func := "tender/tenderlaw28.OrderApplies", spec := "orderApplies", inPlace := ["internal/bytealg.IndexByteString", "internal/bytealg.IndexString", "maps.clone"], unfollowed := true, recurses := true, named := ["internal/bytealg.MaxLen"], apart := false }
def OrderAppliesSaid : Prop := orderAppliesRow.holds Try.pinned (OpenSpec.ofChange orderAppliesSpec)

/-- ITS FALSE NEIGHBOUR: 'it returns false'. Refute it at one input. -/
def orderAppliesWrong : ChangeSpec := { name := "orderApplies", fn := fun _ => fun
  | [d1, d2, d3] => { results := [.lit (.bool false)], args := [d1, d2, d3] }
  | _ => none }
def OrderAppliesWrongFalsely : Prop := orderAppliesRow.holds Try.pinned (OpenSpec.ofChange orderAppliesWrong)

/- THE SECOND FORM. 'bulk': how many values and letters a reading holds, each counted each time it is reached (what is shared counts as often as it is met; a slice's spare places count too). A statement '..UptoSaid' is the law's where the arguments, and the package variables that the reading takes, are together of bulk at most 1048576: NARROWER than '..Said'. Prove '..Said' where nothing that the law and all that it calls make is longer than what came in: it says more and counts as full. Else prove '..UptoSaid'. A law counts once. -/
mutual
def uptoBulk {H : Type} : DataW H → Nat
  | .lit (.string bytes) => bytes.length + 1
  | .lit _ => 1
  | .nil => 1
  | .ptr d => uptoBulk d + 1
  | .slice elems spare => uptoBulkAll elems + uptoBulkAll spare + 1
  | .agg parts => uptoBulkAll parts + 1
  | .iface _ d => uptoBulk d + 1
  | .map entries => uptoBulkEntries entries + 1
  | .held _ => 1
def uptoBulkAll {H : Type} : List (DataW H) → Nat
  | [] => 0
  | d :: r => uptoBulk d + uptoBulkAll r
def uptoBulkEntries {H : Type} : List (Lit × DataW H) → Nat
  | [] => 0
  | x :: r => uptoBulkEntry x + uptoBulkEntries r
def uptoBulkEntry {H : Type} : Lit × DataW H → Nat
  | (.string bytes, d) => bytes.length + uptoBulk d + 1
  | (_, d) => uptoBulk d + 1
 end
def uptoSmall : (H : Type) → List (DataW H) → Bool := fun _ ds => decide (uptoBulkAll ds ≤ 1048576)
def OpenSpec.upto (s : _root_.Go.ChangeSpec) : _root_.Go.OpenSpec := { _root_.Go.OpenSpec.ofChange s with cond := some uptoSmall }

/-- 'tenderlaw08.TreeNews', WHERE WHAT IT READS IS OF BULK AT MOST 1048576: true; the input reads as it did. -/
def treeNewsUptoRow : OpenClaim := { program := "ytedbjkmgfcnkeaa", sum := "49c282806a75b4fa49e0894437e56797dd755f5712ab3f29db901ca543db3bf7", func := "tender/tenderlaw08.TreeNews", spec := "treeNews", inPlace := ["internal/bytealg.IndexByteString", "internal/bytealg.IndexString"], unfollowed := true, recurses := true, named := ["internal/bytealg.MaxLen"], apart := false, narrowed := true }
def TreeNewsUptoSaid : Prop := treeNewsUptoRow.holds Try.pinned (OpenSpec.upto treeNewsSpec)

/-- 'tenderlaw08.TreePlays', WHERE WHAT IT READS IS OF BULK AT MOST 1048576: true; the input reads as it did. -/
def treePlaysUptoRow : OpenClaim := { program := "ytedbjkmgfcnkeaa", sum := "49c282806a75b4fa49e0894437e56797dd755f5712ab3f29db901ca543db3bf7", func := "tender/tenderlaw08.TreePlays", spec := "treePlays", inPlace := ["internal/bytealg.IndexByteString", "internal/bytealg.IndexString"], unfollowed := true, recurses := true, named := ["internal/bytealg.MaxLen"], apart := false, narrowed := true }
def TreePlaysUptoSaid : Prop := treePlaysUptoRow.holds Try.pinned (OpenSpec.upto treePlaysSpec)

/-- 'tenderlaw08.TreeDiffs', WHERE WHAT IT READS IS OF BULK AT MOST 1048576: true; the input reads as it did. -/
def treeDiffsUptoRow : OpenClaim := { program := "ytedbjkmgfcnkeaa", sum := "49c282806a75b4fa49e0894437e56797dd755f5712ab3f29db901ca543db3bf7", func := "tender/tenderlaw08.TreeDiffs", spec := "treeDiffs", inPlace := ["internal/bytealg.IndexByteString", "internal/bytealg.IndexString"], unfollowed := true, recurses := true, named := ["internal/bytealg.MaxLen"], apart := false, narrowed := true }
def TreeDiffsUptoSaid : Prop := treeDiffsUptoRow.holds Try.pinned (OpenSpec.upto treeDiffsSpec)

/-- 'tenderlaw08.TreeApart', WHERE WHAT IT READS IS OF BULK AT MOST 1048576: true; the input reads as it did. -/
def treeApartUptoRow : OpenClaim := { program := "ytedbjkmgfcnkeaa", sum := "49c282806a75b4fa49e0894437e56797dd755f5712ab3f29db901ca543db3bf7", func := "tender/tenderlaw08.TreeApart", spec := "treeApart", inPlace := ["internal/bytealg.IndexByteString", "internal/bytealg.IndexString", "maps.clone"], unfollowed := true, recurses := true, named := ["internal/bytealg.MaxLen"], apart := false, narrowed := true }
def TreeApartUptoSaid : Prop := treeApartUptoRow.holds Try.pinned (OpenSpec.upto treeApartSpec)

/-- 'tenderlaw10.EditItems', WHERE WHAT IT READS IS OF BULK AT MOST 1048576: true; the input reads as it did. -/
def editItemsUptoRow : OpenClaim := { program := "ytedbjkmgfcnkeaa", sum := "49c282806a75b4fa49e0894437e56797dd755f5712ab3f29db901ca543db3bf7", func := "tender/tenderlaw10.EditItems", spec := "editItems", inPlace := ["internal/bytealg.IndexByteString", "internal/bytealg.IndexString", "maps.clone"], unfollowed := true, recurses := true, named := ["internal/bytealg.MaxLen"], apart := false, narrowed := true }
def EditItemsUptoSaid : Prop := editItemsUptoRow.holds Try.pinned (OpenSpec.upto editItemsSpec)

/-- 'tenderlaw28.OrderApplies', WHERE WHAT IT READS IS OF BULK AT MOST 1048576: true; the input reads as it did. -/
def orderAppliesUptoRow : OpenClaim := { program := "ytedbjkmgfcnkeaa", sum := "49c282806a75b4fa49e0894437e56797dd755f5712ab3f29db901ca543db3bf7", func := "tender/tenderlaw28.OrderApplies", spec := "orderApplies", inPlace := ["internal/bytealg.IndexByteString", "internal/bytealg.IndexString", "maps.clone"], unfollowed := true, recurses := true, named := ["internal/bytealg.MaxLen"], apart := false, narrowed := true }
def OrderAppliesUptoSaid : Prop := orderAppliesUptoRow.holds Try.pinned (OpenSpec.upto orderAppliesSpec)

end Rows
end Go.Proofs.Ytedbjkmgfcnkeaa
