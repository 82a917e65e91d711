/-
  DERIVED. GIVEN WITH THE SEED: THE CARDS: each row of YtjcfphdjgagimaaGreatDoorRows.lean that lists a variable, with what it lists TIED to the program's text (the seventh form; the later family's looks); each row that meets fmt, with fmt's text TOLD by the authors' own Lean function (tested against real Go, not proved from fmt's source: count such statements apart). THE CARD IS WHAT COUNTS. Prove the row's statement (the work); the ties are given (YtjcfphdjgagimaaGreatDoorTie.lean); close each card by the builder's one call (the guide's Derived/Test/ToyasCard.lean, 'card_holds'). Laid BY PROGRAM, IN A SANDBOX (cutbox-door.mjs). By AI agents, Wed Nov 11 2026. No macro, syntax, notation, axiom, sorry.
-/
import Derived.Test.YtjcfphdjgagimaaGreatDoorRows
import GoSem.ClaimSeven
namespace Go.Proofs.YtjcfphdjgagimaaGreatDoor
namespace Rows

/-- THE TIED CARD OF 'tenderlaw09.CanonWrites'. -/
def canonWritesCard : Claim7 := { stood := { row := canonWritesRow, standIns := [], harness := (true, "1d943500e676efa8a1db45c6e6fd483dce6573ec8f75c82baf5efeabc188c903"), looks := false }, kinds := [], alts := [], laidByText := true, laidKinds := [.data, .data], laidTests := true, laidLooks := .later }
def CanonWritesCardSaid : Prop := Claim7.holds Tryz.pinned (.plain (OpenSpec.ofChange canonWritesSpec)) canonWritesCard

/-- THE TIED CARD OF 'tenderlaw09.CanonAt'. -/
def canonAtCard : Claim7 := { stood := { row := canonAtRow, standIns := [], harness := (true, "1d943500e676efa8a1db45c6e6fd483dce6573ec8f75c82baf5efeabc188c903"), looks := false }, kinds := [], alts := [], laidByText := true, laidKinds := [.data, .data], laidTests := true, laidLooks := .later }
def CanonAtCardSaid : Prop := Claim7.holds Tryz.pinned (.plain (OpenSpec.ofChange canonAtSpec)) canonAtCard

/-- THE SECOND FORM's CARD OF 'tenderlaw09.CanonWrites'. -/
def canonWritesUptoCard : Claim7 := { stood := { row := canonWritesUptoRow, standIns := [], harness := (true, "1d943500e676efa8a1db45c6e6fd483dce6573ec8f75c82baf5efeabc188c903"), looks := false }, kinds := [], alts := [], laidByText := true, laidKinds := [.data, .data], laidTests := true, laidLooks := .later }
def CanonWritesUptoCardSaid : Prop := Claim7.holds Tryz.pinned (.plain (OpenSpec.upto canonWritesSpec)) canonWritesUptoCard

/-- THE SECOND FORM's CARD OF 'tenderlaw09.CanonAt'. -/
def canonAtUptoCard : Claim7 := { stood := { row := canonAtUptoRow, standIns := [], harness := (true, "1d943500e676efa8a1db45c6e6fd483dce6573ec8f75c82baf5efeabc188c903"), looks := false }, kinds := [], alts := [], laidByText := true, laidKinds := [.data, .data], laidTests := true, laidLooks := .later }
def CanonAtUptoCardSaid : Prop := Claim7.holds Tryz.pinned (.plain (OpenSpec.upto canonAtSpec)) canonAtUptoCard
end Rows
end Go.Proofs.YtjcfphdjgagimaaGreatDoor
