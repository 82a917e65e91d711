/- NameMoves is true for every input: where any path stands, once another one was moved, is the document's. No condition beyond the row's own. -/
import Derived.Test.YtffimpjjdhnajaaNameMoves
import Derived.Test.YtffimpjjdhnajaaOpenStr
namespace Go.Proofs.Ytffimpjjdhnajaa
open Go.RowKit Go.WideShapes Go.ChangeShapes Go.ChangeAt Go.ChangeMaps

set_option maxRecDepth 100000 in
theorem nameMoves_lifted (os : Os) (started : os.Started) (H : Type) (enc : TypeId × Value → H) :
    ReturnsInHanded {} Try.checked os 4 .any (Rows.nameMovesSpec.pre6 enc Try.prog Try.f4 Rows.nameMovesRow.domain false) (Rows.nameMovesSpec.post enc Try.prog Try.f4 false true false false) := by
  refine law_lift started (by kernel_rfl) Try.func4 (by kernel_rfl) rfl ?_ ?_
    (ChangeSpec.witness6 (enc := enc) (C := Try.checked) false ⟨#[], #[.string ⟨#[]⟩, .string ⟨#[]⟩, .string ⟨#[]⟩], []⟩ 8 (by kernel_rfl) (by kernel_rfl) (by kernel_rfl) (by kernel_rfl)) ?_
  · rw [Try.params4]
    intro t ht
    exact law_reads (by kernel_rfl) t ht
  · rw [Try.params4]
    intro ds hds
    match ds, hds with
    | [d1, d2, d3], _ => rfl
  · intro W base args ds ps hval hA hlt hsz
    rw [Try.params4] at hA hval hsz
    obtain ⟨v0, v1, v2, d0, d1, d2, p0, p1, p2, rfl, rfl, rfl, h0, h1, h2⟩ := trodAll_three hA
    obtain ⟨a, rfl, ha⟩ := open_str (hval 0 9 v0 rfl rfl) h0 (within_of (j := 0) hsz rfl rfl)
    obtain ⟨b, rfl, hb⟩ := open_str (hval 1 9 v1 rfl rfl) h1 (within_of (j := 1) hsz rfl rfl)
    obtain ⟨c, rfl, hc⟩ := open_str (hval 2 9 v2 rfl rfl) h2 (within_of (j := 2) hsz rfl rfl)
    exact nameMoves_any a b c ha hb hc W


theorem nameMoves_holds : Rows.NameMovesSaid :=
  OpenClaim.holds_of_wide 4 Try.f4 rfl rfl rfl rfl rfl rfl rfl ⟨rfl, rfl, rfl, rfl, rfl⟩ rfl rfl rfl rfl rfl (by kernel_rfl) Try.func4 (by kernel_rfl)
    (of_decide_eq_true (by kernel_rfl)) (by unfold Func.isWrapper; rw [if_neg (of_decide_eq_false (by kernel_rfl))]; exact ⟨rfl, rfl⟩)
    (fun os started H enc _ => nameMoves_lifted os started H enc)
end Go.Proofs.Ytffimpjjdhnajaa
