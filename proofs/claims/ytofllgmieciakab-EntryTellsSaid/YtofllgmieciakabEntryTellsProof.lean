/- EntryTells is true for every input: whether any entry is right, and the same as another one, or newer, and its row, is the document's; a clone shares nothing with it. No condition beyond the row's own. -/
import Derived.Test.YtofllgmieciakabEntryTells
import Derived.Test.YtofllgmieciakabOpenEnt
namespace Go.Proofs.Ytofllgmieciakab
open Go.RowKit Go.WideShapes Go.ChangeShapes Go.ChangeAt

set_option maxRecDepth 100000 in
theorem entryTells_lifted (os : Os) (started : os.Started) (H : Type) (enc : TypeId × Value → H) :
    ReturnsInHanded {} Try.checked os 6 .any (Rows.entryTellsSpec.pre6 enc Try.prog Try.f6 Rows.entryTellsRow.domain false) (Rows.entryTellsSpec.post enc Try.prog Try.f6 false true false false) := by
  refine law_lift started (by kernel_rfl) Try.func6 (by kernel_rfl) rfl ?_ ?_
    (ChangeSpec.witness6 (enc := enc) (C := Try.checked) false ⟨#[], #[.agg #[.string ⟨#[]⟩, .int .u64 0, .int .i64 0, .slice none 0 0], .agg #[.string ⟨#[]⟩, .int .u64 0, .int .i64 0, .slice none 0 0]], []⟩ 8 (by kernel_rfl) (by kernel_rfl) (by kernel_rfl) (by kernel_rfl)) ?_
  · rw [Try.params6]
    intro t ht
    exact law_reads (by kernel_rfl) t ht
  · rw [Try.params6]
    intro ds hds
    match ds, hds with
    | [d1, d2], _ => rfl
  · intro W base args ds ps hval hA hlt hsz
    rw [Try.params6] at hA hval hsz
    obtain ⟨v0, v1, d0, d1, p0, p1, rfl, rfl, rfl, h0, h1⟩ := trodAll_two hA
    obtain ⟨a, rfl, ha⟩ := open_entv (hval 0 58 v0 rfl rfl) h0 (within_of (j := 0) hsz rfl rfl)
    obtain ⟨b, rfl, hb⟩ := open_entv (hval 1 58 v1 rfl rfl) h1 (within_of (j := 1) hsz rfl rfl)
    exact entryTells_any a b W ha hb


theorem entryTells_holds : Rows.EntryTellsSaid :=
  OpenClaim.holds_of_wide 6 Try.f6 rfl rfl rfl rfl rfl rfl rfl ⟨rfl, rfl, rfl, rfl, rfl⟩ rfl rfl rfl rfl rfl (by kernel_rfl) Try.func6 (by kernel_rfl)
    (of_decide_eq_true (by kernel_rfl)) (by unfold Func.isWrapper; rw [if_neg (of_decide_eq_false (by kernel_rfl))]; exact ⟨rfl, rfl⟩)
    (fun os started H enc _ => entryTells_lifted os started H enc)
end Go.Proofs.Ytofllgmieciakab
