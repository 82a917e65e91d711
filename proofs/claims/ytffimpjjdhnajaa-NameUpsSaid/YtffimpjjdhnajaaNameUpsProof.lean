/- NameUps is true for every input: the parent of any path, all paths above it, and whether it is under another one, are the document's. No condition beyond the row's own. -/
import Derived.Test.YtffimpjjdhnajaaNameUps
import Derived.Test.YtffimpjjdhnajaaOpenStr
namespace Go.Proofs.Ytffimpjjdhnajaa
open Go.RowKit Go.WideShapes Go.ChangeShapes Go.ChangeAt Go.ChangeMaps

set_option maxRecDepth 100000 in
theorem nameUps_lifted (os : Os) (started : os.Started) (H : Type) (enc : TypeId × Value → H) :
    ReturnsInHanded {} Try.checked os 5 .any (Rows.nameUpsSpec.pre6 enc Try.prog Try.f5 Rows.nameUpsRow.domain false) (Rows.nameUpsSpec.post enc Try.prog Try.f5 false true false false) := by
  refine law_lift started (by kernel_rfl) Try.func5 (by kernel_rfl) rfl ?_ ?_
    (ChangeSpec.witness6 (enc := enc) (C := Try.checked) false ⟨#[], #[.string ⟨#[]⟩, .string ⟨#[]⟩], []⟩ 8 (by kernel_rfl) (by kernel_rfl) (by kernel_rfl) (by kernel_rfl)) ?_
  · rw [Try.params5]
    intro t ht
    exact law_reads (by kernel_rfl) t ht
  · rw [Try.params5]
    intro ds hds
    match ds, hds with
    | [d1, d2], _ => rfl
  · intro W base args ds ps hval hA hlt hsz
    rw [Try.params5] at hA hval hsz
    obtain ⟨v0, v1, d0, d1, p0, p1, rfl, rfl, rfl, h0, h1⟩ := trodAll_two hA
    obtain ⟨a, rfl, ha⟩ := open_str (hval 0 9 v0 rfl rfl) h0 (within_of (j := 0) hsz rfl rfl)
    obtain ⟨b, rfl, hb⟩ := open_str (hval 1 9 v1 rfl rfl) h1 (within_of (j := 1) hsz rfl rfl)
    exact nameUps_any a b ha hb W


theorem nameUps_holds : Rows.NameUpsSaid :=
  OpenClaim.holds_of_wide 5 Try.f5 rfl rfl rfl rfl rfl rfl rfl ⟨rfl, rfl, rfl, rfl, rfl⟩ rfl rfl rfl rfl rfl (by kernel_rfl) Try.func5 (by kernel_rfl)
    (of_decide_eq_true (by kernel_rfl)) (by unfold Func.isWrapper; rw [if_neg (of_decide_eq_false (by kernel_rfl))]; exact ⟨rfl, rfl⟩)
    (fun os started H enc _ => nameUps_lifted os started H enc)
end Go.Proofs.Ytffimpjjdhnajaa
