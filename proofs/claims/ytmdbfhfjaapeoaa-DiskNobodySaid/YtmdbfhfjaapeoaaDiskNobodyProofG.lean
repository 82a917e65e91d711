/- DiskNobody is true for every input: a disk that is none does nothing. No condition beyond the row's own. -/
import Derived.Test.YtmdbfhfjaapeoaaA05

namespace Go.Proofs.Ytmdbfhfjaapeoaa
open Go.RowKit Go.WideShapes Go.ChangeShapes Go.ChangeAt

set_option maxRecDepth 100000 in
theorem diskNobody_lifted (os : Os) (started : os.Started) (H : Type) (enc : TypeId × Value → H) :
    ReturnsInHanded {} Try.checked os 5 .any (Rows.diskNobodySpec.pre6 enc Try.prog Try.f5 Rows.diskNobodyRow.domain false) (Rows.diskNobodySpec.post enc Try.prog Try.f5 false true false false) := by
  refine law_lift started (by kernel_rfl) Try.func5 (by kernel_rfl) rfl ?_ ?_
    (ChangeSpec.witness6 (enc := enc) (C := Try.checked) false ⟨#[], #[.agg #[.int .i64 0, .int .i64 0, .int .i64 0, .slice none 0 0, .slice none 0 0]], []⟩ 8 (by kernel_rfl) (by kernel_rfl) (by kernel_rfl) (by kernel_rfl)) ?_
  · rw [Try.params5]
    intro t ht
    exact law_reads (by kernel_rfl) t ht
  · rw [Try.params5]
    intro ds hds
    match ds, hds with
    | [d1], _ => rfl
  · intro W base args ds ps hval hA hlt hsz
    rw [Try.params5] at hA hval hsz
    obtain ⟨v0, d0, rfl, rfl, h0⟩ := trodAll_one hA
    obtain ⟨o, rfl, ho⟩ := open_opDv (hval 0 35 v0 rfl rfl) h0 (within_of (j := 0) hsz rfl rfl)
    exact diskNobody_any o W ho


theorem diskNobody_holds : Rows.DiskNobodySaid :=
  OpenClaim.holds_of_wide 5 Try.f5 rfl rfl rfl rfl rfl rfl rfl ⟨rfl, rfl, rfl, rfl, rfl⟩ rfl rfl rfl rfl rfl (by kernel_rfl) Try.func5 (by kernel_rfl)
    (of_decide_eq_true (by kernel_rfl)) (by unfold Func.isWrapper; rw [if_neg (of_decide_eq_false (by kernel_rfl))]; exact ⟨rfl, rfl⟩)
    (fun os started H enc _ => diskNobody_lifted os started H enc)
end Go.Proofs.Ytmdbfhfjaapeoaa
