/- OrderPlans is true for every input: the plan of any changes, and which of them take something away, is the document's. No condition beyond the row's own. -/
import Derived.Test.YtkeledbgmpienaaA10

namespace Go.Proofs.Ytkeledbgmpienaa
open Go.RowKit Go.WideShapes Go.ChangeShapes Go.ChangeAt Go.ChangeMaps

set_option maxRecDepth 100000 in
theorem orderPlans_lifted (os : Os) (started : os.Started) (H : Type) (enc : TypeId × Value → H) :
    ReturnsInHanded {} Try.checked os 3 .any (Rows.orderPlansSpec.pre6 enc Try.prog Try.f3 Rows.orderPlansRow.domain false) (Rows.orderPlansSpec.post enc Try.prog Try.f3 false true false false) := by
  refine law_lift started (by kernel_rfl) Try.func3 (by kernel_rfl) rfl ?_ ?_
    (ChangeSpec.witness6 (enc := enc) (C := Try.checked) false ⟨#[], #[.slice none 0 0], []⟩ 8 (by kernel_rfl) (by kernel_rfl) (by kernel_rfl) (by kernel_rfl)) ?_
  · rw [Try.params3]
    intro t ht
    exact law_reads (by kernel_rfl) t ht
  · rw [Try.params3]
    intro ds hds
    match ds, hds with
    | [d1], _ => rfl
  · intro W base args ds ps hval hA hlt hsz
    rw [Try.params3] at hA hval hsz
    obtain ⟨v0, d0, rfl, rfl, h0⟩ := trodAll_one hA
    obtain ⟨n, hn⟩ := h0
    obtain ⟨A0, n0, c0, rfl⟩ := okWide_slice Try.underlying22 (hval 0 22 v0 rfl rfl)
    obtain ⟨A, c, l, hv', hl⟩ := open_chs hn (within_of (j := 0) hsz rfl rfl)
    rw [hv']
    exact orderPlans_any A c l W hl


theorem orderPlans_holds : Rows.OrderPlansSaid :=
  OpenClaim.holds_of_wide 3 Try.f3 rfl rfl rfl rfl rfl rfl rfl ⟨rfl, rfl, rfl, rfl, rfl⟩ rfl rfl rfl rfl rfl (by kernel_rfl) Try.func3 (by kernel_rfl)
    (of_decide_eq_true (by kernel_rfl)) (by unfold Func.isWrapper; rw [if_neg (of_decide_eq_false (by kernel_rfl))]; exact ⟨rfl, rfl⟩)
    (fun os started H enc _ => orderPlans_lifted os started H enc)
end Go.Proofs.Ytkeledbgmpienaa
