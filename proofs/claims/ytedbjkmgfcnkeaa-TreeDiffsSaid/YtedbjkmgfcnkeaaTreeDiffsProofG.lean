/- TreeDiffs is true for every input: whether any two trees are the same, and the paths at which they are not, are the document's. No condition beyond the row's own. -/
import Derived.Test.YtedbjkmgfcnkeaaA08

namespace Go.Proofs.Ytedbjkmgfcnkeaa
open Go.RowKit Go.WideShapes Go.ChangeShapes Go.ChangeAt Go.ChangeMaps

set_option maxRecDepth 100000 in
theorem treeDiffs_lifted (os : Os) (started : os.Started) (H : Type) (enc : TypeId × Value → H) :
    ReturnsInHanded {} Try.checked os 5 .any (Rows.treeDiffsSpec.pre6 enc Try.prog Try.f5 Rows.treeDiffsRow.domain false) (Rows.treeDiffsSpec.post enc Try.prog Try.f5 false true false false) := by
  refine law_lift started (by kernel_rfl) Try.func5 (by kernel_rfl) rfl ?_ ?_
    (ChangeSpec.witness6 (enc := enc) (C := Try.checked) false ⟨#[], #[.slice none 0 0, .slice none 0 0], []⟩ 8 (by kernel_rfl) (by kernel_rfl) (by kernel_rfl) (by kernel_rfl)) ?_
  · rw [Try.params5]
    intro t ht
    exact law_reads (by kernel_rfl) t ht
  · rw [Try.params5]
    intro ds hds
    match ds, hds with
    | [d1, d2], _ => rfl
  · intro W base args ds ps hval hA hlt hsz
    rw [Try.params5] at hA hval hsz
    obtain ⟨v0, v1, d0, d1, p0, p1, rfl, rfl, rfl, h0, h1⟩ := trodAll_two hA
    obtain ⟨n0, g0⟩ := h0
    obtain ⟨n1, g1⟩ := h1
    obtain ⟨A0, m0, c0, rfl⟩ := okWide_slice Try.underlying22 (hval 0 22 v0 rfl rfl)
    obtain ⟨A1, m1, c1, rfl⟩ := okWide_slice Try.underlying22 (hval 1 22 v1 rfl rfl)
    obtain ⟨A, c, l, hv, ha⟩ := open_items g0 (within_of (j := 0) hsz rfl rfl)
    obtain ⟨A', c', m, hv', ha'⟩ := open_items g1 (within_of (j := 1) hsz rfl rfl)
    rw [hv, hv']
    exact treeDiffs_any A A' c c' l m W ha ha'


theorem treeDiffs_holds : Rows.TreeDiffsSaid :=
  OpenClaim.holds_of_wide 5 Try.f5 rfl rfl rfl rfl rfl rfl rfl ⟨rfl, rfl, rfl, rfl, rfl⟩ rfl rfl rfl rfl rfl (by kernel_rfl) Try.func5 (by kernel_rfl)
    (of_decide_eq_true (by kernel_rfl)) (by unfold Func.isWrapper; rw [if_neg (of_decide_eq_false (by kernel_rfl))]; exact ⟨rfl, rfl⟩)
    (fun os started H enc _ => treeDiffs_lifted os started H enc)
end Go.Proofs.Ytedbjkmgfcnkeaa
