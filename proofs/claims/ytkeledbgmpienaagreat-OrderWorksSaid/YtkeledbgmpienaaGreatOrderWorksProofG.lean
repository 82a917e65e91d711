/- OrderWorks is true for every input: of any two trees and what was agreed on, the plan of what is closed can be applied; then both have the same at each path that is no conflict, and at conflicts what they had. No condition beyond the row's own. -/
import Derived.Test.YtkeledbgmpienaaGreatA18

namespace Go.Proofs.YtkeledbgmpienaaGreat
open Go.RowKit Go.WideShapes Go.ChangeShapes Go.ChangeAt Go.ChangeMaps

set_option maxRecDepth 100000 in
theorem orderWorks_lifted (os : Os) (started : os.Started) (H : Type) (enc : TypeId × Value → H) :
    ReturnsInHanded {} Tryz.checked os 3 .any (Rows.orderWorksSpec.pre6 enc Tryz.prog Tryz.f3 Rows.orderWorksRow.domain false) (Rows.orderWorksSpec.post enc Tryz.prog Tryz.f3 false true false false) := by
  refine law_lift started (by kernel_rfl) Tryz.func3 (by kernel_rfl) rfl ?_ ?_
    (ChangeSpec.witness6 (enc := enc) (C := Tryz.checked) false ⟨#[], #[.slice none 0 0, .slice none 0 0, .slice none 0 0], []⟩ 8 (by kernel_rfl) (by kernel_rfl) (by kernel_rfl) (by kernel_rfl)) ?_
  · rw [Tryz.params3]
    intro t ht
    exact law_reads (by kernel_rfl) t ht
  · rw [Tryz.params3]
    intro ds hds
    match ds, hds with
    | [d1, d2, d3], _ => rfl
  · intro W base args ds ps hval hA hlt hsz
    rw [Tryz.params3] at hA hval hsz
    obtain ⟨v0, v1, v2, d0, d1, d2, p0, p1, p2, rfl, rfl, rfl, h0, h1, h2⟩ := trodAll_three hA
    obtain ⟨n0, g0⟩ := h0
    obtain ⟨n1, g1⟩ := h1
    obtain ⟨n2, g2⟩ := h2
    obtain ⟨A0, m0, c0, rfl⟩ := okWide_slice Tryz.underlying22 (hval 0 22 v0 rfl rfl)
    obtain ⟨A1, m1, c1, rfl⟩ := okWide_slice Tryz.underlying22 (hval 1 22 v1 rfl rfl)
    obtain ⟨A2, m2, c2, rfl⟩ := okWide_slice Tryz.underlying22 (hval 2 22 v2 rfl rfl)
    obtain ⟨A, c, l, hv', ha⟩ := open_items g0 (within_of (j := 0) hsz rfl rfl)
    obtain ⟨Ax, cx, X, hv2, hx⟩ := open_items g1 (within_of (j := 1) hsz rfl rfl)
    obtain ⟨Ay, cy, Y, hv3, hy⟩ := open_items g2 (within_of (j := 2) hsz rfl rfl)
    rw [hv', hv2, hv3]
    exact orderWorks_any A c l Ax cx X Ay cy Y W ha hx hy


theorem orderWorks_holds : Rows.OrderWorksSaid :=
  OpenClaim.holds_of_wide 3 Tryz.f3 rfl rfl rfl rfl rfl rfl rfl ⟨rfl, rfl, rfl, rfl, rfl⟩ rfl rfl rfl rfl rfl (by kernel_rfl) Tryz.func3 (by kernel_rfl)
    (of_decide_eq_true (by kernel_rfl)) (by unfold Func.isWrapper; rw [if_neg (of_decide_eq_false (by kernel_rfl))]; exact ⟨rfl, rfl⟩)
    (fun os started H enc _ => orderWorks_lifted os started H enc)
end Go.Proofs.YtkeledbgmpienaaGreat
