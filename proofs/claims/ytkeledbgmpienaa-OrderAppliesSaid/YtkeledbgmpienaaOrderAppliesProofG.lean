/- OrderApplies is true for every input: what comes of any two trees by any changes is the document's; the trees stay as they were. No condition beyond the row's own. -/
import Derived.Test.YtkeledbgmpienaaA10

namespace Go.Proofs.Ytkeledbgmpienaa
open Go.RowKit Go.WideShapes Go.ChangeShapes Go.ChangeAt Go.ChangeMaps

set_option maxRecDepth 100000 in
theorem orderApplies_lifted (os : Os) (started : os.Started) (H : Type) (enc : TypeId × Value → H) :
    ReturnsInHanded {} Try.checked os 4 .any (Rows.orderAppliesSpec.pre6 enc Try.prog Try.f4 Rows.orderAppliesRow.domain false) (Rows.orderAppliesSpec.post enc Try.prog Try.f4 false true false false) := by
  refine law_lift started (by kernel_rfl) Try.func4 (by kernel_rfl) rfl ?_ ?_
    (ChangeSpec.witness6 (enc := enc) (C := Try.checked) false ⟨#[], #[.slice none 0 0, .slice none 0 0, .slice none 0 0], []⟩ 8 (by kernel_rfl) (by kernel_rfl) (by kernel_rfl) (by kernel_rfl)) ?_
  · rw [Try.params4]
    intro t ht
    exact law_reads (by kernel_rfl) t ht
  · rw [Try.params4]
    intro ds hds
    match ds, hds with
    | [d1, d2, d3], _ => rfl
  · intro W base args ds ps hval hA hlt hsz
    rw [Try.params4] at hA hval hsz
    obtain ⟨v0, v1, v2, d0, d1, d2, p0, p1, p2, rfl, rfl, rfl, h0, h1, h2⟩ := trodAll_three hA
    obtain ⟨n0, g0⟩ := h0
    obtain ⟨n1, g1⟩ := h1
    obtain ⟨n2, g2⟩ := h2
    obtain ⟨A0, m0, c0, rfl⟩ := okWide_slice Try.underlying31 (hval 0 31 v0 rfl rfl)
    obtain ⟨A1, m1, c1, rfl⟩ := okWide_slice Try.underlying31 (hval 1 31 v1 rfl rfl)
    obtain ⟨A2, m2, c2, rfl⟩ := okWide_slice Try.underlying22 (hval 2 22 v2 rfl rfl)
    obtain ⟨A, c, l, hv', ha⟩ := open_items g0 (within_of (j := 0) hsz rfl rfl)
    obtain ⟨Ax, cx, X, hv2, hx⟩ := open_items g1 (within_of (j := 1) hsz rfl rfl)
    obtain ⟨Ay, cy, Y, hv3, hy⟩ := open_chs g2 (within_of (j := 2) hsz rfl rfl)
    rw [hv', hv2, hv3]
    exact orderApplies_any A c l Ax cx X Ay cy Y _ W ha hx hy


theorem orderApplies_holds : Rows.OrderAppliesSaid :=
  OpenClaim.holds_of_wide 4 Try.f4 rfl rfl rfl rfl rfl rfl rfl ⟨rfl, rfl, rfl, rfl, rfl⟩ rfl rfl rfl rfl rfl (by kernel_rfl) Try.func4 (by kernel_rfl)
    (of_decide_eq_true (by kernel_rfl)) (by unfold Func.isWrapper; rw [if_neg (of_decide_eq_false (by kernel_rfl))]; exact ⟨rfl, rfl⟩)
    (fun os started H enc _ => orderApplies_lifted os started H enc)
end Go.Proofs.Ytkeledbgmpienaa
