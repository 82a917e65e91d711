/- MergeChanges is true for every input: the changes of any rows of both sides against any book, and their verdicts, are the document's. No condition beyond the row's own. -/
import Derived.Test.YtdnljmncdbcgeaaA15

namespace Go.Proofs.Ytdnljmncdbcgeaa
open Go.RowKit Go.WideShapes Go.ChangeShapes Go.ChangeAt

set_option maxRecDepth 100000 in
theorem mergeChanges_lifted (os : Os) (started : os.Started) (H : Type) (enc : TypeId × Value → H) :
    ReturnsInHanded {} Try.checked os 5 .any (Rows.mergeChangesSpec.pre6 enc Try.prog Try.f5 Rows.mergeChangesRow.domain false) (Rows.mergeChangesSpec.post enc Try.prog Try.f5 false true false false) := by
  refine law_lift started (by kernel_rfl) Try.func5 (by kernel_rfl) rfl ?_ ?_
    (ChangeSpec.witness6 (enc := enc) (C := Try.checked) false ⟨#[], #[.slice none 0 0, .slice none 0 0, .slice none 0 0], []⟩ 8 (by kernel_rfl) (by kernel_rfl) (by kernel_rfl) (by kernel_rfl)) ?_
  · rw [Try.params5]
    intro t ht
    exact law_reads (by kernel_rfl) t ht
  · rw [Try.params5]
    intro ds hds
    match ds, hds with
    | [d1, d2, d3], _ => rfl
  · intro W base args ds ps hval hA hlt hsz
    rw [Try.params5] at hA hval hsz
    obtain ⟨v0, v1, v2, d0, d1, d2, p0, p1, p2, rfl, rfl, rfl, h0, h1, h2⟩ := trodAll_three hA
    obtain ⟨n0, g0⟩ := h0
    obtain ⟨A0, m0, c0, rfl⟩ := okWide_slice Try.underlying22 (hval 0 22 v0 rfl rfl)
    obtain ⟨A, c, l, hv', ha⟩ := open_ents g0 (within_of (j := 0) hsz rfl rfl)
    rw [hv']
    obtain ⟨n1, g1⟩ := h1
    obtain ⟨A1, m1, c1, rfl⟩ := okWide_slice Try.underlying47 (hval 1 47 v1 rfl rfl)
    obtain ⟨B, d, R, hv1, hb, _, _⟩ := open_rws g1 (within_of (j := 1) hsz rfl rfl)
    rw [hv1]
    obtain ⟨n2, g2⟩ := h2
    obtain ⟨A2, m2, c2, rfl⟩ := okWide_slice Try.underlying47 (hval 2 47 v2 rfl rfl)
    obtain ⟨D, dd, R2, hv2, hb2, _, _⟩ := open_rws g2 (within_of (j := 2) hsz rfl rfl)
    rw [hv2]
    exact mergeChangesLaw_any A c l B d R D dd R2 W ha hb hb2


theorem mergeChanges_holds : Rows.MergeChangesSaid :=
  OpenClaim.holds_of_wide 5 Try.f5 rfl rfl rfl rfl rfl rfl rfl ⟨rfl, rfl, rfl, rfl, rfl⟩ rfl rfl rfl rfl rfl (by kernel_rfl) Try.func5 (by kernel_rfl)
    (of_decide_eq_true (by kernel_rfl)) (by unfold Func.isWrapper; rw [if_neg (of_decide_eq_false (by kernel_rfl))]; exact ⟨rfl, rfl⟩)
    (fun os started H enc _ => mergeChanges_lifted os started H enc)
end Go.Proofs.Ytdnljmncdbcgeaa
