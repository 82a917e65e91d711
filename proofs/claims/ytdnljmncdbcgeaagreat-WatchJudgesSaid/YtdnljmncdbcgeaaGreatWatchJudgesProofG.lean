/- WatchJudges is true for every input: of which entries of any book nothing was ever common is the document's. No condition beyond the row's own. -/
import Derived.Test.YtdnljmncdbcgeaaGreatA20

namespace Go.Proofs.YtdnljmncdbcgeaaGreat
open Go.RowKit Go.WideShapes Go.ChangeShapes Go.ChangeAt

set_option maxRecDepth 100000 in
theorem watchJudges_lifted (os : Os) (started : os.Started) (H : Type) (enc : TypeId × Value → H) :
    ReturnsInHanded {} Tryz.checked os 4 .any (Rows.watchJudgesSpec.pre6 enc Tryz.prog Tryz.f4 Rows.watchJudgesRow.domain false) (Rows.watchJudgesSpec.post enc Tryz.prog Tryz.f4 false true false false) := by
  refine law_lift started (by kernel_rfl) Tryz.func4 (by kernel_rfl) rfl ?_ ?_
    (ChangeSpec.witness6 (enc := enc) (C := Tryz.checked) false ⟨#[], #[.slice none 0 0, .slice none 0 0], []⟩ 8 (by kernel_rfl) (by kernel_rfl) (by kernel_rfl) (by kernel_rfl)) ?_
  · rw [Tryz.params4]
    intro t ht
    exact law_reads (by kernel_rfl) t ht
  · rw [Tryz.params4]
    intro ds hds
    match ds, hds with
    | [d1, d2], _ => rfl
  · intro W base args ds ps hval hA hlt hsz
    rw [Tryz.params4] at hA hval hsz
    obtain ⟨v0, v1, d0, d1, p0, p1, rfl, rfl, rfl, h0, h1⟩ := trodAll_two hA
    obtain ⟨n0, g0⟩ := h0
    obtain ⟨A0, m0, c0, rfl⟩ := okWide_slice Tryz.underlying22 (hval 0 22 v0 rfl rfl)
    obtain ⟨B, d, L, hv', ha⟩ := open_steps g0 (within_of (j := 0) hsz rfl rfl)
    rw [hv']
    obtain ⟨n1, g1⟩ := h1
    obtain ⟨A1, m1, c1, rfl⟩ := okWide_slice Tryz.underlying45 (hval 1 45 v1 rfl rfl)
    obtain ⟨A, c, l, hv1, hb⟩ := open_ents g1 (within_of (j := 1) hsz rfl rfl)
    rw [hv1]
    exact watchJudges_any B d L A c l W ha hb


theorem watchJudges_holds : Rows.WatchJudgesSaid :=
  OpenClaim.holds_of_wide 4 Tryz.f4 rfl rfl rfl rfl rfl rfl rfl ⟨rfl, rfl, rfl, rfl, rfl⟩ rfl rfl rfl rfl rfl (by kernel_rfl) Tryz.func4 (by kernel_rfl)
    (of_decide_eq_true (by kernel_rfl)) (by unfold Func.isWrapper; rw [if_neg (of_decide_eq_false (by kernel_rfl))]; exact ⟨rfl, rfl⟩)
    (fun os started H enc _ => watchJudges_lifted os started H enc)
end Go.Proofs.YtdnljmncdbcgeaaGreat
