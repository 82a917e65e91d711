/- WatchTells is true for every input: what stood where at any moment, whether something stood at a path between any moments, or at both sides at once, and when another thing came, is the document's. No condition beyond the row's own. -/
import Derived.Test.YtdnljmncdbcgeaaGreatA15

namespace Go.Proofs.YtdnljmncdbcgeaaGreat
open Go.RowKit Go.WideShapes Go.ChangeShapes Go.ChangeAt

set_option maxRecDepth 100000 in
theorem watchTells_lifted (os : Os) (started : os.Started) (H : Type) (enc : TypeId × Value → H) :
    ReturnsInHanded {} Tryz.checked os 3 .any (Rows.watchTellsSpec.pre6 enc Tryz.prog Tryz.f3 Rows.watchTellsRow.domain false) (Rows.watchTellsSpec.post enc Tryz.prog Tryz.f3 false true false false) := by
  refine law_lift started (by kernel_rfl) Tryz.func3 (by kernel_rfl) rfl ?_ ?_
    (ChangeSpec.witness6 (enc := enc) (C := Tryz.checked) false ⟨#[], #[.slice none 0 0, .agg #[.int .i64 0, .string ⟨#[]⟩, .int .i64 0, .slice none 0 0, .int .i64 0, .int .i64 0], .int .i64 0], []⟩ 8 (by kernel_rfl) (by kernel_rfl) (by kernel_rfl) (by kernel_rfl)) ?_
  · rw [Tryz.params3]
    intro t ht
    exact law_reads (by kernel_rfl) t ht
  · rw [Tryz.params3]
    intro ds hds
    match ds, hds with
    | [d1, d2, d3], _ => rfl
  · intro W base args ds ps hval hA hlt hsz
    rw [Tryz.params3] at hA hval hsz
    obtain ⟨v0, v1, v2, d0, d1, d2, p0, p1, p2, rfl, rfl, rfl, h0, h1, h2⟩ := trodAll_three hA
    obtain ⟨n0, g0⟩ := h0
    obtain ⟨A0, m0, c0, rfl⟩ := okWide_slice Tryz.underlying22 (hval 0 22 v0 rfl rfl)
    obtain ⟨A, c, l, hv', ha⟩ := open_steps g0 (within_of (j := 0) hsz rfl rfl)
    rw [hv']
    obtain ⟨q, rfl, ho, hp⟩ := open_askv (hval 1 27 v1 rfl rfl) h1 (within_of (j := 1) hsz rfl rfl)
    obtain ⟨m, rfl⟩ := okWide_int Tryz.underlying3 (hval 2 3 v2 rfl rfl)
    exact watchTells_any A c l q.sd q.p q.o.k q.o.x.A q.o.x.c q.o.x.l q.fr q.to m _ W ha ho.x.1


theorem watchTells_holds : Rows.WatchTellsSaid :=
  OpenClaim.holds_of_wide 3 Tryz.f3 rfl rfl rfl rfl rfl rfl rfl ⟨rfl, rfl, rfl, rfl, rfl⟩ rfl rfl rfl rfl rfl (by kernel_rfl) Tryz.func3 (by kernel_rfl)
    (of_decide_eq_true (by kernel_rfl)) (by unfold Func.isWrapper; rw [if_neg (of_decide_eq_false (by kernel_rfl))]; exact ⟨rfl, rfl⟩)
    (fun os started H enc _ => watchTells_lifted os started H enc)
end Go.Proofs.YtdnljmncdbcgeaaGreat
