/- LeafTells is true for every input: whether any leaf is right, and the same as another one, and all else that is told of it, is the document's; a clone shares nothing with it. No condition beyond the row's own. -/
import Derived.Test.YtofllgmieciakabLeafTells
import Derived.Test.YtofllgmieciakabOpenLeaf
namespace Go.Proofs.Ytofllgmieciakab
open Go.RowKit Go.WideShapes Go.ChangeShapes Go.ChangeAt

set_option maxRecDepth 100000 in
theorem leafTells_lifted (os : Os) (started : os.Started) (H : Type) (enc : TypeId × Value → H) :
    ReturnsInHanded {} Try.checked os 3 .any (Rows.leafTellsSpec.pre6 enc Try.prog Try.f3 Rows.leafTellsRow.domain false) (Rows.leafTellsSpec.post enc Try.prog Try.f3 false true false false) := by
  refine law_lift started (by kernel_rfl) Try.func3 (by kernel_rfl) rfl ?_ ?_
    (ChangeSpec.witness6 (enc := enc) (C := Try.checked) false ⟨#[], #[.agg #[.int .i64 0, .slice none 0 0], .agg #[.int .i64 0, .slice none 0 0], .int .i64 0], []⟩ 8 (by kernel_rfl) (by kernel_rfl) (by kernel_rfl) (by kernel_rfl)) ?_
  · rw [Try.params3]
    intro t ht
    exact law_reads (by kernel_rfl) t ht
  · rw [Try.params3]
    intro ds hds
    match ds, hds with
    | [d1, d2, d3], _ => rfl
  · intro W base args ds ps hval hA hlt hsz
    rw [Try.params3] at hA hval hsz
    obtain ⟨v0, v1, v2, d0, d1, d2, p0, p1, p2, rfl, rfl, rfl, h0, h1, h2⟩ := trodAll_three hA
    obtain ⟨n, rfl, rfl, rfl, wn⟩ := open_int Try.underlying3 (hval 2 3 v2 rfl rfl) h2
    obtain ⟨a, rfl, ha⟩ := open_leafv (hval 0 24 v0 rfl rfl) h0 (within_of (j := 0) hsz rfl rfl)
    obtain ⟨b, rfl, hb⟩ := open_leafv (hval 1 24 v1 rfl rfl) h1 (within_of (j := 1) hsz rfl rfl)
    exact leafTells_any a.k b.k a.x.A b.x.A a.x.c b.x.c a.x.l b.x.l n W ha.x hb.x ha.len hb.len ha.k hb.k


theorem leafTells_holds : Rows.LeafTellsSaid :=
  OpenClaim.holds_of_wide 3 Try.f3 rfl rfl rfl rfl rfl rfl rfl ⟨rfl, rfl, rfl, rfl, rfl⟩ rfl rfl rfl rfl rfl (by kernel_rfl) Try.func3 (by kernel_rfl)
    (of_decide_eq_true (by kernel_rfl)) (by unfold Func.isWrapper; rw [if_neg (of_decide_eq_false (by kernel_rfl))]; exact ⟨rfl, rfl⟩)
    (fun os started H enc _ => leafTells_lifted os started H enc)
end Go.Proofs.Ytofllgmieciakab
