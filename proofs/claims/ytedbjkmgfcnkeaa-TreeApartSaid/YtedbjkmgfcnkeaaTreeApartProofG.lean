/- TreeApart is true for every input: what is told of a tree, and a clone of it, share no memory with it; a tree that is none has nothing. No condition beyond the row's own. -/
import Derived.Test.YtedbjkmgfcnkeaaA08

namespace Go.Proofs.Ytedbjkmgfcnkeaa
open Go.RowKit Go.WideShapes Go.ChangeShapes Go.ChangeAt Go.ChangeMaps

set_option maxRecDepth 100000 in
theorem treeApart_lifted (os : Os) (started : os.Started) (H : Type) (enc : TypeId × Value → H) :
    ReturnsInHanded {} Try.checked os 6 .any (Rows.treeApartSpec.pre6 enc Try.prog Try.f6 Rows.treeApartRow.domain false) (Rows.treeApartSpec.post enc Try.prog Try.f6 false true false false) := by
  refine law_lift started (by kernel_rfl) Try.func6 (by kernel_rfl) rfl ?_ ?_
    (ChangeSpec.witness6 (enc := enc) (C := Try.checked) false ⟨#[], #[.slice none 0 0, .string ⟨#[]⟩, .agg #[.int .i64 0, .slice none 0 0]], []⟩ 8 (by kernel_rfl) (by kernel_rfl) (by kernel_rfl) (by kernel_rfl)) ?_
  · rw [Try.params6]
    intro t ht
    exact law_reads (by kernel_rfl) t ht
  · rw [Try.params6]
    intro ds hds
    match ds, hds with
    | [d1, d2, d3], _ => rfl
  · intro W base args ds ps hval hA hlt hsz
    rw [Try.params6] at hA hval hsz
    obtain ⟨v0, v1, v2, d0, d1, d2, p0, p1, p2, rfl, rfl, rfl, h0, h1, h2⟩ := trodAll_three hA
    obtain ⟨n0, g0⟩ := h0
    obtain ⟨A0, m0, c0, rfl⟩ := okWide_slice Try.underlying22 (hval 0 22 v0 rfl rfl)
    obtain ⟨A, c, l, hv', ha⟩ := open_items g0 (within_of (j := 0) hsz rfl rfl)
    obtain ⟨b, rfl, hbl⟩ := open_str (hval 1 9 v1 rfl rfl) h1 (within_of (j := 1) hsz rfl rfl)
    obtain ⟨a, rfl, hx⟩ := open_leafv (hval 2 28 v2 rfl rfl) h2 (within_of (j := 2) hsz rfl rfl)
    rw [hv']
    exact treeApart_any A c l b.data.toList a.k a.x.A a.x.c a.x.l W ha (by have := tl_len b; show (tl b).length ≤ _; omega) hx.x.1 hx.len


theorem treeApart_holds : Rows.TreeApartSaid :=
  OpenClaim.holds_of_wide 6 Try.f6 rfl rfl rfl rfl rfl rfl rfl ⟨rfl, rfl, rfl, rfl, rfl⟩ rfl rfl rfl rfl rfl (by kernel_rfl) Try.func6 (by kernel_rfl)
    (of_decide_eq_true (by kernel_rfl)) (by unfold Func.isWrapper; rw [if_neg (of_decide_eq_false (by kernel_rfl))]; exact ⟨rfl, rfl⟩)
    (fun os started H enc _ => treeApart_lifted os started H enc)
end Go.Proofs.Ytedbjkmgfcnkeaa
