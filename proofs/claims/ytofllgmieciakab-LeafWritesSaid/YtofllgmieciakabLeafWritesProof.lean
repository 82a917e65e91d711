/- LeafWrites is true for every input: the bytes of any leaves are the document's; right ones are read of them as they were. No condition beyond the row's own. -/
import Derived.Test.YtofllgmieciakabLeafWrites
import Derived.Test.YtofllgmieciakabOpenLeaf
namespace Go.Proofs.Ytofllgmieciakab
open Go.RowKit Go.WideShapes Go.ChangeShapes Go.ChangeAt

set_option maxRecDepth 100000 in
theorem leafWrites_lifted (os : Os) (started : os.Started) (H : Type) (enc : TypeId × Value → H) :
    ReturnsInHanded {} Try.checked os 5 .any (Rows.leafWritesSpec.pre6 enc Try.prog Try.f5 Rows.leafWritesRow.domain false) (Rows.leafWritesSpec.post enc Try.prog Try.f5 false true false false) := by
  refine law_lift started (by kernel_rfl) Try.func5 (by kernel_rfl) rfl ?_ ?_
    (ChangeSpec.witness6 (enc := enc) (C := Try.checked) false ⟨#[], #[.slice none 0 0], []⟩ 8 (by kernel_rfl) (by kernel_rfl) (by kernel_rfl) (by kernel_rfl)) ?_
  · rw [Try.params5]
    intro t ht
    exact law_reads (by kernel_rfl) t ht
  · rw [Try.params5]
    intro ds hds
    match ds, hds with
    | [d1], _ => rfl
  · intro W base args ds ps hval hA hlt hsz
    rw [Try.params5] at hA hval hsz
    obtain ⟨v0, d0, rfl, rfl, h0⟩ := trodAll_one hA
    obtain ⟨n, hn⟩ := h0
    obtain ⟨A0, n0, c0, rfl⟩ := okWide_slice Try.underlying47 (hval 0 47 v0 rfl rfl)
    obtain ⟨A, c, l, hv', hl⟩ := open_leaves hn (within_of (j := 0) hsz rfl rfl)
    rw [hv']
    cases hg : lightL l
    · exact leafWrites_far A c l W hl hg
    · exact leafWrites_near A c l W hl hg


theorem leafWrites_holds : Rows.LeafWritesSaid :=
  OpenClaim.holds_of_wide 5 Try.f5 rfl rfl rfl rfl rfl rfl rfl ⟨rfl, rfl, rfl, rfl, rfl⟩ rfl rfl rfl rfl rfl (by kernel_rfl) Try.func5 (by kernel_rfl)
    (of_decide_eq_true (by kernel_rfl)) (by unfold Func.isWrapper; rw [if_neg (of_decide_eq_false (by kernel_rfl))]; exact ⟨rfl, rfl⟩)
    (fun os started H enc _ => leafWrites_lifted os started H enc)
end Go.Proofs.Ytofllgmieciakab
