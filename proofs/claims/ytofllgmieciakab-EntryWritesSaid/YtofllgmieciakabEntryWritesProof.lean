/- EntryWrites is true for every input: the bytes of any entries are the document's; right ones are read of them as they were. No condition beyond the row's own. -/
import Derived.Test.YtofllgmieciakabEntryWrites
import Derived.Test.YtofllgmieciakabOpenEnt
namespace Go.Proofs.Ytofllgmieciakab
open Go.RowKit Go.WideShapes Go.ChangeShapes Go.ChangeAt

set_option maxRecDepth 100000 in
theorem entryWrites_lifted (os : Os) (started : os.Started) (H : Type) (enc : TypeId × Value → H) :
    ReturnsInHanded {} Try.checked os 8 .any (Rows.entryWritesSpec.pre6 enc Try.prog Try.f8 Rows.entryWritesRow.domain false) (Rows.entryWritesSpec.post enc Try.prog Try.f8 false true false false) := by
  refine law_lift started (by kernel_rfl) Try.func8 (by kernel_rfl) rfl ?_ ?_
    (ChangeSpec.witness6 (enc := enc) (C := Try.checked) false ⟨#[], #[.slice none 0 0], []⟩ 8 (by kernel_rfl) (by kernel_rfl) (by kernel_rfl) (by kernel_rfl)) ?_
  · rw [Try.params8]
    intro t ht
    exact law_reads (by kernel_rfl) t ht
  · rw [Try.params8]
    intro ds hds
    match ds, hds with
    | [d1], _ => rfl
  · intro W base args ds ps hval hA hlt hsz
    rw [Try.params8] at hA hval hsz
    obtain ⟨v0, d0, rfl, rfl, h0⟩ := trodAll_one hA
    obtain ⟨n, hn⟩ := h0
    obtain ⟨A0, n0, c0, rfl⟩ := okWide_slice Try.underlying70 (hval 0 70 v0 rfl rfl)
    obtain ⟨A, c, l, hv', hl⟩ := open_ents hn (within_of (j := 0) hsz rfl rfl)
    rw [hv']
    cases hg : lightE l
    · exact entryWrites_far A c l W hl hg
    · exact entryWrites_near A c l W hl hg


theorem entryWrites_holds : Rows.EntryWritesSaid :=
  OpenClaim.holds_of_wide 8 Try.f8 rfl rfl rfl rfl rfl rfl rfl ⟨rfl, rfl, rfl, rfl, rfl⟩ rfl rfl rfl rfl rfl (by kernel_rfl) Try.func8 (by kernel_rfl)
    (of_decide_eq_true (by kernel_rfl)) (by unfold Func.isWrapper; rw [if_neg (of_decide_eq_false (by kernel_rfl))]; exact ⟨rfl, rfl⟩)
    (fun os started H enc _ => entryWrites_lifted os started H enc)
end Go.Proofs.Ytofllgmieciakab
