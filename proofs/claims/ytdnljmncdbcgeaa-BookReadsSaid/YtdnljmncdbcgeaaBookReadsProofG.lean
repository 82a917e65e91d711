/- BookReads is true for every input: the book of any bytes, or why there is none, is the document's; it has just these bytes. No condition beyond the row's own. -/
import Derived.Test.YtdnljmncdbcgeaaA12

namespace Go.Proofs.Ytdnljmncdbcgeaa
open Go.RowKit Go.WideShapes Go.ChangeShapes Go.ChangeAt

set_option maxRecDepth 100000 in
theorem bookReads_lifted (os : Os) (started : os.Started) (H : Type) (enc : TypeId × Value → H) :
    ReturnsInHanded {} Try.checked os 9 .any (Rows.bookReadsSpec.pre6 enc Try.prog Try.f9 Rows.bookReadsRow.domain false) (Rows.bookReadsSpec.post enc Try.prog Try.f9 false true false false) := by
  refine law_lift started (by kernel_rfl) Try.func9 (by kernel_rfl) rfl ?_ ?_
    (ChangeSpec.witness6 (enc := enc) (C := Try.checked) false ⟨#[], #[.slice none 0 0], []⟩ 8 (by kernel_rfl) (by kernel_rfl) (by kernel_rfl) (by kernel_rfl)) ?_
  · rw [Try.params9]
    intro t ht
    exact law_reads (by kernel_rfl) t ht
  · rw [Try.params9]
    intro ds hds
    match ds, hds with
    | [d1], _ => rfl
  · intro W base args ds ps hval hA hlt hsz
    rw [Try.params9] at hA hval hsz
    obtain ⟨v0, d0, rfl, rfl, h0⟩ := trodAll_one hA
    obtain ⟨q, hq⟩ := h0
    obtain ⟨A0, n0, c0, rfl⟩ := okWide_slice Try.underlying24 (hval 0 24 v0 rfl rfl)
    obtain ⟨b, hv', hb, hbl⟩ := open_bv hq (within_of (j := 0) hsz rfl rfl)
    rw [hv']
    by_cases hl : 6000 < b.l.length
    · exact bookReads_far b W hl
    · exact bookReads_near b W hb hl


theorem bookReads_holds : Rows.BookReadsSaid :=
  OpenClaim.holds_of_wide 9 Try.f9 rfl rfl rfl rfl rfl rfl rfl ⟨rfl, rfl, rfl, rfl, rfl⟩ rfl rfl rfl rfl rfl (by kernel_rfl) Try.func9 (by kernel_rfl)
    (of_decide_eq_true (by kernel_rfl)) (by unfold Func.isWrapper; rw [if_neg (of_decide_eq_false (by kernel_rfl))]; exact ⟨rfl, rfl⟩)
    (fun os started H enc _ => bookReads_lifted os started H enc)
end Go.Proofs.Ytdnljmncdbcgeaa
