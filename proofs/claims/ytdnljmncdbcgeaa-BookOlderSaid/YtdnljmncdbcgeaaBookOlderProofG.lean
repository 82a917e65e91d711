/- BookOlder is true for every input: of which paths either of two books has an older version, as rows tell of the other one, is the document's; of two that are the same none. No condition beyond the row's own. -/
import Derived.Test.YtdnljmncdbcgeaaA11

namespace Go.Proofs.Ytdnljmncdbcgeaa
open Go.RowKit Go.WideShapes Go.ChangeShapes Go.ChangeAt

set_option maxRecDepth 100000 in
theorem bookOlder_lifted (os : Os) (started : os.Started) (H : Type) (enc : TypeId × Value → H) :
    ReturnsInHanded {} Try.checked os 7 .any (Rows.bookOlderSpec.pre6 enc Try.prog Try.f7 Rows.bookOlderRow.domain false) (Rows.bookOlderSpec.post enc Try.prog Try.f7 false true false false) := by
  refine law_lift started (by kernel_rfl) Try.func7 (by kernel_rfl) rfl ?_ ?_
    (ChangeSpec.witness6 (enc := enc) (C := Try.checked) false ⟨#[], #[.slice none 0 0, .slice none 0 0], []⟩ 8 (by kernel_rfl) (by kernel_rfl) (by kernel_rfl) (by kernel_rfl)) ?_
  · rw [Try.params7]
    intro t ht
    exact law_reads (by kernel_rfl) t ht
  · rw [Try.params7]
    intro ds hds
    match ds, hds with
    | [d1, d2], _ => rfl
  · intro W base args ds ps hval hA hlt hsz
    rw [Try.params7] at hA hval hsz
    obtain ⟨v0, v1, d0, d1, p0, p1, rfl, rfl, rfl, h0, h1⟩ := trodAll_two hA
    obtain ⟨n0, g0⟩ := h0
    obtain ⟨A0, m0, c0, rfl⟩ := okWide_slice Try.underlying22 (hval 0 22 v0 rfl rfl)
    obtain ⟨A, c, l, hv', ha⟩ := open_ents g0 (within_of (j := 0) hsz rfl rfl)
    rw [hv']
    obtain ⟨n1, g1⟩ := h1
    obtain ⟨A1, m1, c1, rfl⟩ := okWide_slice Try.underlying47 (hval 1 47 v1 rfl rfl)
    obtain ⟨B, d, R, hv1, hb, _, _⟩ := open_rws g1 (within_of (j := 1) hsz rfl rfl)
    rw [hv1]
    exact bookOlderLaw_any A c l B d R W ha hb


theorem bookOlder_holds : Rows.BookOlderSaid :=
  OpenClaim.holds_of_wide 7 Try.f7 rfl rfl rfl rfl rfl rfl rfl ⟨rfl, rfl, rfl, rfl, rfl⟩ rfl rfl rfl rfl rfl (by kernel_rfl) Try.func7 (by kernel_rfl)
    (of_decide_eq_true (by kernel_rfl)) (by unfold Func.isWrapper; rw [if_neg (of_decide_eq_false (by kernel_rfl))]; exact ⟨rfl, rfl⟩)
    (fun os started H enc _ => bookOlder_lifted os started H enc)
end Go.Proofs.Ytdnljmncdbcgeaa
