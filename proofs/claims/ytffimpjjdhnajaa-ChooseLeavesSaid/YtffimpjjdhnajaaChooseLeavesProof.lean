/- ChooseLeaves is true for every input: without choices all is as closed; behind any, what no choice covers moves just if it moved when closed ahead, or is a conflict. No condition beyond the row's own. -/
import Derived.Test.YtffimpjjdhnajaaChooseLeaves
namespace Go.Proofs.Ytffimpjjdhnajaa
open Go.RowKit Go.WideShapes Go.ChangeShapes Go.ChangeAt

set_option maxRecDepth 100000 in
theorem chooseLeaves_lifted (os : Os) (started : os.Started) (H : Type) (enc : TypeId × Value → H) :
    ReturnsInHanded {} Try.checked os 11 .any (Rows.chooseLeavesSpec.pre6 enc Try.prog Try.f11 Rows.chooseLeavesRow.domain false) (Rows.chooseLeavesSpec.post enc Try.prog Try.f11 false true false false) := by
  refine law_lift started (by kernel_rfl) Try.func11 (by kernel_rfl) rfl ?_ ?_
    (ChangeSpec.witness6 (enc := enc) (C := Try.checked) false ⟨#[], #[.slice none 0 0, .slice none 0 0], []⟩ 8 (by kernel_rfl) (by kernel_rfl) (by kernel_rfl) (by kernel_rfl)) ?_
  · rw [Try.params11]
    intro t ht
    exact law_reads (by kernel_rfl) t ht
  · rw [Try.params11]
    intro ds hds
    match ds, hds with
    | [d1, d2], _ => rfl
  · intro W base args ds ps hval hA hlt hsz
    rw [Try.params11] at hA hval hsz
    obtain ⟨v0, v1, d0, d1, p0, p1, rfl, rfl, rfl, h0, h1⟩ := trodAll_two hA
    obtain ⟨n, hn⟩ := h0
    obtain ⟨m, hm⟩ := h1
    obtain ⟨A0, n0, c0, rfl⟩ := okWide_slice Try.underlying41 (hval 0 41 v0 rfl rfl)
    obtain ⟨A1, n1, c1, rfl⟩ := okWide_slice Try.underlying50 (hval 1 50 v1 rfl rfl)
    obtain ⟨A, c, l, hv0, hl⟩ := open_chs hn (within_of (j := 0) hsz rfl rfl)
    obtain ⟨B, d, ch, hv1, hh⟩ := open_hvs hm (within_of (j := 1) hsz rfl rfl)
    rw [hv0, hv1]
    exact chooseLeaves_any A B c d l ch W hl hh


theorem chooseLeaves_holds : Rows.ChooseLeavesSaid :=
  OpenClaim.holds_of_wide 11 Try.f11 rfl rfl rfl rfl rfl rfl rfl ⟨rfl, rfl, rfl, rfl, rfl⟩ rfl rfl rfl rfl rfl (by kernel_rfl) Try.func11 (by kernel_rfl)
    (of_decide_eq_true (by kernel_rfl)) (by unfold Func.isWrapper; rw [if_neg (of_decide_eq_false (by kernel_rfl))]; exact ⟨rfl, rfl⟩)
    (fun os started H enc _ => chooseLeaves_lifted os started H enc)
end Go.Proofs.Ytffimpjjdhnajaa
