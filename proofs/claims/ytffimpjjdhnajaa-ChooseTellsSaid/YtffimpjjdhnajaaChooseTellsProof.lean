/- ChooseTells is true for every input: whether any choices are right, who wins at any path, and what of a change is forced, or open, is the document's. No condition beyond the row's own. -/
import Derived.Test.YtffimpjjdhnajaaChooseTells
namespace Go.Proofs.Ytffimpjjdhnajaa
open Go.RowKit Go.WideShapes Go.ChangeShapes Go.ChangeAt

set_option maxRecDepth 100000 in
theorem chooseTells_lifted (os : Os) (started : os.Started) (H : Type) (enc : TypeId × Value → H) :
    ReturnsInHanded {} Try.checked os 12 .any (Rows.chooseTellsSpec.pre6 enc Try.prog Try.f12 Rows.chooseTellsRow.domain false) (Rows.chooseTellsSpec.post enc Try.prog Try.f12 false true false false) := by
  refine law_lift started (by kernel_rfl) Try.func12 (by kernel_rfl) rfl ?_ ?_
    (ChangeSpec.witness6 (enc := enc) (C := Try.checked) false ⟨#[], #[.slice none 0 0, .string ⟨#[]⟩, .slice none 0 0], []⟩ 8 (by kernel_rfl) (by kernel_rfl) (by kernel_rfl) (by kernel_rfl)) ?_
  · rw [Try.params12]
    intro t ht
    exact law_reads (by kernel_rfl) t ht
  · rw [Try.params12]
    intro ds hds
    match ds, hds with
    | [d1, d2, d3], _ => rfl
  · intro W base args ds ps hval hA hlt hsz
    rw [Try.params12] at hA hval hsz
    obtain ⟨v0, v1, v2, d0, d1, d2, p0, p1, p2, rfl, rfl, rfl, h0, h1, h2⟩ := trodAll_three hA
    obtain ⟨p, rfl, hp⟩ := open_str (hval 1 9 v1 rfl rfl) h1 (within_of (j := 1) hsz rfl rfl)
    obtain ⟨n, hn⟩ := h0
    obtain ⟨m, hm⟩ := h2
    obtain ⟨A0, n0, c0, rfl⟩ := okWide_slice Try.underlying50 (hval 0 50 v0 rfl rfl)
    obtain ⟨A1, n1, c1, rfl⟩ := okWide_slice Try.underlying41 (hval 2 41 v2 rfl rfl)
    obtain ⟨B, d, ch, hv0, hh⟩ := open_hvs hn (within_of (j := 0) hsz rfl rfl)
    obtain ⟨A, c, l, hv1, hl⟩ := open_chs hm (within_of (j := 2) hsz rfl rfl)
    rw [hv0, hv1]
    exact chooseTells_any A B c d l ch p W hl hh hp


theorem chooseTells_holds : Rows.ChooseTellsSaid :=
  OpenClaim.holds_of_wide 12 Try.f12 rfl rfl rfl rfl rfl rfl rfl ⟨rfl, rfl, rfl, rfl, rfl⟩ rfl rfl rfl rfl rfl (by kernel_rfl) Try.func12 (by kernel_rfl)
    (of_decide_eq_true (by kernel_rfl)) (by unfold Func.isWrapper; rw [if_neg (of_decide_eq_false (by kernel_rfl))]; exact ⟨rfl, rfl⟩)
    (fun os started H enc _ => chooseTells_lifted os started H enc)
end Go.Proofs.Ytffimpjjdhnajaa
