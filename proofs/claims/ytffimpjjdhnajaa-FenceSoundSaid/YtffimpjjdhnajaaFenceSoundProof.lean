/- FenceSound is true for every input: what is closed has no clash, closed once more it stays, and just what had none is sound; no verdict changes but to a conflict. No condition beyond the row's own. -/
import Derived.Test.YtffimpjjdhnajaaFenceSoundLaw
import Derived.Test.YtffimpjjdhnajaaOpenCh
namespace Go.Proofs.Ytffimpjjdhnajaa
open Go.RowKit Go.WideShapes Go.ChangeShapes Go.ChangeAt

set_option maxRecDepth 100000 in
theorem fenceSound_lifted (os : Os) (started : os.Started) (H : Type) (enc : TypeId × Value → H) :
    ReturnsInHanded {} Try.checked os 9 .any (Rows.fenceSoundSpec.pre6 enc Try.prog Try.f9 Rows.fenceSoundRow.domain false) (Rows.fenceSoundSpec.post enc Try.prog Try.f9 false true false false) := by
  refine law_lift started (by kernel_rfl) Try.func9 (by kernel_rfl) rfl ?_ ?_
    (ChangeSpec.witness6 (enc := enc) (C := Try.checked) false ⟨#[], #[.slice none 0 0, .agg #[.string ⟨#[]⟩, .int .i64 0, .bool false, .bool false, .int .i64 0, .int .i64 0, .int .i64 0, .int .i64 0, .int .i64 0], .agg #[.string ⟨#[]⟩, .int .i64 0, .bool false, .bool false, .int .i64 0, .int .i64 0, .int .i64 0, .int .i64 0, .int .i64 0]], []⟩ 8 (by kernel_rfl) (by kernel_rfl) (by kernel_rfl) (by kernel_rfl)) ?_
  · rw [Try.params9]
    intro t ht
    exact law_reads (by kernel_rfl) t ht
  · rw [Try.params9]
    intro ds hds
    match ds, hds with
    | [d1, d2, d3], _ => rfl
  · intro W base args ds ps hval hA hlt hsz
    rw [Try.params9] at hA hval hsz
    obtain ⟨v0, v1, v2, d0, d1, d2, p0, p1, p2, rfl, rfl, rfl, h0, h1, h2⟩ := trodAll_three hA
    obtain ⟨p, rfl, hp⟩ := open_chv (hval 1 44 v1 rfl rfl) h1 (within_of (j := 1) hsz rfl rfl)
    obtain ⟨q, rfl, hq⟩ := open_chv (hval 2 44 v2 rfl rfl) h2 (within_of (j := 2) hsz rfl rfl)
    obtain ⟨n, hn⟩ := h0
    obtain ⟨A0, n0, c0, rfl⟩ := okWide_slice Try.underlying41 (hval 0 41 v0 rfl rfl)
    obtain ⟨A, c, l, hv', hl⟩ := open_chs hn (within_of (j := 0) hsz rfl rfl)
    rw [hv']
    exact fenceSound_any A c l p q W hl hp hq


theorem fenceSound_holds : Rows.FenceSoundSaid :=
  OpenClaim.holds_of_wide 9 Try.f9 rfl rfl rfl rfl rfl rfl rfl ⟨rfl, rfl, rfl, rfl, rfl⟩ rfl rfl rfl rfl rfl (by kernel_rfl) Try.func9 (by kernel_rfl)
    (of_decide_eq_true (by kernel_rfl)) (by unfold Func.isWrapper; rw [if_neg (of_decide_eq_false (by kernel_rfl))]; exact ⟨rfl, rfl⟩)
    (fun os started H enc _ => fenceSound_lifted os started H enc)
end Go.Proofs.Ytffimpjjdhnajaa
