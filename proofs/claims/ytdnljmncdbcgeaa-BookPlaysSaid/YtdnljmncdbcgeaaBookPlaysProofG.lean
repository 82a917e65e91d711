/- BookPlays is true for every input: whatever entries come, one after the other, what each is answered, and what the book has, whole and in rows, is the document's. No condition beyond the row's own. -/
import Derived.Test.YtdnljmncdbcgeaaA10

namespace Go.Proofs.Ytdnljmncdbcgeaa
open Go.RowKit Go.WideShapes Go.ChangeShapes Go.ChangeAt

set_option maxRecDepth 100000 in
theorem bookPlays_lifted (os : Os) (started : os.Started) (H : Type) (enc : TypeId × Value → H) :
    ReturnsInHanded {} Try.checked os 4 .any (Rows.bookPlaysSpec.pre6 enc Try.prog Try.f4 Rows.bookPlaysRow.domain false) (Rows.bookPlaysSpec.post enc Try.prog Try.f4 false true false false) := by
  refine law_lift started (by kernel_rfl) Try.func4 (by kernel_rfl) rfl ?_ ?_
    (ChangeSpec.witness6 (enc := enc) (C := Try.checked) false ⟨#[], #[.slice none 0 0, .string ⟨#[]⟩, .int .u8 0], []⟩ 8 (by kernel_rfl) (by kernel_rfl) (by kernel_rfl) (by kernel_rfl)) ?_
  · rw [Try.params4]
    intro t ht
    exact law_reads (by kernel_rfl) t ht
  · rw [Try.params4]
    intro ds hds
    match ds, hds with
    | [d1, d2, d3], _ => rfl
  · intro W base args ds ps hval hA hlt hsz
    rw [Try.params4] at hA hval hsz
    obtain ⟨v0, v1, v2, d0, d1, d2, p0, p1, p2, rfl, rfl, rfl, h0, h1, h2⟩ := trodAll_three hA
    obtain ⟨n0, g0⟩ := h0
    obtain ⟨A0, m0, c0, rfl⟩ := okWide_slice Try.underlying22 (hval 0 22 v0 rfl rfl)
    obtain ⟨A, c, l, hv', ha⟩ := open_ents g0 (within_of (j := 0) hsz rfl rfl)
    rw [hv']
    obtain ⟨b, rfl, hbl⟩ := open_str (hval 1 9 v1 rfl rfl) h1 (within_of (j := 1) hsz rfl rfl)
    obtain ⟨n, rfl, rfl, rfl, wn⟩ := open_int Try.underlying5 (hval 2 5 v2 rfl rfl) h2
    exact bookPlays_any A c l b.data.toList n W ha (by have := tl_len b; show (tl b).length ≤ _; omega) (u8_bd wn)


theorem bookPlays_holds : Rows.BookPlaysSaid :=
  OpenClaim.holds_of_wide 4 Try.f4 rfl rfl rfl rfl rfl rfl rfl ⟨rfl, rfl, rfl, rfl, rfl⟩ rfl rfl rfl rfl rfl (by kernel_rfl) Try.func4 (by kernel_rfl)
    (of_decide_eq_true (by kernel_rfl)) (by unfold Func.isWrapper; rw [if_neg (of_decide_eq_false (by kernel_rfl))]; exact ⟨rfl, rfl⟩)
    (fun os started H enc _ => bookPlays_lifted os started H enc)
end Go.Proofs.Ytdnljmncdbcgeaa
