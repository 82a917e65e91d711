/- BookWrites is true for every input: the bytes of any book are the document's; it is read of them as it was, and so is its session; a clone goes its own way. No condition beyond the row's own. -/
import Derived.Test.YtdnljmncdbcgeaaGreatA12

namespace Go.Proofs.YtdnljmncdbcgeaaGreat
open Go.RowKit Go.WideShapes Go.ChangeShapes Go.ChangeAt

set_option maxRecDepth 100000 in
theorem bookWrites_lifted (os : Os) (started : os.Started) (H : Type) (enc : TypeId × Value → H) :
    ReturnsInHanded {} Tryz.checked os 5 .any (Rows.bookWritesSpec.pre6 enc Tryz.prog Tryz.f5 Rows.bookWritesRow.domain false) (Rows.bookWritesSpec.post enc Tryz.prog Tryz.f5 false true false false) := by
  refine law_lift started (by kernel_rfl) Tryz.func5 (by kernel_rfl) rfl ?_ ?_
    (ChangeSpec.witness6 (enc := enc) (C := Tryz.checked) false ⟨#[], #[.slice none 0 0, .int .u8 0, .agg #[.string ⟨#[]⟩, .int .u64 0, .int .i64 0, .slice none 0 0]], []⟩ 8 (by kernel_rfl) (by kernel_rfl) (by kernel_rfl) (by kernel_rfl)) ?_
  · rw [Tryz.params5]
    intro t ht
    exact law_reads (by kernel_rfl) t ht
  · rw [Tryz.params5]
    intro ds hds
    match ds, hds with
    | [d1, d2, d3], _ => rfl
  · intro W base args ds ps hval hA hlt hsz
    rw [Tryz.params5] at hA hval hsz
    obtain ⟨v0, v1, v2, d0, d1, d2, p0, p1, p2, rfl, rfl, rfl, h0, h1, h2⟩ := trodAll_three hA
    obtain ⟨n0, g0⟩ := h0
    obtain ⟨A0, m0, c0, rfl⟩ := okWide_slice Tryz.underlying45 (hval 0 45 v0 rfl rfl)
    obtain ⟨A, c, l, hv', ha⟩ := open_ents g0 (within_of (j := 0) hsz rfl rfl)
    rw [hv']
    obtain ⟨n, rfl, rfl, rfl, wn⟩ := open_int Tryz.underlying5 (hval 1 5 v1 rfl rfl) h1
    have hn := u8_bd wn
    obtain ⟨x, rfl, hx⟩ := open_entv (hval 2 59 v2 rfl rfl) h2 (within_of (j := 2) hsz rfl rfl)
    obtain ⟨k, rfl⟩ : ∃ k : Nat, n = (k : Int) := ⟨n.toNat, by omega⟩
    exact bookWrites_any A c l k x W ha hx (by omega)


theorem bookWrites_holds : Rows.BookWritesSaid :=
  OpenClaim.holds_of_wide 5 Tryz.f5 rfl rfl rfl rfl rfl rfl rfl ⟨rfl, rfl, rfl, rfl, rfl⟩ rfl rfl rfl rfl rfl (by kernel_rfl) Tryz.func5 (by kernel_rfl)
    (of_decide_eq_true (by kernel_rfl)) (by unfold Func.isWrapper; rw [if_neg (of_decide_eq_false (by kernel_rfl))]; exact ⟨rfl, rfl⟩)
    (fun os started H enc _ => bookWrites_lifted os started H enc)
end Go.Proofs.YtdnljmncdbcgeaaGreat
