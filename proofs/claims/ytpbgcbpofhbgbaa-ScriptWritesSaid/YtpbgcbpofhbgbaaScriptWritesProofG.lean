/- ScriptWrites is true for every input: whether any acts are right, and their bytes, are the document's; right ones are read of them as they were. No condition beyond the row's own. -/
import Derived.Test.YtpbgcbpofhbgbaaA12

namespace Go.Proofs.Ytpbgcbpofhbgbaa
open Go.RowKit Go.WideShapes Go.ChangeShapes Go.ChangeAt

set_option maxRecDepth 100000 in
theorem scriptWrites_lifted (os : Os) (started : os.Started) (H : Type) (enc : TypeId × Value → H) :
    ReturnsInHanded {} Try.checked os 8 .any (Rows.scriptWritesSpec.pre6 enc Try.prog Try.f8 Rows.scriptWritesRow.domain false) (Rows.scriptWritesSpec.post enc Try.prog Try.f8 false true false false) := by
  refine law_lift started (by kernel_rfl) Try.func8 (by kernel_rfl) rfl ?_ ?_
    (ChangeSpec.witness6 (enc := enc) (C := Try.checked) false ⟨#[], #[.slice none 0 0, .agg #[.int .i64 0, .int .i64 0, .int .i64 0, .int .i64 0, .int .u32 0, .int .i64 0, .string ⟨#[]⟩, .string ⟨#[]⟩, .slice none 0 0, .slice none 0 0, .slice none 0 0]], []⟩ 8 (by kernel_rfl) (by kernel_rfl) (by kernel_rfl) (by kernel_rfl)) ?_
  · rw [Try.params8]
    intro t ht
    exact law_reads (by kernel_rfl) t ht
  · rw [Try.params8]
    intro ds hds
    match ds, hds with
    | [d1, d2], _ => rfl
  · intro W base args ds ps hval hA hlt hsz
    rw [Try.params8] at hA hval hsz
    obtain ⟨v0, v1, d0, d1, p0, p1, rfl, rfl, rfl, h0, h1⟩ := trodAll_two hA
    obtain ⟨q, hq⟩ := h0
    obtain ⟨A0, n0, c0, rfl⟩ := okWide_slice Try.underlying50 (hval 0 50 v0 rfl rfl)
    obtain ⟨A, c, l, hv', hl, hcap⟩ := open_acts hq (within_of (j := 0) hsz rfl rfl)
    obtain ⟨a, hv1, ha, _⟩ := open_actv (hval 1 57 v1 rfl rfl) h1 (within_of (j := 1) hsz rfl rfl)
    rw [hv', hv1]
    exact scriptWrites_any A c l a W hl hcap ha


theorem scriptWrites_holds : Rows.ScriptWritesSaid :=
  OpenClaim.holds_of_wide 8 Try.f8 rfl rfl rfl rfl rfl rfl rfl ⟨rfl, rfl, rfl, rfl, rfl⟩ rfl rfl rfl rfl rfl (by kernel_rfl) Try.func8 (by kernel_rfl)
    (of_decide_eq_true (by kernel_rfl)) (by unfold Func.isWrapper; rw [if_neg (of_decide_eq_false (by kernel_rfl))]; exact ⟨rfl, rfl⟩)
    (fun os started H enc _ => scriptWrites_lifted os started H enc)
end Go.Proofs.Ytpbgcbpofhbgbaa
