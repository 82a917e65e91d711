/- ScriptAny is true for every input: of any bytes come the document's acts, right ones alone, one for a byte at most. No condition beyond the row's own. -/
import Derived.Test.YtpbgcbpofhbgbaaScriptAny
namespace Go.Proofs.Ytpbgcbpofhbgbaa
open Go.RowKit Go.WideShapes Go.ChangeShapes Go.ChangeAt

set_option maxRecDepth 100000 in
theorem scriptAny_lifted (os : Os) (started : os.Started) (H : Type) (enc : TypeId × Value → H) :
    ReturnsInHanded {} Try.checked os 6 .any (Rows.scriptAnySpec.pre6 enc Try.prog Try.f6 Rows.scriptAnyRow.domain false) (Rows.scriptAnySpec.post enc Try.prog Try.f6 false true false false) := by
  refine law_lift started (by kernel_rfl) Try.func6 (by kernel_rfl) rfl ?_ ?_
    (ChangeSpec.witness6 (enc := enc) (C := Try.checked) false ⟨#[], #[.slice none 0 0], []⟩ 8 (by kernel_rfl) (by kernel_rfl) (by kernel_rfl) (by kernel_rfl)) ?_
  · rw [Try.params6]
    intro t ht
    exact law_reads (by kernel_rfl) t ht
  · rw [Try.params6]
    intro ds hds
    match ds, hds with
    | [d1], _ => rfl
  · intro W base args ds ps hval hA hlt hsz
    rw [Try.params6] at hA hval hsz
    obtain ⟨v0, d0, rfl, rfl, h0⟩ := trodAll_one hA
    obtain ⟨q, hq⟩ := h0
    obtain ⟨A0, n0, c0, rfl⟩ := okWide_slice Try.underlying23 (hval 0 23 v0 rfl rfl)
    obtain ⟨b, hv', hb, hbl⟩ := open_bv hq (within_of (j := 0) hsz rfl rfl)
    rw [hv']
    by_cases hl : 2000 < b.l.length
    · exact scriptAny_far b W hl
    · exact scriptAny_near b W hb (by omega)


theorem scriptAny_holds : Rows.ScriptAnySaid :=
  OpenClaim.holds_of_wide 6 Try.f6 rfl rfl rfl rfl rfl rfl rfl ⟨rfl, rfl, rfl, rfl, rfl⟩ rfl rfl rfl rfl rfl (by kernel_rfl) Try.func6 (by kernel_rfl)
    (of_decide_eq_true (by kernel_rfl)) (by unfold Func.isWrapper; rw [if_neg (of_decide_eq_false (by kernel_rfl))]; exact ⟨rfl, rfl⟩)
    (fun os started H enc _ => scriptAny_lifted os started H enc)
end Go.Proofs.Ytpbgcbpofhbgbaa
