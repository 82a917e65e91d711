/- CanonAt is true for every input: the digest of what is at any path of a tree, and of all of it, is the document's. The row lists two tables as laid. -/
import Derived.Test.YtjcfphdjgagimaaGreatDoorA13
import Derived.Test.YtjcfphdjgagimaaGreatDoorCards
import Derived.Test.YtjcfphdjgagimaaGreatDoorTie

namespace Go.Proofs.YtjcfphdjgagimaaGreatDoor
open Go.RowKit Go.WideShapes Go.ChangeShapes Go.ChangeAt Go.ChangeMaps

set_option maxRecDepth 100000 in
theorem canonAt_lifted (os : Os) (started : os.Started) (H : Type) (enc : TypeId × Value → H) :
    ReturnsInHanded {} Tryz.checked os 4 .any (fun w args => (Rows.canonAtSpec.pre enc Tryz.prog Tryz.f4 [] false w args ∧ laidMet Tryz.prog laidSha w) ∧ sizedMet enc Tryz.prog Tryz.f4 (OpenSpec.ofChange Rows.canonAtSpec) false w args) (Rows.canonAtSpec.post enc Tryz.prog Tryz.f4 false true false false) := by
  refine law_lift_laid started (by kernel_rfl) Tryz.func4 (by kernel_rfl) rfl ?_ ?_
    (ChangeSpec.witness_at (enc := enc) (C := Tryz.checked) (os := os) (X := fun w _ => laidMet Tryz.prog laidSha w) false (laidWorld os) #[.slice none 0 0, .string ⟨#[]⟩] 8 rfl (by kernel_rfl) (by kernel_rfl) (by kernel_rfl) (by kernel_rfl) (by kernel_rfl) (laid_met os _)) ?_
  · rw [Tryz.params4]
    intro t ht
    exact law_reads (by kernel_rfl) t ht
  · rw [Tryz.params4]
    intro ds hds
    match ds, hds with
    | [d1, d2], _ => rfl
  · intro W base args ds ps hval hA hlt hsz hG
    rw [Tryz.params4] at hA hval hsz
    obtain ⟨v0, v1, d0, d1, p0, p1, rfl, rfl, rfl, h0, h1⟩ := trodAll_two hA
    obtain ⟨n0, g0⟩ := h0
    obtain ⟨A0, m0, c0, rfl⟩ := okWide_slice Tryz.underlying22 (hval 0 22 v0 rfl rfl)
    obtain ⟨A, c, l, hv', ha⟩ := open_items g0 (within_of (j := 0) hsz rfl rfl)
    rw [hv']
    obtain ⟨b, rfl, hbl⟩ := open_str (hval 1 9 v1 rfl rfl) h1 (within_of (j := 1) hsz rfl rfl)
    exact canonAt_any A c l b.data.toList W ha (by have := tl_len b; show (tl b).length ≤ _; omega) hG

theorem canonAt_pre {H : Type} (enc : TypeId × Value → H) : Rows.canonAtRow.pre enc Tryz.prog Tryz.f4 (OpenSpec.ofChange Rows.canonAtSpec) = fun w args => (Rows.canonAtSpec.pre enc Tryz.prog Tryz.f4 [] false w args ∧ laidMet Tryz.prog laidSha w) ∧ sizedMet enc Tryz.prog Tryz.f4 (OpenSpec.ofChange Rows.canonAtSpec) false w args := rfl


theorem canonAt_holds : Rows.CanonAtSaid :=
  OpenClaim.holds_of_wide 4 Tryz.f4 rfl rfl rfl rfl rfl rfl rfl ⟨rfl, rfl, rfl, rfl, rfl⟩ rfl rfl rfl rfl rfl (by kernel_rfl) Tryz.func4 (by kernel_rfl)
    (of_decide_eq_true (by kernel_rfl)) (by unfold Func.isWrapper; rw [if_neg (of_decide_eq_false (by kernel_rfl))]; exact ⟨rfl, rfl⟩)
    (fun os started H enc _ => canonAt_lifted os started H enc)
theorem canonAt_card : Rows.CanonAtCardSaid :=
  Claim7.holds_tied_plain_at .later [] [.data, .data] true (true, "1d943500e676efa8a1db45c6e6fd483dce6573ec8f75c82baf5efeabc188c903") false
    canonAt_holds (fun _ h => by cases h) (by kernel_rfl) (fun _ h => by cases h) canonAt_row_tie rfl ⟨rfl, rfl⟩ (by kernel_rfl) rfl
    (fun f fn hf hfn => by
      obtain rfl : f = 4 := Option.some.inj ((show Tryz.prog.funcNamed "tender/tenderlaw09.CanonAt" = some 4 by kernel_rfl).symm.trans hf) |>.symm
      obtain rfl : fn = Tryz.f4 := (Option.some.inj (Tryz.func4.symm.trans hfn)).symm
      exact ⟨by kernel_rfl, fun j t ht => by
        rw [Tryz.params4] at ht
        have hm : t ∈ [22, 9] := by simpa using Array.mem_of_getElem? ht
        have hall : ([22, 9].all fun u => !Tryz.prog.wantsStandIn u) = true := by kernel_rfl
        exact (show Tryz.prog.wantsStandIn t = false by simpa using List.all_eq_true.1 hall t hm)⟩)
    (by kernel_rfl)
end Go.Proofs.YtjcfphdjgagimaaGreatDoor
