/- CanonWrites is true for every input: the bytes and the digest of any tree are the document's; it is read of them as it was. The row lists two tables as laid. -/
import Derived.Test.YtjcfphdjgagimaaGreatDoorA10
import Derived.Test.YtjcfphdjgagimaaGreatDoorCards
import Derived.Test.YtjcfphdjgagimaaGreatDoorTie

namespace Go.Proofs.YtjcfphdjgagimaaGreatDoor
open Go.RowKit Go.WideShapes Go.ChangeShapes Go.ChangeAt Go.ChangeMaps

set_option maxRecDepth 100000 in
theorem canonWrites_lifted (os : Os) (started : os.Started) (H : Type) (enc : TypeId × Value → H) :
    ReturnsInHanded {} Tryz.checked os 3 .any (fun w args => (Rows.canonWritesSpec.pre enc Tryz.prog Tryz.f3 [] false w args ∧ laidMet Tryz.prog laidSha w) ∧ sizedMet enc Tryz.prog Tryz.f3 (OpenSpec.ofChange Rows.canonWritesSpec) false w args) (Rows.canonWritesSpec.post enc Tryz.prog Tryz.f3 false true false false) := by
  refine law_lift_laid started (by kernel_rfl) Tryz.func3 (by kernel_rfl) rfl ?_ ?_
    (ChangeSpec.witness_at (enc := enc) (C := Tryz.checked) (os := os) (X := fun w _ => laidMet Tryz.prog laidSha w) false (laidWorld os) #[.slice none 0 0] 8 rfl (by kernel_rfl) (by kernel_rfl) (by kernel_rfl) (by kernel_rfl) (by kernel_rfl) (laid_met os _)) ?_
  · rw [Tryz.params3]
    intro t ht
    exact law_reads (by kernel_rfl) t ht
  · rw [Tryz.params3]
    intro ds hds
    match ds, hds with
    | [d1], _ => rfl
  · intro W base args ds ps hval hA hlt hsz hG
    rw [Tryz.params3] at hA hval hsz
    obtain ⟨v0, d0, rfl, rfl, h0⟩ := trodAll_one hA
    obtain ⟨n0, g0⟩ := h0
    obtain ⟨A0, m0, c0, rfl⟩ := okWide_slice Tryz.underlying22 (hval 0 22 v0 rfl rfl)
    obtain ⟨A, c, l, hv', ha⟩ := open_items g0 (within_of (j := 0) hsz rfl rfl)
    rw [hv']
    exact canonWrites_any A c l W ha hG

theorem canonWrites_pre {H : Type} (enc : TypeId × Value → H) : Rows.canonWritesRow.pre enc Tryz.prog Tryz.f3 (OpenSpec.ofChange Rows.canonWritesSpec) = fun w args => (Rows.canonWritesSpec.pre enc Tryz.prog Tryz.f3 [] false w args ∧ laidMet Tryz.prog laidSha w) ∧ sizedMet enc Tryz.prog Tryz.f3 (OpenSpec.ofChange Rows.canonWritesSpec) false w args := rfl


theorem canonWrites_holds : Rows.CanonWritesSaid :=
  OpenClaim.holds_of_wide 3 Tryz.f3 rfl rfl rfl rfl rfl rfl rfl ⟨rfl, rfl, rfl, rfl, rfl⟩ rfl rfl rfl rfl rfl (by kernel_rfl) Tryz.func3 (by kernel_rfl)
    (of_decide_eq_true (by kernel_rfl)) (by unfold Func.isWrapper; rw [if_neg (of_decide_eq_false (by kernel_rfl))]; exact ⟨rfl, rfl⟩)
    (fun os started H enc _ => canonWrites_lifted os started H enc)
theorem canonWrites_card : Rows.CanonWritesCardSaid :=
  Claim7.holds_tied_plain_at .later [] [.data, .data] true (true, "1d943500e676efa8a1db45c6e6fd483dce6573ec8f75c82baf5efeabc188c903") false
    canonWrites_holds (fun _ h => by cases h) (by kernel_rfl) (fun _ h => by cases h) canonWrites_row_tie rfl ⟨rfl, rfl⟩ (by kernel_rfl) rfl
    (fun f fn hf hfn => by
      obtain rfl : f = 3 := Option.some.inj ((show Tryz.prog.funcNamed "tender/tenderlaw09.CanonWrites" = some 3 by kernel_rfl).symm.trans hf) |>.symm
      obtain rfl : fn = Tryz.f3 := (Option.some.inj (Tryz.func3.symm.trans hfn)).symm
      exact ⟨by kernel_rfl, fun j t ht => by
        rw [Tryz.params3] at ht
        have hm : t ∈ [22] := by simpa using Array.mem_of_getElem? ht
        have hall : ([22].all fun u => !Tryz.prog.wantsStandIn u) = true := by kernel_rfl
        exact (show Tryz.prog.wantsStandIn t = false by simpa using List.all_eq_true.1 hall t hm)⟩)
    (by kernel_rfl)
end Go.Proofs.YtjcfphdjgagimaaGreatDoor
