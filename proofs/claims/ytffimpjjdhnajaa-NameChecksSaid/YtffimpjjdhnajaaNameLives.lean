/- tenderlaw03: lives. -/
import Derived.Test.YtffimpjjdhnajaaNameFns
namespace Go.Proofs.Ytffimpjjdhnajaa
open Go.RowKit

set_option maxRecDepth 100000 in
set_option maxHeartbeats 1000000 in
theorem lives03_any (w : World) : Calls Try.prog 14 #[] w fun e w' => e = .returned (.bool true) ∧ Below w.heap.size w w' := by
  have e1 : cmpT [97, 47, 98] [97, 47, 98, 47, 99] = -1 := by decide
  have e2 : cmpT [97, 47, 98, 47, 99] [97, 45, 98] = -1 := by decide
  have e3 : underB [97, 47, 98, 47, 99] [97, 47, 98] = true := by decide
  have e4 : underB [97, 47, 98, 47, 99] [97] = true := by decide
  have e5 : goodB [97, 47, 47, 98] = false := by decide
  have H1 := Lib.hid (fun w => compare_any ⟨#[97, 47, 98]⟩ ⟨#[97, 47, 98, 47, 99]⟩ (by decide) (by decide) w)
  have H2 := Lib.hid (fun w => compare_any ⟨#[97, 47, 98, 47, 99]⟩ ⟨#[97, 45, 98]⟩ (by decide) (by decide) w)
  have H3 := Lib.hid (fun w => under_any ⟨#[97, 47, 98, 47, 99]⟩ ⟨#[97, 47, 98]⟩ (by decide) (by decide) w)
  have H4 := Lib.hid (fun w => under_any ⟨#[97, 47, 98, 47, 99]⟩ ⟨#[97]⟩ (by decide) (by decide) w)
  have H5 := Lib.hid (fun w => check_any ⟨#[97, 47, 47, 98]⟩ (by decide) w)
  rw [show tl ⟨#[97, 47, 98]⟩ = [97, 47, 98] from rfl, show tl ⟨#[97, 47, 98, 47, 99]⟩ = [97, 47, 98, 47, 99] from rfl, e1] at H1
  rw [show tl ⟨#[97, 45, 98]⟩ = [97, 45, 98] from rfl, show tl ⟨#[97, 47, 98, 47, 99]⟩ = [97, 47, 98, 47, 99] from rfl, e2] at H2
  rw [show tl ⟨#[97, 47, 98]⟩ = [97, 47, 98] from rfl, show tl ⟨#[97, 47, 98, 47, 99]⟩ = [97, 47, 98, 47, 99] from rfl, e3] at H3
  rw [show tl ⟨#[97]⟩ = [97] from rfl, show tl ⟨#[97, 47, 98, 47, 99]⟩ = [97, 47, 98, 47, 99] from rfl, e4] at H4
  rw [show tl ⟨#[97, 47, 47, 98]⟩ = [97, 47, 47, 98] from rfl, e5] at H5
  clear e1 e2 e3 e4 e5
  go_enter Try.func14, Try.ntmps14
  go_wp2_with fail
  refine (H1.out _).mono ?_
  rintro e w1 ⟨rfl, hb1⟩
  replace hb1 := hb1.below
  go_wp2_with fail
  refine (H2.out _).mono ?_
  rintro e w2 ⟨rfl, hb2⟩
  replace hb2 := bthen hb1 hb2.below
  clear hb1
  go_wp2_with fail
  refine (H3.out _).mono ?_
  rintro e w3 ⟨rfl, hb3⟩
  replace hb3 := bthen hb2 hb3
  clear hb2
  go_wp2_with fail
  refine (H4.out _).mono ?_
  rintro e w4 ⟨rfl, hb4⟩
  replace hb4 := bthen hb3 hb4
  clear hb3
  go_wp2_with fail
  refine (H5.out _).mono ?_
  rintro e w5 ⟨rfl, hb5⟩
  replace hb5 := bthen hb4 hb5
  clear hb4
  go_wp2_with fail
  go_ret
  exact ⟨rfl, hb5⟩
end Go.Proofs.Ytffimpjjdhnajaa
