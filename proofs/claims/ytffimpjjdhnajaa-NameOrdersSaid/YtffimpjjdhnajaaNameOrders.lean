/- NameOrders is true for every input: how any texts stand is the document's order: of three texts, too; whatever is under a path stands right behind it, ahead of all other paths that are behind it. No condition beyond the row's own. -/
import Derived.Test.YtffimpjjdhnajaaNameRef2
namespace Go.Proofs.Ytffimpjjdhnajaa
open Go.RowKit

set_option maxRecDepth 100000 in
set_option maxHeartbeats 1000000 in
theorem lives03_any (w : World) : Calls Try.prog 14 #[] w fun e w' => e = .returned (.bool true) ∧ Below w.heap.size w w' := by
  have e1 : cmpT [97, 47, 98] [97, 47, 98, 47, 99] = -1 := by decide
  have e2 : cmpT [97, 47, 98, 47, 99] [97, 45, 98] = -1 := by decide
  have e3 : underB [97, 47, 98, 47, 99] [97, 47, 98] = true := by decide
  have e4 : underB [97, 47, 98, 47, 99] [97] = true := by decide
  have e5 : goodB [97, 47, 47, 98] = false := by decide
  have H1 := Lib.hid (fun w => compare_any ⟨#[97, 47, 98]⟩ ⟨#[97, 47, 98, 47, 99]⟩ (by decide) (by decide) w)
  have H2 := Lib.hid (fun w => compare_any ⟨#[97, 47, 98, 47, 99]⟩ ⟨#[97, 45, 98]⟩ (by decide) (by decide) w)
  have H3 := Lib.hid (fun w => under_any ⟨#[97, 47, 98, 47, 99]⟩ ⟨#[97, 47, 98]⟩ (by decide) (by decide) w)
  have H4 := Lib.hid (fun w => under_any ⟨#[97, 47, 98, 47, 99]⟩ ⟨#[97]⟩ (by decide) (by decide) w)
  have H5 := Lib.hid (fun w => check_any ⟨#[97, 47, 47, 98]⟩ (by decide) w)
  rw [show tl ⟨#[97, 47, 98]⟩ = [97, 47, 98] from rfl, show tl ⟨#[97, 47, 98, 47, 99]⟩ = [97, 47, 98, 47, 99] from rfl, e1] at H1
  rw [show tl ⟨#[97, 45, 98]⟩ = [97, 45, 98] from rfl, show tl ⟨#[97, 47, 98, 47, 99]⟩ = [97, 47, 98, 47, 99] from rfl, e2] at H2
  rw [show tl ⟨#[97, 47, 98]⟩ = [97, 47, 98] from rfl, show tl ⟨#[97, 47, 98, 47, 99]⟩ = [97, 47, 98, 47, 99] from rfl, e3] at H3
  rw [show tl ⟨#[97]⟩ = [97] from rfl, show tl ⟨#[97, 47, 98, 47, 99]⟩ = [97, 47, 98, 47, 99] from rfl, e4] at H4
  rw [show tl ⟨#[97, 47, 47, 98]⟩ = [97, 47, 47, 98] from rfl, e5] at H5
  clear e1 e2 e3 e4 e5
  go_enter Try.func14, Try.ntmps14
  go_wp2_with fail
  refine (H1.out _).mono ?_
  rintro e w1 ⟨rfl, hb1⟩
  replace hb1 := hb1.below
  go_wp2_with fail
  refine (H2.out _).mono ?_
  rintro e w2 ⟨rfl, hb2⟩
  replace hb2 := bthen hb1 hb2.below
  clear hb1
  go_wp2_with fail
  refine (H3.out _).mono ?_
  rintro e w3 ⟨rfl, hb3⟩
  replace hb3 := bthen hb2 hb3
  clear hb2
  go_wp2_with fail
  refine (H4.out _).mono ?_
  rintro e w4 ⟨rfl, hb4⟩
  replace hb4 := bthen hb3 hb4
  clear hb3
  go_wp2_with fail
  refine (H5.out _).mono ?_
  rintro e w5 ⟨rfl, hb5⟩
  replace hb5 := bthen hb4 hb5
  clear hb4
  go_wp2_with fail
  go_ret
  exact ⟨rfl, hb5⟩
set_option maxRecDepth 100000 in
set_option maxHeartbeats 1000000 in
theorem nameOrders_any (a b c : ByteArray) (ha : a.size ≤ 140737488355328) (hb : b.size ≤ 140737488355328) (hc : c.size ≤ 140737488355328) (w : World) : Calls Try.prog 3 #[.string a, .string b, .string c] w fun e w' => e = .returned (.bool true) ∧ Below w.heap.size w w' := by
  by_cases hn : a.size + b.size + c.size ≤ 400
  · have rx := ordP.rng (cutL (tl a)) (cutL (tl b))
    have fx := ordP.flip (cutL (tl a)) (cutL (tl b))
    have qx := cmpT_eq (tl a) (tl b)
    have ry := ordP.rng (cutL (tl b)) (cutL (tl c))
    have tr := ordP.trans (cutL (tl a)) (cutL (tl b)) (cutL (tl c))
    have hu := under_order (a := tl a) (b := tl b) (c := tl c)
    have H1 := Lib.hid (fun w => compare_any a b (by omega) (by omega) w)
    have H2 := Lib.hid (fun w => compare_any b c (by omega) (by omega) w)
    have H3 := Lib.hid (fun w => compare_any a c (by omega) (by omega) w)
    have H4 := Lib.hid (fun w => refCompare_any a b (by omega) (by omega) w)
    have H5 := Lib.hid (fun w => refCompare_any b c (by omega) (by omega) w)
    have H6 := Lib.hid (fun w => refCompare_any a c (by omega) (by omega) w)
    have H7 := Lib.hid (fun w => compare_any b a (by omega) (by omega) w)
    have H8 := Lib.hid (fun w => under_any c a (by omega) (by omega) w)
    have H9 := Lib.hid (fun w => refGood_any b (by omega) w)
    have H10 := Lib.hid (fun w => under_any b a (by omega) (by omega) w)
    rw [show cmpT (tl b) (tl a) = - cmpT (tl a) (tl b) from fx] at H7
    have e1 : (a.toList == b.toList) = (cmpT (tl a) (tl b) == 0) := by
      rw [ByteArray.toList_eq, ByteArray.toList_eq, Bool.eq_iff_iff, beq_iff_eq, beq_iff_eq]
      exact qx.symm
    change cmpT (tl a) (tl b) = -1 ∨ cmpT (tl a) (tl b) = 0 ∨ cmpT (tl a) (tl b) = 1 at rx
    change cmpT (tl a) (tl b) < 0 → cmpT (tl b) (tl c) < 0 → cmpT (tl a) (tl c) < 0 at tr
    clear fx qx
    generalize cmpT (tl a) (tl b) = X at *
    generalize cmpT (tl b) (tl c) = Y at *
    generalize cmpT (tl a) (tl c) = Z at *
    generalize underB (tl c) (tl a) = U at *
    generalize underB (tl b) (tl a) = V at *
    generalize goodB (tl b) = G at *
    have x1 : -1 ≤ X := by omega
    have x2 : X ≤ 1 := by omega
    have TR := Lib.hid tr
    have HU := Lib.hid hu
    clear rx ry tr hu
    have h1 : (a.size : Int) + (b.size : Int) + (c.size : Int) ≤ 400 := by omega
    go_enter Try.func3, Try.ntmps3
    go_wp2_with fail
    refine (H1.out _).mono ?_
    rintro e w1 ⟨rfl, hb1⟩
    replace hb1 := hb1.below
    go_wp2_with fail
    refine (H2.out _).mono ?_
    rintro e w2 ⟨rfl, hb2⟩
    replace hb2 := bthen hb1 hb2.below
    go_wp2_with fail
    refine (H3.out _).mono ?_
    rintro e w3 ⟨rfl, hb3⟩
    replace hb3 := bthen hb2 hb3.below
    go_wp2_with fail
    refine (H4.out _).mono ?_
    rintro e w4 ⟨rfl, hb4⟩
    replace hb4 := bthen hb3 hb4
    go_wp2_with fail
    refine (H5.out _).mono ?_
    rintro e w5 ⟨rfl, hb5⟩
    replace hb5 := bthen hb4 hb5
    go_wp2_with fail
    refine (H6.out _).mono ?_
    rintro e w6 ⟨rfl, hb6⟩
    replace hb6 := bthen hb5 hb6
    go_wp2_with fail
    refine (H7.out _).mono ?_
    rintro e w7 ⟨rfl, hb7⟩
    replace hb7 := bthen hb6 hb7.below
    clear hb1 hb2 hb3 hb4 hb5 hb6
    go_wp2_with fail
    · exfalso
      have := TR.out (by assumption) (by assumption)
      omega
    all_goals
      refine (H8.out _).mono ?_
      rintro e w8 ⟨rfl, hb8⟩
      replace hb8 := bthen hb7 hb8
      cases U
      · go_wp2_with fail
        refine (lives03_any _).mono ?_
        rintro e w9 ⟨rfl, hb9⟩
        go_wp2_with fail
        go_ret
        exact ⟨rfl, bthen hb8 hb9⟩
      · have hz := (HU.out rfl).1
        have HV := Lib.hid (HU.out rfl).2
        subst hz
        go_wp2_with (first
          | (go_at_call 18; refine (H9.out _).mono ?_; rintro e w9 ⟨rfl, hb9⟩; replace hb9 := bthen hb8 hb9)
          | (go_at_call 17; refine (H10.out _).mono ?_; rintro e w10 ⟨rfl, hb10⟩; replace hb10 := bthen hb9 hb10))
        all_goals first
          | (refine (lives03_any _).mono ?_; rintro e w11 ⟨rfl, hb11⟩; go_wp2_with fail; go_ret; refine ⟨rfl, ?_⟩; first | exact bthen hb10 hb11 | exact bthen hb9 hb11 | exact bthen hb8 hb11)
          | (exfalso; have hv := HV.out (by assumption) (by assumption) (by assumption); subst hv; simp at *)
  · have h1 : 400 < (a.size : Int) + (b.size : Int) + (c.size : Int) := by omega
    go_enter Try.func3, Try.ntmps3
    go_wp2_with fail
    refine (lives03_any _).mono ?_
    rintro e w1 ⟨rfl, hb1⟩
    go_wp2_with fail
    go_ret
    exact ⟨rfl, hb1⟩
end Go.Proofs.Ytffimpjjdhnajaa
