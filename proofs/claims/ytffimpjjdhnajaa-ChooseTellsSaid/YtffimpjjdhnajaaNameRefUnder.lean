/- tenderref03: Under. -/
import Derived.Test.YtffimpjjdhnajaaNameRef
namespace Go.Proofs.Ytffimpjjdhnajaa
open Go.RowKit

theorem refGood_yes (s : ByteArray) (hs : s.size ≤ 9223372036854775807) (h : goodB (tl s) = true) (w : World) : Calls Try.prog 18 #[.string s] w fun e w' => e = .returned (.bool true) ∧ Below w.heap.size w w' := by
  have := refGood_any s hs w
  rwa [h] at this
theorem refGood_no (s : ByteArray) (hs : s.size ≤ 9223372036854775807) (h : goodB (tl s) = false) (w : World) : Calls Try.prog 18 #[.string s] w fun e w' => e = .returned (.bool false) ∧ Below w.heap.size w w' := by
  have := refGood_any s hs w
  rwa [h] at this
/-- by parts -/
theorem preB_parts (p top : List UInt8) : preB p top = (decide ((cutL top).length < (cutL p).length) && ((cutL p).take (cutL top).length == cutL top)) := by
  rw [Bool.eq_iff_iff, preB_iff]
  simp only [Bool.and_eq_true, decide_eq_true_eq, beq_iff_eq]
  constructor
  · rintro ⟨T, hT, e⟩
    rw [e]
    have := List.length_pos_iff.2 hT
    exact ⟨by rw [List.length_append]; omega, List.take_left' rfl⟩
  · rintro ⟨h1, h2⟩
    refine ⟨(cutL p).drop (cutL top).length, fun e => ?_, ?_⟩
    · have := List.drop_eq_nil_iff.1 e
      omega
    · conv => lhs; rw [← List.take_append_drop (cutL top).length (cutL p), h2]

set_option maxRecDepth 100000 in
set_option maxHeartbeats 1000000 in
theorem refUnder_any (p top : ByteArray) (hp : p.size ≤ 9223372036854775807) (ht : top.size ≤ 9223372036854775807) (w : World) : Calls Try.prog 26 #[.string p, .string top] w fun e w' => e = .returned (.bool (underB (tl p) (tl top))) ∧ Below w.heap.size w w' := by
  obtain ⟨M, hM⟩ : ∃ M, M = underB (tl p) (tl top) := ⟨_, rfl⟩
  rw [← hM]
  cases gp : goodB (tl p)
  · have HP := Lib.hid (refGood_no p hp gp)
    have HM : Hid (M = false) := by show _ = _; rw [hM]; unfold underB; rw [gp]; rfl
    clear gp hM
    go_enter Try.func26, Try.ntmps26
    go_wp2_with fail
    refine (HP.out _).mono ?_
    rintro e w1 ⟨rfl, hb1⟩
    go_wp2_with fail
    go_ret
    exact ⟨ret_b HM.out.symm, hb1⟩
  have HP := Lib.hid (refGood_yes p hp gp)
  cases gt : goodB (tl top)
  · have HT := Lib.hid (refGood_no top ht gt)
    have HM : Hid (M = false) := by show _ = _; rw [hM]; unfold underB; rw [gp, gt]; rfl
    clear gp gt hM
    go_enter Try.func26, Try.ntmps26
    go_wp2_with fail
    refine (HP.out _).mono ?_
    rintro e w1 ⟨rfl, hb1⟩
    go_wp2_with fail
    refine (HT.out _).mono ?_
    rintro e w2 ⟨rfl, hb2⟩
    go_wp2_with fail
    go_ret
    exact ⟨ret_b HM.out.symm, bthen hb1 hb2⟩
  have HT := Lib.hid (refGood_yes top ht gt)
  have hp96 := goodB_len gp
  have ht96 := goodB_len gt
  rw [tl_len] at hp96 ht96
  have HM : Hid (M = (decide ((cutL (tl top)).length < (cutL (tl p)).length) && ((cutL (tl p)).take (cutL (tl top)).length == cutL (tl top)))) := by
    show _ = _; rw [hM]; unfold underB; rw [gp, gt, preB_parts]; rfl
  clear gp gt hM
  go_enter Try.func26, Try.ntmps26
  go_wp2_with fail
  refine (HP.out _).mono ?_
  rintro e w1 ⟨rfl, hb1⟩
  go_wp2_with fail
  refine (HT.out _).mono ?_
  rintro e w2 ⟨rfl, hb2⟩
  replace hb2 := bthen hb1 hb2
  go_wp2_with fail
  refine (refCut_any p (by omega) _).mono ?_
  rintro e w3 ⟨A, c, x, rfl, hx, hsx, hb3⟩
  replace hb3 := bthen hb2 hb3
  go_wp2_with fail
  refine (refCut_any top (by omega) _).mono ?_
  rintro e w4 ⟨A', c', y, rfl, hy, hsy, hb4⟩
  replace hsx := hsx.below hb4
  replace hb4 := bthen hb3 hb4
  have hxl : x.length ≤ 97 := by
    have := cutL_len (tl p)
    rw [hx.out]
    rw [tl_len] at this
    omega
  have hyl : y.length ≤ 97 := by
    have := cutL_len (tl top)
    rw [hy.out]
    rw [tl_len] at this
    omega
  have HR2 : Hid (M = (decide (y.length < x.length) && (x.take y.length == y))) := by show _ = _; rw [HM.out, hx.out, hy.out]
  clear HM hx hy hb1 hb2 hb3
  by_cases hle : x.length ≤ y.length
  · go_wp2_with fail
    go_ret
    refine ⟨ret_b ?_, hb4⟩
    rw [HR2.out, decide_eq_false (by omega)]; rfl
  · have hgt : (y.length : Int) < (x.length : Int) := by omega
    go_wp2_with fail
    go_loopw [7] (fun iv wr => ∃ i : Nat, i ≤ y.length ∧ iv = .int .i64 (i : Int) ∧ Hid (x.take i = y.take i) ∧ Qt w4 wr) (fun iv _ => y.length - (intOf iv).toNat)
    case atStart => exact ⟨0, Nat.zero_le _, rfl, rfl, Qt.refl _⟩
    case round =>
      obtain ⟨i, hi, rfl, hz, hq⟩ := hrel
      by_cases hlt : i < y.length
      · obtain ⟨xi, hxi⟩ : ∃ z, x[i]? = some z := ⟨_, List.getElem?_eq_getElem (by omega)⟩
        obtain ⟨yi, hyi⟩ : ∃ z, y[i]? = some z := ⟨_, List.getElem?_eq_getElem hlt⟩
        obtain ⟨g, off, rfl, hgb, hgl, hcell, hfz⟩ := (hsx.below hq.below).get hxi
        obtain ⟨g', off', rfl, hgb', hgl', hcell', hfz'⟩ := (hsy.below hq.below).get hyi
        have HN : Hid (xi = yi → x.take (i + 1) = y.take (i + 1)) := by
          intro e
          rw [List.take_add_one, List.take_add_one, hz.out, hxi, hyi, e]
        have HD : Hid (xi ≠ yi → M = false) := by
          intro hne
          rw [HR2.out, Bool.and_eq_false_iff]
          right
          rw [beq_eq_false_iff_ne]
          intro e
          have h1 : (x.take y.length)[i]? = x[i]? := by rw [List.getElem?_take, if_pos hlt]
          rw [e, hxi, hyi] at h1
          injection h1 with h1
          exact hne h1.symm
        have b1 : (i : Int) < (x.length : Int) := by omega
        clear hxi hyi hz hfz hfz'
        unfold stv at hcell hcell'
        by_cases hxy : xi = yi
        · have hn : (!xi == yi) = false := by simp [hxy]
          have HN2 := Lib.hid (HN.out hxy)
          clear HN HD hxy
          go_wp2_with fail
          go_quiet (fail)
          go_wp2_with fail
          go_roundw
          case rel => exact ⟨i + 1, hlt, by go_num, HN2.out, hq.trans ⟨_, rfl⟩⟩
          case measure => simp [intOf]; omega
        · have hn : (!xi == yi) = true := by simp [hxy]
          have HD2 := Lib.hid (HD.out hxy)
          clear HN HD hxy
          go_wp2_with fail
          go_quiet (fail)
          go_wp2_with fail
          go_ret
          exact ⟨ret_b HD2.out.symm, bthen hb4 (hq.trans ⟨_, rfl⟩).below⟩
      · go_wp2_with fail
        go_ret
        refine ⟨ret_b ?_, bthen hb4 hq.below⟩
        have e : i = y.length := by omega
        have h2 := hz.out
        rw [e, List.take_length] at h2
        rw [HR2.out, h2, decide_eq_true (by omega)]
        simp
end Go.Proofs.Ytffimpjjdhnajaa
