/- tenderlaw28: lives. -/
import Derived.Test.YtkeledbgmpienaaA09
import Derived.ChangeMaps5

namespace Go.Proofs.Ytkeledbgmpienaa
open Go.RowKit Go.WideShapes Go.ChangeShapes Go.ChangeAt Go.Maps

def lo1 : CV := ⟨⟨#[97]⟩, 0, true, false, 0, 0, 0, 0, 1⟩
def lo2 : CV := ⟨⟨#[97, 47, 98]⟩, 0, true, false, 0, 0, 0, 0, 1⟩
def lo3 : CV := ⟨⟨#[99]⟩, 0, true, false, 1, 0, 0, 0, 1⟩
theorem lo_plan : planS [lo1, lo2, lo3] = [lo2, lo1, lo3] := by kernel_rfl
theorem lo_rem : remB lo2 = true := by kernel_rfl
set_option maxRecDepth 100000 in
set_option maxHeartbeats 1000000 in
theorem lives28_any (w : World) : Calls Try.prog 6 #[] w fun e w' => e = .returned (.bool true) ∧ Below w.heap.size w w' := by
  have hcl : Hid (([lo1, lo2, lo3] : List CV).flatMap CV.cells = [.string ⟨#[97]⟩, .int .i64 0, .bool true, .bool false, .int .i64 0, .int .i64 0, .int .i64 0, .int .i64 0, .int .i64 1, .string ⟨#[97, 47, 98]⟩, .int .i64 0, .bool true, .bool false, .int .i64 0, .int .i64 0, .int .i64 0, .int .i64 0, .int .i64 1, .string ⟨#[99]⟩, .int .i64 0, .bool true, .bool false, .int .i64 1, .int .i64 0, .int .i64 0, .int .i64 0, .int .i64 1]) := rfl
  go_enter Try.func6, Try.ntmps6
  go_wp2_with fail
  refine (orderPlan_any 19 sorts19 (by decide) (some ⟨w.heap.size, 0, none⟩) 3 [lo1, lo2, lo3] (fun b => w.heap.size ≤ b) _ (Rd.lit (by rw [hcl.out]) rfl rfl) ?_ (by decide)).mono ?_
  · intro o ho
    simp only [List.mem_cons, List.not_mem_nil, or_false] at ho
    rcases ho with rfl | rfl | rfl <;> decide
  rintro e w1 ⟨A', c', rfl, hrd, hb⟩
  rw [lo_plan] at hrd ⊢
  have hb1 : Below w.heap.size w w1 := ((Below.refl _ _).alloc (Nat.le_refl _) _).trans (hb.mono (by simp))
  obtain ⟨b, off, rfl, _, hbb, q0⟩ := ch_at (i := 0) hrd.rd (by simp)
  obtain ⟨b', off', e', _, _, q1⟩ := ch_at (i := 1) hrd.rd (by simp)
  obtain ⟨rfl, rfl⟩ : b = b' ∧ off = off' := by simpa using e'
  obtain ⟨b', off', e'', _, _, q2⟩ := ch_at (i := 2) hrd.rd (by simp)
  obtain ⟨rfl, rfl⟩ : b = b' ∧ off = off' := by simpa using e''
  obtain ⟨a0, a1, a2, a3, a4, a5, a6, a7, a8⟩ := q0
  obtain ⟨b0, _, _, _, _, _, _, _, _⟩ := q1
  obtain ⟨c0, _, _, _, _, _, _, _, _⟩ := q2
  replace a0 : w1.cell? ⟨b, off, none⟩ = some (.string ⟨#[97, 47, 98]⟩) := a0
  replace a1 : w1.cell? ⟨b, off + 1, none⟩ = some (.int .i64 0) := a1
  replace a2 : w1.cell? ⟨b, off + 2, none⟩ = some (.bool true) := a2
  replace a3 : w1.cell? ⟨b, off + 3, none⟩ = some (.bool false) := a3
  replace a4 : w1.cell? ⟨b, off + 4, none⟩ = some (.int .i64 0) := a4
  replace a5 : w1.cell? ⟨b, off + 5, none⟩ = some (.int .i64 0) := a5
  replace a6 : w1.cell? ⟨b, off + 6, none⟩ = some (.int .i64 0) := a6
  replace a7 : w1.cell? ⟨b, off + 7, none⟩ = some (.int .i64 0) := a7
  replace a8 : w1.cell? ⟨b, off + 8, none⟩ = some (.int .i64 1) := a8
  replace b0 : w1.cell? ⟨b, off + 9, none⟩ = some (.string ⟨#[97]⟩) := b0
  replace c0 : w1.cell? ⟨b, off + 18, none⟩ = some (.string ⟨#[99]⟩) := c0
  have HR := Lib.hid (fun W => removes_any lo2 W)
  rw [lo_rem] at HR
  have hv2 : lo2.val = .agg #[.string ⟨#[97, 47, 98]⟩, .int .i64 0, .bool true, .bool false, .int .i64 0, .int .i64 0, .int .i64 0, .int .i64 0, .int .i64 1] := rfl
  rw [hv2] at HR
  clear hv2
  clear hrd hb e' e''
  go_wp2_with fail
  refine (HR.out _).mono ?_
  rintro e w2 ⟨rfl, hb2⟩
  go_wp2_with fail
  go_ret
  exact ⟨rfl, hb1.trans (hb2.mono hb1.size)⟩
end Go.Proofs.Ytkeledbgmpienaa

/- tenderlaw28: OrderApplies. -/
namespace Go.Proofs.Ytkeledbgmpienaa
open Go.RowKit Go.WideShapes Go.ChangeShapes Go.ChangeAt Go.Maps

theorem lightF_path {l : List CV} (h : lightF l = true) : ∀ x ∈ l, x.p.size ≤ 1048576 := by
  unfold lightF at h
  simp only [Bool.and_eq_true, decide_eq_true_eq] at h
  intro x hx
  have h1 : ∀ (l : List CV), x ∈ l → x.p.size ≤ lensF l := by
    intro l
    induction l with
    | nil => intro h; cases h
    | cons y l ih =>
      intro h
      unfold lensF at ih ⊢
      rw [List.map_cons, List.sum_cons]
      rcases List.mem_cons.1 h with rfl | h
      · omega
      · have := ih h; omega
  have := h1 l hx
  omega
theorem ItsOwn.itsT {w : World} {base : Nat} {A : Option Addr} {c : Nat} {M : List (List UInt8 × LV)} {T : List (List UInt8 × LP)} (h : ItsOwn w base A c M) (hM : Hid (plainL M = T)) (hok : TreeOk T) : Its w A M := by
  refine h.its ?_ ?_
  · have := hok.len
    rw [← hM.out, plain_len] at this
    omega
  · intro x hx
    have hm : (x.1, x.2.p) ∈ T := by rw [← hM.out]; exact List.mem_map.2 ⟨x, hx, rfl⟩
    obtain ⟨g1, g2, g3⟩ := hok.good _ hm
    have h1 := goodB_len g1
    have h2 : x.2.x.l.length ≤ 4096 := by
      unfold checkN LV.p at g3
      dsimp only at g3
      by_cases h1 : x.2.k = 1
      · rw [if_pos h1] at g3
        by_cases h2 : x.2.x.l.length ≤ 4096
        · exact h2
        · rw [if_neg h2] at g3; simp at g3
      · rw [if_neg h1] at g3
        by_cases h3 : x.2.k = 0 ∨ x.2.k = 2
        · rw [if_pos h3] at g3
          by_cases h4 : x.2.x.l.length = 0
          · omega
          · rw [if_neg h4] at g3; simp at g3
        · rw [if_neg h3] at g3; simp at g3
    dsimp only at h1
    omega
set_option maxRecDepth 100000 in
theorem orderApply_nil (v : Value) (hv : ∃ a, v = .pointer a) (A : Option Addr) (n c : Nat) (w : World) :
    Calls Try.prog 14 #[.pointer none, v, .slice A n c] w fun e w' => e = .returned (.tuple #[.pointer none, .pointer none, .int .i64 1]) ∧ Below w.heap.size w w' := by
  obtain ⟨a, rfl⟩ := hv
  go_enter Try.func14, Try.ntmps14
  go_wp2_with fail
  go_ret3
  exact ⟨rfl, (by repeat (first | exact Below.refl _ _ | refine Below.alloc ?_ (by simp) _ | refine Below.setCell ?_ (by simp) _ | refine Below.drew ?_))⟩

set_option maxRecDepth 100000 in
set_option maxHeartbeats 4000000 in
theorem orderApplies_any (A : Option Addr) (c : Nat) (L1 : List (List UInt8 × LV)) (A' : Option Addr) (c' : Nat) (L2 : List (List UInt8 × LV)) (A'' : Option Addr) (c'' : Nat) (l : List CV) (Z : Nat → Prop) (w : World) (h1 : ItA w A L1) (h2 : ItA w A' L2) (h3 : Chs w Z A'' l) :
    Calls Try.prog 4 #[.slice A L1.length c, .slice A' L2.length c', .slice A'' l.length c''] w fun e w' => e = .returned (.bool true) ∧ Below w.heap.size w w' := by
  have HLA := Lib.hid (lightI_any A c L1 w h1)
  have HLB := Lib.hid (fun W (hW : Below w.heap.size w W) => lightI_any A' c' L2 W (h2.below hW))
  have HLC := Lib.hid (fun W (hW : Below w.heap.size w W) => lightF_any A'' c'' l Z W (h3.below hW))
  have HA := Lib.hid h1
  have HB := Lib.hid h2
  have HC := Lib.hid h3
  clear h1 h2 h3
  rcases hl1 : lightI L1 with _ | _
  · rw [hl1] at HLA
    go_enter Try.func4, Try.ntmps4
    go_wp2_with fail
    refine HLA.out.mono ?_
    rintro e w1 ⟨rfl, hw1⟩
    go_wp2_with fail
    refine (lives28_any _).mono ?_
    rintro e w9 ⟨rfl, hb9⟩
    go_wp2_with fail
    go_ret
    exact ⟨rfl, hw1.trans (hb9.mono hw1.size)⟩
  rw [hl1] at HLA
  rcases hl2 : lightI L2 with _ | _
  · rw [hl2] at HLB
    go_enter Try.func4, Try.ntmps4
    go_wp2_with fail
    refine HLA.out.mono ?_
    rintro e w1 ⟨rfl, hw1⟩
    go_wp2_with fail
    refine (HLB.out _ hw1).mono ?_
    rintro e w2 ⟨rfl, hb2⟩
    have hw2 := hw1.trans (hb2.mono hw1.size)
    go_wp2_with fail
    refine (lives28_any _).mono ?_
    rintro e w9 ⟨rfl, hb9⟩
    go_wp2_with fail
    go_ret
    exact ⟨rfl, hw2.trans (hb9.mono hw2.size)⟩
  rw [hl2] at HLB
  rcases hl3 : lightF l with _ | _
  · rw [hl3] at HLC
    go_enter Try.func4, Try.ntmps4
    go_wp2_with fail
    refine HLA.out.mono ?_
    rintro e w1 ⟨rfl, hw1⟩
    go_wp2_with fail
    refine (HLB.out _ hw1).mono ?_
    rintro e w2 ⟨rfl, hb2⟩
    have hw2 := hw1.trans (hb2.mono hw1.size)
    go_wp2_with fail
    refine (HLC.out _ hw2).mono ?_
    rintro e w3 ⟨rfl, hb3⟩
    have hw3 := hw2.trans (hb3.mono hw2.size)
    go_wp2_with fail
    refine (lives28_any _).mono ?_
    rintro e w9 ⟨rfl, hb9⟩
    go_wp2_with fail
    go_ret
    exact ⟨rfl, hw3.trans (hb9.mono hw3.size)⟩
  rw [hl3] at HLC
  have hn1 := lightI_len hl1
  have hn2 := lightI_len hl2
  have hn3 := lightF_len hl3
  have HPX := Lib.hid (lightF_path hl3)
  clear hl1 hl2 hl3
  go_enter Try.func4, Try.ntmps4
  go_wp2_with fail
  refine HLA.out.mono ?_
  rintro e w1 ⟨rfl, hw1⟩
  go_wp2_with fail
  refine (HLB.out _ hw1).mono ?_
  rintro e w2 ⟨rfl, hb2⟩
  have hw2 := hw1.trans (hb2.mono hw1.size)
  go_wp2_with fail
  refine (HLC.out _ hw2).mono ?_
  rintro e w3 ⟨rfl, hb3⟩
  have hw3 := hw2.trans (hb3.mono hw2.size)
  clear HLA HLB HLC hb2 hb3
  go_wp2_with fail
  refine (plays08_any A c L1 w3 (HA.out.below hw3) hn1).mono ?_
  rintro e w4 ⟨tb1, mo1, La, B1, d1, M1, rfl, hP1, _, _, hb4⟩
  have hw4 := hw3.trans (hb4.mono hw3.size)
  have HP1 := Lib.hid hP1
  have HOK1 : Hid (TreeOk (playS [] (plainL L1))) := Lib.hid (by rw [← hP1.plain.out]; exact hP1.tree.plain)
  generalize playS [] (plainL L1) = T1 at *
  clear hP1 hb4 hn1 HA
  go_wp2_with fail
  refine (plays08_any A' c' L2 w4 (HB.out.below hw4) hn2).mono ?_
  rintro e w5 ⟨tb2, mo2, Lb, B2, d2, M2, rfl, hP2, _, _, hb5⟩
  have hw5 := hw4.trans (hb5.mono hw4.size)
  have HP2 := Lib.hid hP2
  have HOK2 : Hid (TreeOk (playS [] (plainL L2))) := Lib.hid (by rw [← hP2.plain.out]; exact hP2.tree.plain)
  generalize playS [] (plainL L2) = T2 at *
  replace HP1 := Lib.hid (HP1.out.below hb5)
  clear hP2 hb5 hn2 HB
  have HAP := Lib.hid (orderApply_any tb1 mo1 La tb2 mo2 Lb A'' c'' l Z w5 HP1.out.tree HP2.out.tree (HC.out.below hw5).rd HPX.out (by omega))
  have HAR := Lib.hid (fun W (hW : Below w5.heap.size w5 W) => orderApplyR_any B1 d1 M1 B2 d2 M2 A'' c'' l Z W (HP1.out.its.below hW) (HP2.out.its.below hW) (by rw [HP1.out.same.out]; exact HOK1.out) (by rw [HP2.out.same.out]; exact HOK2.out) ((HC.out.below hw5).below hW).rd HPX.out (by omega))
  rw [HP1.out.plain.out, HP2.out.plain.out] at HAP
  rw [HP1.out.same.out, HP2.out.same.out] at HAR
  go_wp2_with fail
  refine HAP.out.mono ?_
  rintro e w6 ⟨R, hR, hb6, hcase⟩
  have hw6 := hw5.trans (hb6.mono hw5.size)
  replace HAR := Lib.hid (HAR.out w6 hb6)
  rw [← hR.out] at HAR
  replace HP1 := Lib.hid (HP1.out.below hb6)
  replace HP2 := Lib.hid (HP2.out.below hb6)
  clear HAP hR hb6
  rcases hcase with ⟨h0, ca, mca, Ka, cb, mcb, Kb, rfl, hKa, hKb, hka, hkb⟩ | ⟨h0, rfl⟩
  · have HKa := Lib.hid hKa
    have HKb := Lib.hid hKb
    have HRa : Hid (TreeOk R.1) := Lib.hid (by rw [← hka.out]; exact hKa.plain)
    have HRb : Hid (TreeOk R.2.1) := Lib.hid (by rw [← hkb.out]; exact hKb.plain)
    have H0 := Lib.hid h0
    clear hKa hKb h0
    go_wp2_with fail
    refine HAR.out.mono ?_
    rintro e w7 ⟨R', hR', hb7, hcase'⟩
    have hw7 := hw6.trans (hb7.mono hw6.size)
    obtain ⟨A8, c8, Ma, B8, d8, Mb, rfl, hIa, hIb, hma, hmb⟩ : ∃ A1 c1 Ka B1 d1 Kb, e = .returned (.tuple #[.slice A1 Ka.length c1, .slice B1 Kb.length d1, .int .i64 0]) ∧ Its w7 A1 Ka ∧ Its w7 B1 Kb ∧ Hid (plainL Ka = R.1) ∧ Hid (plainL Kb = R.2.1) := by
      rw [hR'.out] at hcase'
      rcases hcase' with ⟨_, hx⟩ | ⟨hx, _⟩
      · exact hx
      · exact absurd H0.out hx
    have HIa := Lib.hid hIa
    have HIb := Lib.hid hIb
    replace HP1 := Lib.hid (HP1.out.below hb7)
    replace HP2 := Lib.hid (HP2.out.below hb7)
    replace HKa := Lib.hid (HKa.out.below hb7)
    replace HKb := Lib.hid (HKb.out.below hb7)
    clear hIa hIb hR' hcase' HAR hb7 H0
    generalize R.1 = Ra at *
    generalize R.2.1 = Rb at *
    go_wp2_with fail
    refine (treeItems_any sortsT tb1 mo1 La w7 HP1.out.tree).mono ?_
    rintro e w8 ⟨A3, c3, M3, rfl, hM3, hO3, hb3⟩
    have hM3' : Hid (plainL M3 = T1) := Lib.hid (hM3.out.trans HP1.out.plain.out)
    have hI3 := Lib.hid (hO3.itsT hM3' HOK1.out)
    replace HP1 := Lib.hid (HP1.out.below hb3)
    replace HP2 := Lib.hid (HP2.out.below hb3)
    replace HKa := Lib.hid (HKa.out.below hb3)
    replace HKb := Lib.hid (HKb.out.below hb3)
    replace HIa := Lib.hid (HIa.out.below hb3)
    replace HIb := Lib.hid (HIb.out.below hb3)
    have hw8 := hw7.trans (hb3.mono hw7.size)
    have HSM := Lib.hid (refSame08_any A3 B1 c3 d1 M3 M1 w8 hI3.out HP1.out.its)
    rw [hM3'.out, HP1.out.same.out, show decide (T1 = T1) = true by simp] at HSM
    clear hM3 hO3 hb3 hM3' hI3
    go_wp2_with fail
    refine HSM.out.mono ?_
    rintro e w9 ⟨rfl, hb4⟩
    replace HP1 := Lib.hid (HP1.out.below hb4)
    replace HP2 := Lib.hid (HP2.out.below hb4)
    replace HKa := Lib.hid (HKa.out.below hb4)
    replace HKb := Lib.hid (HKb.out.below hb4)
    replace HIa := Lib.hid (HIa.out.below hb4)
    replace HIb := Lib.hid (HIb.out.below hb4)
    have hw9 := hw8.trans (hb4.mono hw8.size)
    clear HSM hb4
    go_wp2_with fail
    refine (treeItems_any sortsT tb2 mo2 Lb w9 HP2.out.tree).mono ?_
    rintro e w10 ⟨A3, c3, M3, rfl, hM3, hO3, hb3⟩
    have hM3' : Hid (plainL M3 = T2) := Lib.hid (hM3.out.trans HP2.out.plain.out)
    have hI3 := Lib.hid (hO3.itsT hM3' HOK2.out)
    replace HP1 := Lib.hid (HP1.out.below hb3)
    replace HP2 := Lib.hid (HP2.out.below hb3)
    replace HKa := Lib.hid (HKa.out.below hb3)
    replace HKb := Lib.hid (HKb.out.below hb3)
    replace HIa := Lib.hid (HIa.out.below hb3)
    replace HIb := Lib.hid (HIb.out.below hb3)
    have hw10 := hw9.trans (hb3.mono hw9.size)
    have HSM := Lib.hid (refSame08_any A3 B2 c3 d2 M3 M2 w10 hI3.out HP2.out.its)
    rw [hM3'.out, HP2.out.same.out, show decide (T2 = T2) = true by simp] at HSM
    clear hM3 hO3 hb3 hM3' hI3
    go_wp2_with fail
    refine HSM.out.mono ?_
    rintro e w11 ⟨rfl, hb4⟩
    replace HP1 := Lib.hid (HP1.out.below hb4)
    replace HP2 := Lib.hid (HP2.out.below hb4)
    replace HKa := Lib.hid (HKa.out.below hb4)
    replace HKb := Lib.hid (HKb.out.below hb4)
    replace HIa := Lib.hid (HIa.out.below hb4)
    replace HIb := Lib.hid (HIb.out.below hb4)
    have hw11 := hw10.trans (hb4.mono hw10.size)
    clear HSM hb4
    go_wp2_with fail
    refine (orderApply_nil (.pointer (some ⟨tb2, 0, none⟩)) ⟨_, rfl⟩ A'' l.length c'' w11).mono ?_
    rintro e w12 ⟨rfl, hb4⟩
    replace HP1 := Lib.hid (HP1.out.below hb4)
    replace HP2 := Lib.hid (HP2.out.below hb4)
    replace HKa := Lib.hid (HKa.out.below hb4)
    replace HKb := Lib.hid (HKb.out.below hb4)
    replace HIa := Lib.hid (HIa.out.below hb4)
    replace HIb := Lib.hid (HIb.out.below hb4)
    have hw12 := hw11.trans (hb4.mono hw11.size)
    clear hb4
    go_wp2_with fail
    refine (treeItems_any sortsT ca mca Ka w12 HKa.out).mono ?_
    rintro e w13 ⟨A3, c3, M3, rfl, hM3, hO3, hb3⟩
    have hM3' : Hid (plainL M3 = Ra) := Lib.hid (hM3.out.trans hka.out)
    have hI3 := Lib.hid (hO3.itsT hM3' HRa.out)
    replace HP1 := Lib.hid (HP1.out.below hb3)
    replace HP2 := Lib.hid (HP2.out.below hb3)
    replace HKa := Lib.hid (HKa.out.below hb3)
    replace HKb := Lib.hid (HKb.out.below hb3)
    replace HIa := Lib.hid (HIa.out.below hb3)
    replace HIb := Lib.hid (HIb.out.below hb3)
    have hw13 := hw12.trans (hb3.mono hw12.size)
    have HSM := Lib.hid (refSame08_any A3 A8 c3 c8 M3 Ma w13 hI3.out HIa.out)
    rw [hM3'.out, hma.out, show decide (Ra = Ra) = true by simp] at HSM
    clear hM3 hO3 hb3 hM3' hI3
    go_wp2_with fail
    refine HSM.out.mono ?_
    rintro e w14 ⟨rfl, hb4⟩
    replace HP1 := Lib.hid (HP1.out.below hb4)
    replace HP2 := Lib.hid (HP2.out.below hb4)
    replace HKa := Lib.hid (HKa.out.below hb4)
    replace HKb := Lib.hid (HKb.out.below hb4)
    replace HIa := Lib.hid (HIa.out.below hb4)
    replace HIb := Lib.hid (HIb.out.below hb4)
    have hw14 := hw13.trans (hb4.mono hw13.size)
    clear HSM hb4
    go_wp2_with fail
    refine (treeItems_any sortsT cb mcb Kb w14 HKb.out).mono ?_
    rintro e w15 ⟨A3, c3, M3, rfl, hM3, hO3, hb3⟩
    have hM3' : Hid (plainL M3 = Rb) := Lib.hid (hM3.out.trans hkb.out)
    have hI3 := Lib.hid (hO3.itsT hM3' HRb.out)
    replace HP1 := Lib.hid (HP1.out.below hb3)
    replace HP2 := Lib.hid (HP2.out.below hb3)
    replace HKa := Lib.hid (HKa.out.below hb3)
    replace HKb := Lib.hid (HKb.out.below hb3)
    replace HIa := Lib.hid (HIa.out.below hb3)
    replace HIb := Lib.hid (HIb.out.below hb3)
    have hw15 := hw14.trans (hb3.mono hw14.size)
    have HSM := Lib.hid (refSame08_any A3 B8 c3 d8 M3 Mb w15 hI3.out HIb.out)
    rw [hM3'.out, hmb.out, show decide (Rb = Rb) = true by simp] at HSM
    clear hM3 hO3 hb3 hM3' hI3
    go_wp2_with fail
    refine HSM.out.mono ?_
    rintro e w16 ⟨rfl, hb4⟩
    replace HP1 := Lib.hid (HP1.out.below hb4)
    replace HP2 := Lib.hid (HP2.out.below hb4)
    replace HKa := Lib.hid (HKa.out.below hb4)
    replace HKb := Lib.hid (HKb.out.below hb4)
    replace HIa := Lib.hid (HIa.out.below hb4)
    replace HIb := Lib.hid (HIb.out.below hb4)
    have hw16 := hw15.trans (hb4.mono hw15.size)
    clear HSM hb4
    go_wp2_with fail
    refine (lives28_any _).mono ?_
    rintro e w9 ⟨rfl, hb9⟩
    go_wp2_with fail
    go_ret
    exact ⟨rfl, hw16.trans (hb9.mono hw16.size)⟩
  · obtain ⟨E, hE⟩ : ∃ E, E = R.2.2 := ⟨_, rfl⟩
    rw [← hE]
    have hfb : (E != 0) = true := by rw [hE]; simpa using h0
    have H0 := Lib.hid h0
    have HE := Lib.hid hE
    clear h0 hE
    go_wp2_with fail
    refine HAR.out.mono ?_
    rintro e w7 ⟨R', hR', hb7, hcase'⟩
    have hw7 := hw6.trans (hb7.mono hw6.size)
    obtain rfl : e = .returned (.tuple #[.slice none 0 0, .slice none 0 0, .int .i64 E]) := by
      rw [hR'.out, ← HE.out] at hcase'
      rcases hcase' with ⟨hx, _⟩ | ⟨_, hx⟩
      · exact absurd (HE.out.symm.trans hx) H0.out
      · exact hx
    replace HP1 := Lib.hid (HP1.out.below hb7)
    replace HP2 := Lib.hid (HP2.out.below hb7)
    clear hR' hcase' HAR hb7 H0 HE
    go_wp2_with fail
    refine (treeItems_any sortsT tb1 mo1 La w7 HP1.out.tree).mono ?_
    rintro e w8 ⟨A3, c3, M3, rfl, hM3, hO3, hb3⟩
    have hM3' : Hid (plainL M3 = T1) := Lib.hid (hM3.out.trans HP1.out.plain.out)
    have hI3 := Lib.hid (hO3.itsT hM3' HOK1.out)
    replace HP1 := Lib.hid (HP1.out.below hb3)
    replace HP2 := Lib.hid (HP2.out.below hb3)
    have hw8 := hw7.trans (hb3.mono hw7.size)
    have HSM := Lib.hid (refSame08_any A3 B1 c3 d1 M3 M1 w8 hI3.out HP1.out.its)
    rw [hM3'.out, HP1.out.same.out, show decide (T1 = T1) = true by simp] at HSM
    clear hM3 hO3 hb3 hM3' hI3
    go_wp2_with fail
    refine HSM.out.mono ?_
    rintro e w9 ⟨rfl, hb4⟩
    replace HP1 := Lib.hid (HP1.out.below hb4)
    replace HP2 := Lib.hid (HP2.out.below hb4)
    have hw9 := hw8.trans (hb4.mono hw8.size)
    clear HSM hb4
    go_wp2_with fail
    refine (treeItems_any sortsT tb2 mo2 Lb w9 HP2.out.tree).mono ?_
    rintro e w10 ⟨A3, c3, M3, rfl, hM3, hO3, hb3⟩
    have hM3' : Hid (plainL M3 = T2) := Lib.hid (hM3.out.trans HP2.out.plain.out)
    have hI3 := Lib.hid (hO3.itsT hM3' HOK2.out)
    replace HP1 := Lib.hid (HP1.out.below hb3)
    replace HP2 := Lib.hid (HP2.out.below hb3)
    have hw10 := hw9.trans (hb3.mono hw9.size)
    have HSM := Lib.hid (refSame08_any A3 B2 c3 d2 M3 M2 w10 hI3.out HP2.out.its)
    rw [hM3'.out, HP2.out.same.out, show decide (T2 = T2) = true by simp] at HSM
    clear hM3 hO3 hb3 hM3' hI3
    go_wp2_with fail
    refine HSM.out.mono ?_
    rintro e w11 ⟨rfl, hb4⟩
    replace HP1 := Lib.hid (HP1.out.below hb4)
    replace HP2 := Lib.hid (HP2.out.below hb4)
    have hw11 := hw10.trans (hb4.mono hw10.size)
    clear HSM hb4
    go_wp2_with fail
    refine (orderApply_nil (.pointer (some ⟨tb2, 0, none⟩)) ⟨_, rfl⟩ A'' l.length c'' w11).mono ?_
    rintro e w12 ⟨rfl, hb4⟩
    replace HP1 := Lib.hid (HP1.out.below hb4)
    replace HP2 := Lib.hid (HP2.out.below hb4)
    have hw12 := hw11.trans (hb4.mono hw11.size)
    clear hb4
    go_wp2_with fail
    refine (lives28_any _).mono ?_
    rintro e w9 ⟨rfl, hb9⟩
    go_wp2_with fail
    go_ret
    exact ⟨rfl, hw12.trans (hb9.mono hw12.size)⟩

end Go.Proofs.Ytkeledbgmpienaa

/- Arguments opened: strings. -/
namespace Go.Proofs.Ytkeledbgmpienaa
open Go.RowKit Go.WideShapes Go.ChangeShapes Go.ChangeAt Go.ChangeMaps

section
variable {H : Type} {enc : TypeId × Value → H} {w : World} {spare : Nat → Bool} {held : Bool}
set_option maxRecDepth 100000 in
/-- a string -/
theorem open_str {r : Reach} {b0 : Nat} {v : Value} {d : DataW H} {p : List MemPlace} (hv : Value.okWide Try.prog w r b0 9 v) (h : DataW.Trod enc Try.prog w 0 spare held 9 v d p) (hw : Within 9 (d, p)) :
    ∃ s : ByteArray, v = .string s ∧ s.size ≤ 140737488355328 := by
  obtain ⟨s, rfl, hd, _, _⟩ := open_string Try.underlying9 hv h
  refine ⟨s, rfl, ?_⟩
  have h1 := hw s.data.toList.length (by rw [hd]; simp [DataW.weights])
  have h2 := reachBytes_lt
  have h3 : s.data.toList.length = s.size := tl_len s
  omega
end

end Go.Proofs.Ytkeledbgmpienaa

/- api.Change: as an argument, in slices. -/
namespace Go.Proofs.Ytkeledbgmpienaa
open Go.RowKit Go.WideShapes Go.ChangeShapes Go.ChangeAt Go.ChangeMaps Go.Deep Go.Joins

section
variable {H : Type} {enc : TypeId × Value → H} {w : World} {spare : Nat → Bool} {held : Bool}
theorem list9c {α : Type} {l : List α} (h : l.length = 9) : ∃ a0 a1 a2 a3 a4 a5 a6 a7 a8, l = [a0, a1, a2, a3, a4, a5, a6, a7, a8] := by
  match l, h with
  | [a0, a1, a2, a3, a4, a5, a6, a7, a8], _ => exact ⟨_, _, _, _, _, _, _, _, _, rfl⟩
theorem str_within {b : List UInt8} {p : List MemPlace} (hw : Within 9 ((DataW.lit (Lit.string b) : DataW H), p)) : b.length ≤ 140737488355328 := by
  have h1 := hw b.length (by simp [DataW.weights])
  have h2 := reachBytes_lt
  omega
set_option maxRecDepth 100000 in
theorem open_chg {n : Nat} {cs : List Value} {x : DataW H × List MemPlace} (h : DataW.trod enc Try.prog w 0 spare held n 26 cs = some x) (hw : Within 26 x) :
    ∃ o : CV, cs = o.cells ∧ o.p.size ≤ 140737488355328 := by
  obtain ⟨ys, n', hcl, hyl, hf⟩ := open_st Try.underlying26 (by kernel_rfl) h (by kernel_rfl) hw
  obtain ⟨a0, a1, a2, a3, a4, a5, a6, a7, a8, rfl⟩ := list9c hcl
  obtain ⟨y0, y1, y2, y3, y4, y5, y6, y7, y8, rfl⟩ := list9c hyl
  obtain ⟨f0, w0⟩ := hf 0 _ _ _ rfl rfl rfl
  obtain ⟨f1, _⟩ := hf 1 _ _ _ rfl rfl rfl
  obtain ⟨f2, _⟩ := hf 2 _ _ _ rfl rfl rfl
  obtain ⟨f3, _⟩ := hf 3 _ _ _ rfl rfl rfl
  obtain ⟨f4, _⟩ := hf 4 _ _ _ rfl rfl rfl
  obtain ⟨f5, _⟩ := hf 5 _ _ _ rfl rfl rfl
  obtain ⟨f6, _⟩ := hf 6 _ _ _ rfl rfl rfl
  obtain ⟨f7, _⟩ := hf 7 _ _ _ rfl rfl rfl
  obtain ⟨f8, _⟩ := hf 8 _ _ _ rfl rfl rfl
  obtain ⟨p, e0, hx0, _⟩ := DataW.trod_string Try.underlying9 f0
  obtain rfl := List.singleton_inj.1 e0
  obtain ⟨v1, e1, _, _⟩ := DataW.trod_int Try.underlying3 f1
  obtain rfl := List.singleton_inj.1 e1
  obtain ⟨v2, e2, _⟩ := DataW.trod_bool Try.underlying4 f2
  obtain rfl := List.singleton_inj.1 e2
  obtain ⟨v3, e3, _⟩ := DataW.trod_bool Try.underlying4 f3
  obtain rfl := List.singleton_inj.1 e3
  obtain ⟨v4, e4, _, _⟩ := DataW.trod_int Try.underlying3 f4
  obtain rfl := List.singleton_inj.1 e4
  obtain ⟨v5, e5, _, _⟩ := DataW.trod_int Try.underlying3 f5
  obtain rfl := List.singleton_inj.1 e5
  obtain ⟨v6, e6, _, _⟩ := DataW.trod_int Try.underlying3 f6
  obtain rfl := List.singleton_inj.1 e6
  obtain ⟨v7, e7, _, _⟩ := DataW.trod_int Try.underlying3 f7
  obtain rfl := List.singleton_inj.1 e7
  obtain ⟨v8, e8, _, _⟩ := DataW.trod_int Try.underlying3 f8
  obtain rfl := List.singleton_inj.1 e8
  refine ⟨⟨p, v1, v2, v3, v4, v5, v6, v7, v8⟩, rfl, ?_⟩
  rw [hx0] at w0
  have h1 := str_within w0
  have h2 : p.data.toList.length = p.size := tl_len p
  show p.size ≤ _
  omega
set_option maxRecDepth 100000 in
theorem open_chv {r : Reach} {b0 : Nat} {v : Value} {d : DataW H} {p : List MemPlace} (hv : Value.okWide Try.prog w r b0 26 v) (h : DataW.Trod enc Try.prog w 0 spare held 26 v d p) (hw : Within 26 (d, p)) :
    ∃ o : CV, v = o.val ∧ o.p.size ≤ 140737488355328 := by
  obtain ⟨cs, rfl, hsz⟩ := okWide_struct Try.underlying26 hv
  obtain ⟨l⟩ := cs
  obtain ⟨n, hn⟩ := h
  obtain ⟨o, e, ho⟩ := open_chg (cs := l) hn hw
  subst e
  exact ⟨o, rfl, ho⟩
set_option maxRecDepth 100000 in
theorem open_chs {n : Nat} {v : Value} {x : DataW H × List MemPlace} (h : DataW.trod enc Try.prog w 0 spare held n 22 [v] = some x) (hw : Within 22 x) :
    ∃ (A : Option Addr) (c : Nat) (l : List CV), v = .slice A l.length c ∧ Chs w (fun b => b < w.heap.size) A l := by
  obtain ⟨A, c, l, rfl, _, _, h3, h4, h5⟩ := open_sl (w := w) (enc := enc) (spare := spare) (held := held) CV.cells (fun o => o.p.size ≤ 140737488355328) 9 72 (t := 22) (e := 26) Try.underlying22 (by kernel_rfl) (by kernel_rfl) (by omega) (fun n cs x hx hx2 => open_chg hx hx2) h hw
  refine ⟨A, c, l, rfl, h3, h4, ?_⟩
  have := reachBytes_lt
  omega
end
end Go.Proofs.Ytkeledbgmpienaa
