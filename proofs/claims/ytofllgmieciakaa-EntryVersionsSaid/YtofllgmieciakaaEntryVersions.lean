/- EntryVersions: the version of any session and count, and what any number is as a version, is the document's. No condition. -/
import Derived.Test.YtofllgmieciakaaLift
namespace Go.Proofs.Ytofllgmieciakaa
open Go.RowKit Go.WideShapes Go.ChangeShapes Go.ChangeAt

/-- a good session and count -/
def goodV (s c : Int) : Bool := decide (1 ≤ s) && decide (s ≤ 1099511627776) && decide (1 ≤ c) && decide (c ≤ 1048575)
theorem goodV_iff {s c : Int} : goodV s c = true ↔ 1 ≤ s ∧ s ≤ 1099511627776 ∧ 1 ≤ c ∧ c ≤ 1048575 := by
  unfold goodV; simp [and_assoc]
theorem goodV_not {s c : Int} : goodV s c = false ↔ ¬ (1 ≤ s ∧ s ≤ 1099511627776 ∧ 1 ≤ c ∧ c ≤ 1048575) := by
  rw [← goodV_iff]; simp

theorem or_ver {s c : Int} (h1 : 0 ≤ s) (h2 : s ≤ 1099511627776) (h3 : 0 ≤ c) (h4 : c ≤ 1048575) : bits .or .u64 (s * 1048576) c = s * 1048576 + c := by
  obtain ⟨a, rfl⟩ := Int.eq_ofNat_of_zero_le h1
  obtain ⟨b, rfl⟩ := Int.eq_ofNat_of_zero_le h3
  rw [u64_or _ _ (by omega) (by omega) (by omega) (by omega)]
  have e : ((a : Int) * 1048576).toNat = a * 1048576 := by omega
  rw [e, Int.toNat_natCast, nat_join 20 (a * 1048576) b (by omega) (by omega)]
  omega

set_option maxHeartbeats 400000 in
theorem version_good (s c : Int) (w : World) (h : goodV s c = true) :
    Calls Try.prog 9 #[.int .u64 s, .int .u64 c] w fun e w' => e = .returned (.tuple #[.int .u64 (s * 1048576 + c), .int .i64 0]) ∧ w = w' := by
  obtain ⟨h1, h2, h3, h4⟩ := goodV_iff.1 h
  clear h
  go_enter Try.func9, Try.ntmps9
  go_wp2
  rw [or_ver (by omega) h2 (by omega) h4]
  go_ret2
  exact ⟨rfl, rfl⟩

set_option maxHeartbeats 400000 in
theorem version_bad (s c : Int) (w : World) (h : goodV s c = false) :
    Calls Try.prog 9 #[.int .u64 s, .int .u64 c] w fun e w' => e = .returned (.tuple #[.int .u64 0, .int .i64 2]) ∧ w = w' := by
  have hn := goodV_not.1 h
  clear h
  by_cases h1 : 1 ≤ s
  · by_cases h2 : s ≤ 1099511627776
    · by_cases h3 : 1 ≤ c
      · have h4 : ¬ c ≤ 1048575 := fun h4 => hn ⟨h1, h2, h3, h4⟩
        clear hn
        go_enter Try.func9, Try.ntmps9
        go_wp2
        go_ret2
        exact ⟨rfl, rfl⟩
      · clear hn
        go_enter Try.func9, Try.ntmps9
        go_wp2
        go_ret2
        exact ⟨rfl, rfl⟩
    · clear hn
      go_enter Try.func9, Try.ntmps9
      go_wp2
      go_ret2
      exact ⟨rfl, rfl⟩
  · clear hn
    go_enter Try.func9, Try.ntmps9
    go_wp2
    go_ret2
    exact ⟨rfl, rfl⟩

theorem and_cnt {v : Int} (h0 : 0 ≤ v) (h1 : v < 18446744073709551616) : bits .and .u64 v 1048575 = v % 1048576 :=
  bits_mask .u64 64 (by decide) (fun n a b => by simp [IntKind.wrap, IntKind.bits, IntKind.signed]; omega) 20 (by omega) v h0 h1

/-- is a number a version? -/
def isV (v : Int) : Bool := goodV (v / 1048576) (v % 1048576)


theorem isV_eq {v : Int} (_h : isV v = true) : v / 1048576 * 1048576 + v % 1048576 = v := by omega

set_option maxHeartbeats 400000 in
theorem is_any (v : Int) (w : World) (h0 : 0 ≤ v) (h1 : v < 18446744073709551616) :
    Calls Try.prog 43 #[.int .u64 v] w fun e w' => e = .returned (.bool (isV v)) ∧ w = w' := by
  have hm := and_cnt h0 h1
  cases hv : isV v
  · have HV := Lib.hid hv
    clear hv
    go_enter Try.func43, Try.ntmps43
    go_wp2_with (go_at_call 9; refine (version_bad _ _ _ HV.out).mono ?_; rintro e w' ⟨rfl, rfl⟩)
    go_ret
    exact ⟨rfl, rfl⟩
  · have he := isV_eq hv
    have HV := Lib.hid hv
    clear hv
    go_enter Try.func43, Try.ntmps43
    go_wp2_with (go_at_call 9; refine (version_good _ _ _ HV.out).mono ?_; rintro e w' ⟨rfl, rfl⟩)
    go_ret
    exact ⟨rfl, rfl⟩

def sessV (v : Int) : Int := if isV v then v / 1048576 else 0
def cntV (v : Int) : Int := if isV v then v % 1048576 else 0

set_option maxHeartbeats 400000 in
theorem session_any (v : Int) (w : World) (h0 : 0 ≤ v) (h1 : v < 18446744073709551616) :
    Calls Try.prog 10 #[.int .u64 v] w fun e w' => e = .returned (.int .u64 (sessV v)) ∧ w = w' := by
  cases hv : isV v
  all_goals
    have HV := Lib.hid hv
    clear hv
    go_enter Try.func10, Try.ntmps10
    go_wp2_with (go_at_call 43; refine (is_any _ _ h0 h1).mono ?_; rw [HV.out]; rintro e w' ⟨rfl, rfl⟩)
    go_ret
    exact ⟨by unfold sessV; rw [HV.out]; rfl, rfl⟩

set_option maxHeartbeats 400000 in
theorem count_any (v : Int) (w : World) (h0 : 0 ≤ v) (h1 : v < 18446744073709551616) :
    Calls Try.prog 11 #[.int .u64 v] w fun e w' => e = .returned (.int .u64 (cntV v)) ∧ w = w' := by
  have hm := and_cnt h0 h1
  cases hv : isV v
  all_goals
    have HV := Lib.hid hv
    clear hv
    go_enter Try.func11, Try.ntmps11
    go_wp2_with (go_at_call 43; refine (is_any _ _ h0 h1).mono ?_; rw [HV.out]; rintro e w' ⟨rfl, rfl⟩)
    go_ret
    exact ⟨by unfold cntV; rw [HV.out]; rfl, rfl⟩

set_option maxHeartbeats 400000 in
theorem parts_any (v : Int) (w : World) (h0 : 0 ≤ v) (h1 : v < 18446744073709551616) :
    Calls Try.prog 12 #[.int .u64 v] w fun e w' => e = .returned (.tuple #[.int .u64 (v / 1048576), .int .u64 (v % 1048576), .bool (isV v)]) ∧ w = w' := by
  have e1 : isV v = (decide (1 ≤ v / 1048576) && decide (v / 1048576 ≤ 1099511627776) && decide (1 ≤ v % 1048576)) := by
    unfold isV goodV
    rw [show decide (v % 1048576 ≤ 1048575) = true from by simp; omega, Bool.and_true]
  have E1 := Lib.hid e1
  clear e1
  go_enter Try.func12, Try.ntmps12
  go_wp2
  all_goals
    go_ret3
    exact ⟨ret3b (by rw [E1.out, Bool.eq_iff_iff]; simp; omega), rfl⟩

set_option maxHeartbeats 400000 in
theorem lives21_any (w : World) : Calls Try.prog 13 #[] w fun e w' => e = .returned (.bool true) ∧ w = w' := by
  have a1 : isV 1048578 = true := by decide
  have a2 : isV 5 = false := by decide
  have s1 : sessV 1048578 = 1 := by decide
  have c1 : cntV 1048578 = 2 := by decide
  have s2 : sessV 5 = 0 := by decide
  clear a1 a2
  go_enter Try.func13, Try.ntmps13
  go_wp2_with (first
    | (go_at_call 9; refine (version_good _ _ _ (by decide)).mono ?_; rintro e w' ⟨rfl, rfl⟩)
    | (go_at_call 10; refine (session_any _ _ (by omega) (by omega)).mono ?_; rintro e w' ⟨rfl, rfl⟩)
    | (go_at_call 11; refine (count_any _ _ (by omega) (by omega)).mono ?_; rintro e w' ⟨rfl, rfl⟩))
  go_ret
  exact ⟨rfl, rfl⟩

theorem wrap_u64 (n : Int) : IntKind.u64.wrap n = n % 18446744073709551616 := by simp [IntKind.wrap, IntKind.bits, IntKind.signed]

def verV (s c : Int) : Int := if goodV s c then s * 1048576 + c else 0
def verE (s c : Int) : Int := if goodV s c then 0 else 2

theorem version_any (s c : Int) (w : World) :
    Calls Try.prog 9 #[.int .u64 s, .int .u64 c] w fun e w' => e = .returned (.tuple #[.int .u64 (verV s c), .int .i64 (verE s c)]) ∧ w = w' := by
  cases hv : goodV s c
  · refine (version_bad s c w hv).mono ?_
    rintro e w' ⟨rfl, rfl⟩
    exact ⟨by unfold verV verE; rw [hv]; rfl, rfl⟩
  · refine (version_good s c w hv).mono ?_
    rintro e w' ⟨rfl, rfl⟩
    exact ⟨by unfold verV verE; rw [hv]; rfl, rfl⟩

theorem good_div {s c : Int} (h : goodV s c = true) : (s * 1048576 + c) / 1048576 = s ∧ (s * 1048576 + c) % 1048576 = c := by
  obtain ⟨h1, h2, h3, h4⟩ := goodV_iff.1 h
  omega
theorem good_isV {s c : Int} (h : goodV s c = true) : isV (s * 1048576 + c) = true := by
  unfold isV
  rw [(good_div h).1, (good_div h).2, h]
theorem good_sess {s c : Int} (h : goodV s c = true) : sessV (s * 1048576 + c) = s ∧ cntV (s * 1048576 + c) = c := by
  unfold sessV cntV
  rw [good_isV h, if_pos rfl, if_pos rfl]
  exact good_div h

set_option maxHeartbeats 1000000 in
theorem ev_bad (s c v : Int) (w : World) (hb : goodV s c = false) (h0 : 0 ≤ v) (h1 : v < 18446744073709551616) :
    Calls Try.prog 3 #[.int .u64 s, .int .u64 c, .int .u64 v] w fun e w' => e = .returned (.bool true) ∧ w = w' := by
  have hn := goodV_not.1 hb
  have HV := Lib.hid hb
  clear hb
  have hc : s < 1 ∨ (1 ≤ s ∧ 1099511627776 < s) ∨ (1 ≤ s ∧ s ≤ 1099511627776 ∧ c < 1) ∨ (1 ≤ s ∧ s ≤ 1099511627776 ∧ 1 ≤ c ∧ 1048575 < c) := by omega
  clear hn
  cases hi : isV v
  all_goals
    have hs : sessV v = if isV v then v / 1048576 else 0 := rfl
    rw [hi] at hs
    simp only [Bool.false_eq_true, reduceIte] at hs
    have hk : cntV v = if isV v then v % 1048576 else 0 := rfl
    rw [hi] at hk
    simp only [Bool.false_eq_true, reduceIte] at hk
    have HI := Lib.hid hi
    clear hi
    rcases hc with hc | ⟨g1, hc⟩ | ⟨g1, g2, hc⟩ | ⟨g1, g2, g3, hc⟩
    all_goals
      go_enter Try.func3, Try.ntmps3
      go_wp2_with fail
      refine (version_bad _ _ _ HV.out).mono ?_
      rintro e w' ⟨rfl, rfl⟩
      go_wp2_with (first
        | (go_at_call 12; refine (parts_any _ _ h0 h1).mono ?_; rw [HI.out]; rintro e w' ⟨rfl, rfl⟩)
        | (go_at_call 9; refine (version_any _ _ _).mono ?_; rintro e w' ⟨rfl, rfl⟩)
        | (go_at_call 10; refine (session_any _ _ h0 h1).mono ?_; rintro e w' ⟨rfl, rfl⟩)
        | (go_at_call 11; refine (count_any _ _ h0 h1).mono ?_; rintro e w' ⟨rfl, rfl⟩)
        | (go_at_call 13; refine (lives21_any _).mono ?_; rintro e w' ⟨rfl, rfl⟩))
      go_ret
      exact ⟨rfl, rfl⟩

set_option maxHeartbeats 1000000 in
theorem ev_good (s c v : Int) (w : World) (hg : goodV s c = true) (h0 : 0 ≤ v) (h1 : v < 18446744073709551616) :
    Calls Try.prog 3 #[.int .u64 s, .int .u64 c, .int .u64 v] w fun e w' => e = .returned (.bool true) ∧ w = w' := by
  obtain ⟨g1, g2, g3, g4⟩ := goodV_iff.1 hg
  obtain ⟨k1, k2⟩ := good_sess hg
  have nz : (s * 1048576 + c != 0) = true := by rw [bne_iff_ne]; omega
  have HV := Lib.hid hg
  clear hg
  cases hi : isV v
  all_goals
    have hs : sessV v = if isV v then v / 1048576 else 0 := rfl
    rw [hi] at hs
    simp only [Bool.false_eq_true, reduceIte] at hs
    have hk : cntV v = if isV v then v % 1048576 else 0 := rfl
    rw [hi] at hk
    simp only [Bool.false_eq_true, reduceIte] at hk
    have HI := Lib.hid hi
    clear hi
    cases ha : goodV s (c + 1)
    all_goals
      have a1 : verE s (c + 1) = if goodV s (c + 1) then 0 else 2 := rfl
      rw [ha] at a1
      simp only [Bool.false_eq_true, reduceIte] at a1
      have a2 : verV s (c + 1) = if goodV s (c + 1) then s * 1048576 + (c + 1) else 0 := rfl
      rw [ha] at a2
      simp only [Bool.false_eq_true, reduceIte] at a2
      clear ha
      cases hb : goodV (s + 1) 1
      all_goals
        have b1 : verE (s + 1) 1 = if goodV (s + 1) 1 then 0 else 2 := rfl
        rw [hb] at b1
        simp only [Bool.false_eq_true, reduceIte] at b1
        have b2 : verV (s + 1) 1 = if goodV (s + 1) 1 then (s + 1) * 1048576 + 1 else 0 := rfl
        rw [hb] at b2
        simp only [Bool.false_eq_true, reduceIte] at b2
        clear hb
        go_enter Try.func3, Try.ntmps3
        go_wp2_with fail
        refine (version_good _ _ _ HV.out).mono ?_
        rintro e w' ⟨rfl, rfl⟩
        go_wp2_with (first
          | (go_at_call 12; refine (parts_any _ _ h0 h1).mono ?_; rw [HI.out]; rintro e w' ⟨rfl, rfl⟩)
          | (go_at_call 9; refine (version_any _ _ _).mono ?_; rintro e w' ⟨rfl, rfl⟩)
          | (go_at_call 10; refine (session_any _ _ (by omega) (by omega)).mono ?_; rintro e w' ⟨rfl, rfl⟩)
          | (go_at_call 11; refine (count_any _ _ (by omega) (by omega)).mono ?_; rintro e w' ⟨rfl, rfl⟩)
          | (go_at_call 13; refine (lives21_any _).mono ?_; rintro e w' ⟨rfl, rfl⟩))
        go_ret
        exact ⟨rfl, rfl⟩
end Go.Proofs.Ytofllgmieciakaa
