/- The versions of entries: Version, is, Session, Count, and the document's Parts. -/
import Derived.Test.YtofllgmieciakabLift
namespace Go.Proofs.Ytofllgmieciakab
open Go.RowKit Go.WideShapes Go.ChangeShapes Go.ChangeAt

/-- a good session and count -/
def goodV (s c : Int) : Bool := decide (1 ≤ s) && decide (s ≤ 1099511627776) && decide (1 ≤ c) && decide (c ≤ 1048575)
theorem goodV_iff {s c : Int} : goodV s c = true ↔ 1 ≤ s ∧ s ≤ 1099511627776 ∧ 1 ≤ c ∧ c ≤ 1048575 := by
  unfold goodV; simp [and_assoc]
theorem goodV_not {s c : Int} : goodV s c = false ↔ ¬ (1 ≤ s ∧ s ≤ 1099511627776 ∧ 1 ≤ c ∧ c ≤ 1048575) := by
  rw [← goodV_iff]; simp

theorem or_ver {s c : Int} (h1 : 0 ≤ s) (h2 : s ≤ 1099511627776) (h3 : 0 ≤ c) (h4 : c ≤ 1048575) : bits .or .u64 (s * 1048576) c = s * 1048576 + c := by
  obtain ⟨a, rfl⟩ := Int.eq_ofNat_of_zero_le h1
  obtain ⟨b, rfl⟩ := Int.eq_ofNat_of_zero_le h3
  rw [u64_or _ _ (by omega) (by omega) (by omega) (by omega)]
  have e : ((a : Int) * 1048576).toNat = a * 1048576 := by omega
  rw [e, Int.toNat_natCast, nat_join 20 (a * 1048576) b (by omega) (by omega)]
  omega

set_option maxHeartbeats 400000 in
theorem version_good (s c : Int) (w : World) (h : goodV s c = true) :
    Calls Try.prog 53 #[.int .u64 s, .int .u64 c] w fun e w' => e = .returned (.tuple #[.int .u64 (s * 1048576 + c), .int .i64 0]) ∧ w = w' := by
  obtain ⟨h1, h2, h3, h4⟩ := goodV_iff.1 h
  clear h
  go_enter Try.func53, Try.ntmps53
  go_wp2
  rw [or_ver (by omega) h2 (by omega) h4]
  go_ret2
  exact ⟨rfl, rfl⟩

set_option maxHeartbeats 400000 in
theorem version_bad (s c : Int) (w : World) (h : goodV s c = false) :
    Calls Try.prog 53 #[.int .u64 s, .int .u64 c] w fun e w' => e = .returned (.tuple #[.int .u64 0, .int .i64 2]) ∧ w = w' := by
  have hn := goodV_not.1 h
  clear h
  by_cases h1 : 1 ≤ s
  · by_cases h2 : s ≤ 1099511627776
    · by_cases h3 : 1 ≤ c
      · have h4 : ¬ c ≤ 1048575 := fun h4 => hn ⟨h1, h2, h3, h4⟩
        clear hn
        go_enter Try.func53, Try.ntmps53
        go_wp2
        go_ret2
        exact ⟨rfl, rfl⟩
      · clear hn
        go_enter Try.func53, Try.ntmps53
        go_wp2
        go_ret2
        exact ⟨rfl, rfl⟩
    · clear hn
      go_enter Try.func53, Try.ntmps53
      go_wp2
      go_ret2
      exact ⟨rfl, rfl⟩
  · clear hn
    go_enter Try.func53, Try.ntmps53
    go_wp2
    go_ret2
    exact ⟨rfl, rfl⟩

theorem and_cnt {v : Int} (h0 : 0 ≤ v) (h1 : v < 18446744073709551616) : bits .and .u64 v 1048575 = v % 1048576 :=
  bits_mask .u64 64 (by decide) (fun n a b => by simp [IntKind.wrap, IntKind.bits, IntKind.signed]; omega) 20 (by omega) v h0 h1

/-- is a number a version? -/
def isV (v : Int) : Bool := goodV (v / 1048576) (v % 1048576)


theorem isV_eq {v : Int} (_h : isV v = true) : v / 1048576 * 1048576 + v % 1048576 = v := by omega

set_option maxHeartbeats 400000 in
theorem is_any (v : Int) (w : World) (h0 : 0 ≤ v) (h1 : v < 18446744073709551616) :
    Calls Try.prog 57 #[.int .u64 v] w fun e w' => e = .returned (.bool (isV v)) ∧ w = w' := by
  have hm := and_cnt h0 h1
  cases hv : isV v
  · have HV := Lib.hid hv
    clear hv
    go_enter Try.func57, Try.ntmps57
    go_wp2_with (go_at_call 53; refine (version_bad _ _ _ HV.out).mono ?_; rintro e w' ⟨rfl, rfl⟩)
    go_ret
    exact ⟨rfl, rfl⟩
  · have he := isV_eq hv
    have HV := Lib.hid hv
    clear hv
    go_enter Try.func57, Try.ntmps57
    go_wp2_with (go_at_call 53; refine (version_good _ _ _ HV.out).mono ?_; rintro e w' ⟨rfl, rfl⟩)
    go_ret
    exact ⟨rfl, rfl⟩

def sessV (v : Int) : Int := if isV v then v / 1048576 else 0
def cntV (v : Int) : Int := if isV v then v % 1048576 else 0

set_option maxHeartbeats 400000 in
theorem session_any (v : Int) (w : World) (h0 : 0 ≤ v) (h1 : v < 18446744073709551616) :
    Calls Try.prog 54 #[.int .u64 v] w fun e w' => e = .returned (.int .u64 (sessV v)) ∧ w = w' := by
  cases hv : isV v
  all_goals
    have HV := Lib.hid hv
    clear hv
    go_enter Try.func54, Try.ntmps54
    go_wp2_with (go_at_call 57; refine (is_any _ _ h0 h1).mono ?_; rw [HV.out]; rintro e w' ⟨rfl, rfl⟩)
    go_ret
    exact ⟨by unfold sessV; rw [HV.out]; rfl, rfl⟩

set_option maxHeartbeats 400000 in
theorem count_any (v : Int) (w : World) (h0 : 0 ≤ v) (h1 : v < 18446744073709551616) :
    Calls Try.prog 55 #[.int .u64 v] w fun e w' => e = .returned (.int .u64 (cntV v)) ∧ w = w' := by
  have hm := and_cnt h0 h1
  cases hv : isV v
  all_goals
    have HV := Lib.hid hv
    clear hv
    go_enter Try.func55, Try.ntmps55
    go_wp2_with (go_at_call 57; refine (is_any _ _ h0 h1).mono ?_; rw [HV.out]; rintro e w' ⟨rfl, rfl⟩)
    go_ret
    exact ⟨by unfold cntV; rw [HV.out]; rfl, rfl⟩

set_option maxHeartbeats 400000 in
theorem parts_any (v : Int) (w : World) (h0 : 0 ≤ v) (h1 : v < 18446744073709551616) :
    Calls Try.prog 59 #[.int .u64 v] w fun e w' => e = .returned (.tuple #[.int .u64 (v / 1048576), .int .u64 (v % 1048576), .bool (isV v)]) ∧ w = w' := by
  have e1 : isV v = (decide (1 ≤ v / 1048576) && decide (v / 1048576 ≤ 1099511627776) && decide (1 ≤ v % 1048576)) := by
    unfold isV goodV
    rw [show decide (v % 1048576 ≤ 1048575) = true from by simp; omega, Bool.and_true]
  have E1 := Lib.hid e1
  clear e1
  go_enter Try.func59, Try.ntmps59
  go_wp2
  all_goals
    go_ret3
    exact ⟨ret3b (by rw [E1.out, Bool.eq_iff_iff]; simp; omega), rfl⟩

theorem wrap_u64 (n : Int) : IntKind.u64.wrap n = n % 18446744073709551616 := by simp [IntKind.wrap, IntKind.bits, IntKind.signed]

def verV (s c : Int) : Int := if goodV s c then s * 1048576 + c else 0
def verE (s c : Int) : Int := if goodV s c then 0 else 2

theorem version_any (s c : Int) (w : World) :
    Calls Try.prog 53 #[.int .u64 s, .int .u64 c] w fun e w' => e = .returned (.tuple #[.int .u64 (verV s c), .int .i64 (verE s c)]) ∧ w = w' := by
  cases hv : goodV s c
  · refine (version_bad s c w hv).mono ?_
    rintro e w' ⟨rfl, rfl⟩
    exact ⟨by unfold verV verE; rw [hv]; rfl, rfl⟩
  · refine (version_good s c w hv).mono ?_
    rintro e w' ⟨rfl, rfl⟩
    exact ⟨by unfold verV verE; rw [hv]; rfl, rfl⟩

theorem good_div {s c : Int} (h : goodV s c = true) : (s * 1048576 + c) / 1048576 = s ∧ (s * 1048576 + c) % 1048576 = c := by
  obtain ⟨h1, h2, h3, h4⟩ := goodV_iff.1 h
  omega
theorem good_isV {s c : Int} (h : goodV s c = true) : isV (s * 1048576 + c) = true := by
  unfold isV
  rw [(good_div h).1, (good_div h).2, h]
theorem good_sess {s c : Int} (h : goodV s c = true) : sessV (s * 1048576 + c) = s ∧ cntV (s * 1048576 + c) = c := by
  unfold sessV cntV
  rw [good_isV h, if_pos rfl, if_pos rfl]
  exact good_div h

end Go.Proofs.Ytofllgmieciakab
