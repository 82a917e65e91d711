/- tenderlaw21: lives. -/
import Derived.Test.YtofllgmieciakabVersionFn
namespace Go.Proofs.Ytofllgmieciakab
open Go.RowKit

set_option maxHeartbeats 400000 in
theorem lives21_any (w : World) : Calls Try.prog 31 #[] w fun e w' => e = .returned (.bool true) ∧ w = w' := by
  have a1 : isV 1048578 = true := by decide
  have a2 : isV 5 = false := by decide
  have s1 : sessV 1048578 = 1 := by decide
  have c1 : cntV 1048578 = 2 := by decide
  have s2 : sessV 5 = 0 := by decide
  clear a1 a2
  go_enter Try.func31, Try.ntmps31
  go_wp2_with (first
    | (go_at_call 53; refine (version_good _ _ _ (by decide)).mono ?_; rintro e w' ⟨rfl, rfl⟩)
    | (go_at_call 54; refine (session_any _ _ (by omega) (by omega)).mono ?_; rintro e w' ⟨rfl, rfl⟩)
    | (go_at_call 55; refine (count_any _ _ (by omega) (by omega)).mono ?_; rintro e w' ⟨rfl, rfl⟩))
  go_ret
  exact ⟨rfl, rfl⟩
end Go.Proofs.Ytofllgmieciakab
