/- tenderref01.Eye.Close. -/
import Derived.Test.YtpbgcbpofhbgbaaEyeMore
namespace Go.Proofs.Ytpbgcbpofhbgbaa
open Go.RowKit

set_option maxHeartbeats 400000 in
theorem closeR_any (eb : Nat) (Z : Nat → Prop) (A : Option Addr) (c : Nat) (l : List UInt8) (f : Int) (w : World) (h : EyeAt w 109 eb Z A c l f) :
    Calls Try.prog 70 #[.pointer (some ⟨eb, 0, none⟩)] w fun e w' => e = .returned (.int .i64 (closeS l f)) ∧ w = w' := by
  have c0 := h.c0
  have c1 := h.c1
  by_cases hf : f = 0
  · by_cases hl : 0 < l.length
    · have e1 := Lib.hid (show closeS l f = 12 by unfold closeS; rw [if_neg (by simpa using hf), if_pos hl])
      subst hf
      go_enter Try.func70, Try.ntmps70
      go_wp2_with fail
      go_ret
      exact ⟨by rw [e1.out]; rfl, rfl⟩
    · have e1 := Lib.hid (show closeS l f = 0 by unfold closeS; rw [if_neg (by simpa using hf), if_neg hl])
      subst hf
      go_enter Try.func70, Try.ntmps70
      go_wp2_with fail
      go_ret
      exact ⟨by rw [e1.out]; rfl, rfl⟩
  · have e1 := Lib.hid (show closeS l f = f by unfold closeS; rw [if_pos hf])
    have hfb : (f == 0) = false := by simpa using hf
    go_enter Try.func70, Try.ntmps70
    go_wp2_with fail
    go_ret
    exact ⟨by rw [e1.out]; rfl, rfl⟩
end Go.Proofs.Ytpbgcbpofhbgbaa
