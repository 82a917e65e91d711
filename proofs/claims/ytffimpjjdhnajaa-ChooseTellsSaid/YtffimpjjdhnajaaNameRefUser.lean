/- tenderref03: User. -/
import Derived.Test.YtffimpjjdhnajaaNameRef
namespace Go.Proofs.Ytffimpjjdhnajaa
open Go.RowKit

theorem refUser_any (s : ByteArray) (hs : s.size ≤ 9223372036854775807) (w : World) : Calls Try.prog 30 #[.string s] w fun e w' => e = .returned (.bool (userB (tl s))) ∧ Below w.heap.size w w' := by
  have HG := Lib.hid (fun w => refGood_any s hs w)
  cases h : goodB (tl s)
  · have hr : userB (tl s) = false := by unfold userB; rw [h]; rfl
    rw [hr]
    rw [h] at HG
    clear hr h
    go_enter Try.func30, Try.ntmps30
    go_wp2_with fail
    refine (HG.out _).mono ?_
    rintro e w1 ⟨rfl, hb⟩
    go_wp2_with fail
    go_ret
    exact ⟨rfl, hb⟩
  · have h0 : 0 < s.size := by have := List.length_pos_iff.2 (goodB_ne h); rwa [tl_len] at this
    obtain ⟨R, hR⟩ : ∃ R, R = userB (tl s) := ⟨_, rfl⟩
    have HR : Hid (R = !((tl s).head? == some 126)) := by show _ = _; rw [hR]; unfold userB; rw [h]; rfl
    rw [← hR]
    rw [h] at HG
    clear hR h
    go_enter Try.func30, Try.ntmps30
    go_wp2_with fail
    refine (HG.out _).mono ?_
    rintro e w1 ⟨rfl, hb⟩
    go_wp2_with fail
    go_ret
    refine ⟨ret_b ?_, hb⟩
    rw [HR.out]
    have e : (tl s).head? = some s[0] := by
      obtain ⟨⟨l⟩⟩ := s
      cases l with
      | nil => exact (Nat.lt_irrefl 0 h0).elim
      | cons c l => rfl
    rw [e, Bool.eq_iff_iff]
    generalize s[0] = c
    by_cases hc : c = 126
    · subst hc; decide
    · have h2 : ¬ c.toNat = 126 := fun e => hc (UInt8.toNat_inj.1 e)
      simp [hc]
      omega
end Go.Proofs.Ytffimpjjdhnajaa
