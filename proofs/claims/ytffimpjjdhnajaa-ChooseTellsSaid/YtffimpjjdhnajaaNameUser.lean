/- name.User. -/
import Derived.Test.YtffimpjjdhnajaaNameCheck
import Derived.LoopTactic
namespace Go.Proofs.Ytffimpjjdhnajaa
open Go.RowKit

theorem goodB_len {l : List UInt8} (h : goodB l = true) : l.length ≤ 96 := by
  unfold goodB at h
  simp only [Bool.and_eq_true, decide_eq_true_eq] at h
  exact h.1.1
theorem goodB_ne {l : List UInt8} (h : goodB l = true) : l ≠ [] := by
  rintro rfl
  revert h
  decide
theorem check_yes (s : ByteArray) (hs : s.size ≤ 9223372036854775807) (h : goodB (tl s) = true) (w : World) : Calls Try.prog 28 #[.string s] w fun e w' => e = .returned (.int .i64 0) ∧ Below w.heap.size w w' := by
  have := check_any s hs w
  rwa [if_pos h] at this
theorem check_no (s : ByteArray) (hs : s.size ≤ 9223372036854775807) (h : goodB (tl s) = false) (w : World) : Calls Try.prog 28 #[.string s] w fun e w' => e = .returned (.int .i64 23) ∧ Below w.heap.size w w' := by
  have := check_any s hs w
  rwa [if_neg (by rw [h]; simp)] at this
/-- is it a user's? -/
def userB (l : List UInt8) : Bool := goodB l && !(l.head? == some 126)

theorem user_any (s : ByteArray) (hs : s.size ≤ 9223372036854775807) (w : World) : Calls Try.prog 29 #[.string s] w fun e w' => e = .returned (.bool (userB (tl s))) ∧ Below w.heap.size w w' := by
  cases h : goodB (tl s)
  · have hr : userB (tl s) = false := by unfold userB; rw [h]; rfl
    rw [hr]
    have HC := Lib.hid (check_no s hs h)
    clear hr h
    go_enter Try.func29, Try.ntmps29
    go_wp2_with fail
    refine (HC.out _).mono ?_
    rintro e w1 ⟨rfl, hb⟩
    go_wp2_with fail
    go_ret
    exact ⟨rfl, hb⟩
  · have HC := Lib.hid (check_yes s hs h)
    have h0 : 0 < s.size := by have := List.length_pos_iff.2 (goodB_ne h); rwa [tl_len] at this
    obtain ⟨R, hR⟩ : ∃ R, R = userB (tl s) := ⟨_, rfl⟩
    have HR := Lib.hid hR
    have HG := Lib.hid h
    rw [← hR]
    clear hR h
    go_enter Try.func29, Try.ntmps29
    go_wp2_with fail
    refine (HC.out _).mono ?_
    rintro e w1 ⟨rfl, hb⟩
    go_wp2_with fail
    go_ret
    refine ⟨ret_b ?_, hb⟩
    rw [HR.out]
    unfold userB
    rw [HG.out]
    have e : (tl s).head? = some s[0] := by
      obtain ⟨⟨l⟩⟩ := s
      cases l with
      | nil => exact (Nat.lt_irrefl 0 h0).elim
      | cons c l => rfl
    rw [e, Bool.eq_iff_iff]
    generalize s[0] = c
    by_cases hc : c = 126
    · subst hc; decide
    · have h2 : ¬ c.toNat = 126 := fun e => hc (UInt8.toNat_inj.1 e)
      simp [hc]
      omega
theorem under_short (s t : ByteArray) : tl (s ++ t) = tl s ++ tl t := by simp [tl]
end Go.Proofs.Ytffimpjjdhnajaa
