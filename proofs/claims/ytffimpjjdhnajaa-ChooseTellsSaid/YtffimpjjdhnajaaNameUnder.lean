/- name.Under. -/
import Derived.Test.YtffimpjjdhnajaaNameUser
namespace Go.Proofs.Ytffimpjjdhnajaa
open Go.RowKit

theorem under_any (p top : ByteArray) (hp : p.size ≤ 9223372036854775807) (ht : top.size ≤ 9223372036854775807) (w : World) : Calls Try.prog 17 #[.string p, .string top] w fun e w' => e = .returned (.bool (underB (tl p) (tl top))) ∧ Below w.heap.size w w' := by
  cases h1 : goodB (tl p)
  · have hr : underB (tl p) (tl top) = false := by unfold underB; rw [h1]; rfl
    rw [hr]
    have HC := Lib.hid (check_no p hp h1)
    clear hr h1
    go_enter Try.func17, Try.ntmps17
    go_wp2_with fail
    refine (HC.out _).mono ?_
    rintro e w1 ⟨rfl, hb⟩
    go_wp2_with fail
    go_ret
    exact ⟨rfl, hb⟩
  · cases h2 : goodB (tl top)
    · have hr : underB (tl p) (tl top) = false := by unfold underB; rw [h1, h2]; rfl
      rw [hr]
      have HC := Lib.hid (check_yes p hp h1)
      have HD := Lib.hid (check_no top ht h2)
      clear hr h1 h2
      go_enter Try.func17, Try.ntmps17
      go_wp2_with fail
      refine (HC.out _).mono ?_
      rintro e w1 ⟨rfl, hb⟩
      go_wp2_with fail
      refine (HD.out _).mono ?_
      rintro e w2 ⟨rfl, hb2⟩
      go_wp2_with fail
      go_ret
      exact ⟨rfl, bthen hb hb2⟩
    · obtain ⟨R, hR⟩ : ∃ R, R = underB (tl p) (tl top) := ⟨_, rfl⟩
      have hr : R = preB (tl p) (tl top) := by rw [hR]; unfold underB; rw [h1, h2]; rfl
      rw [← hR]
      have HR := Lib.hid hr
      have HC := Lib.hid (check_yes p hp h1)
      have HD := Lib.hid (check_yes top ht h2)
      have hts : top.size ≤ 96 := by have := goodB_len h2; rwa [tl_len] at this
      clear hr hR h1 h2
      go_enter Try.func17, Try.ntmps17
      go_wp2_with fail
      refine (HC.out _).mono ?_
      rintro e w1 ⟨rfl, hb⟩
      go_wp2_with fail
      refine (HD.out _).mono ?_
      rintro e w2 ⟨rfl, hb2⟩
      go_wp2_with fail
      refine (Try.strings_HasPrefix _ _ _).mono ?_
      rintro e w3 ⟨rfl, rfl⟩
      go_wp2_with fail
      go_ret
      refine ⟨ret_b ?_, bthen hb hb2⟩
      rw [HR.out]
      unfold preB Lib.hasPrefix
      rfl
end Go.Proofs.Ytffimpjjdhnajaa
