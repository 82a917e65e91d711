/- tenderref03: Paste. -/
import Derived.Test.YtffimpjjdhnajaaNameRef
namespace Go.Proofs.Ytffimpjjdhnajaa
open Go.RowKit

theorem take_ne {α : Type} {l : List α} {i : Nat} (h0 : i ≠ 0) (h : 0 < l.length) : l.take i ≠ [] := by
  intro e
  rcases List.take_eq_nil_iff.1 e with h1 | h1
  · exact h0 h1
  · rw [h1] at h; simp at h
theorem drop_ne {α : Type} {l : List α} {i : Nat} (h : i < l.length) : l.drop i ≠ [] := by
  intro e
  have := List.drop_eq_nil_iff.1 e
  omega
theorem paste_take_le : ∀ (l : List (List UInt8)) (i : Nat), (pasteL (l.take i)).length ≤ (pasteL l).length
  | l, i => by
    by_cases h : i = 0
    · subst h; simp [pasteL]
    · by_cases h2 : i < l.length
      · conv => rhs; rw [← List.take_append_drop i l, paste_app _ _ (take_ne h (by omega)) (drop_ne h2)]
        simp
      · rw [List.take_of_length_le (by omega)]; exact Nat.le_refl _
theorem paste_one (x : List UInt8) : pasteL [x] = x := rfl

set_option maxRecDepth 100000 in
set_option maxHeartbeats 1000000 in
theorem paste_any (A : Option Addr) (c : Nat) (l : List (List UInt8)) (Z : Nat → Prop) (w : World) (h : Rd w Z 1 A l.length (l.map stv)) (hn : l.length ≤ 1048576) (hl : (pasteL l).length ≤ 1048576) :
    Calls Try.prog 33 #[.slice A l.length c] w fun e w' => ∃ s, e = .returned (.string s) ∧ Hid (tl s = pasteL l) ∧ Qt w w' := by
  go_enter Try.func33, Try.ntmps33
  go_wp2_with fail
  go_loopw [3, 4] (fun sv iv wr => ∃ (i : Nat) (s : ByteArray), i ≤ l.length ∧ iv = .int .i64 (i : Int) ∧ sv = .string s ∧ Hid (tl s = pasteL (l.take i)) ∧ Qt w wr) (fun _ iv _ => l.length - (intOf iv).toNat)
  case atStart => exact ⟨0, ⟨#[]⟩, Nat.zero_le _, rfl, rfl, rfl, Qt.refl _⟩
  case round =>
    obtain ⟨i, s, hi, rfl, rfl, hs, hq⟩ := hrel
    by_cases hlt : i < l.length
    · obtain ⟨b, off, rfl, _, _, hc⟩ := (h.below hq.below).atm hlt
      have ht := paste_take_le l (i + 1)
      have hts : l.take (i + 1) = l.take i ++ [l[i]] := List.take_succ_eq_append_getElem hlt
      have hss := congrArg List.length hs.out
      rw [tl_len] at hss
      obtain ⟨x, hx⟩ : ∃ x, x = l[i] := ⟨_, rfl⟩
      rw [← hx] at hc hts
      unfold stv at hc
      by_cases h0 : i = 0
      · have hst : s.size = 0 := by rw [hss, h0]; rfl
        have HP : Hid (pasteL (l.take (i + 1)) = x) := by show _ = _; rw [hts, h0]; rfl
        rw [HP.out] at ht
        have hi0 : ¬ (0 : Int) < (i : Int) := by omega
        have b1 : s.size + x.length ≤ 9223372036854775807 := by omega
        have HS : Hid (s = ⟨#[]⟩) := tl_inj (List.length_eq_zero_iff.1 (by rw [tl_len]; exact hst))
        clear hts hx hss ht hs hst h0
        go_wp2_with fail
        go_roundw
        case rel => exact ⟨i + 1, _, hlt, by go_num, rfl, by show _ = _; rw [HP.out, HS.out]; rfl, hq⟩
        case measure => simp [intOf]; omega
      · have h1 : (0 : Int) < (i : Int) := by omega
        have HP : Hid (pasteL (l.take (i + 1)) = tl s ++ 47 :: x) := by
          show _ = _
          rw [hts, paste_app _ _ (take_ne h0 (by omega)) (by simp), hs.out, paste_one]
        rw [HP.out, List.length_append, List.length_cons, tl_len] at ht
        have b1 : s.size + 1 ≤ 9223372036854775807 := by omega
        have b2 : s.size + 1 + x.length ≤ 9223372036854775807 := by omega
        clear hts hx hss ht hs h0
        go_wp2_with fail
        go_roundw
        case rel => exact ⟨i + 1, _, hlt, by go_num, rfl, by show _ = _; rw [HP.out, under_short, under_short, List.append_assoc]; rfl, hq⟩
        case measure => simp [intOf]; omega
    · have HT := Lib.hid (show tl s = pasteL l by rw [hs.out, List.take_of_length_le (by omega)])
      clear hs
      go_wp2_with fail
      go_ret
      exact ⟨s, rfl, HT, hq⟩
end Go.Proofs.Ytffimpjjdhnajaa
