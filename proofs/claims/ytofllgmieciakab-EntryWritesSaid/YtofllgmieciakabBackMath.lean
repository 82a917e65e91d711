/- What was written is read as it was: the plain law. -/
import Derived.Test.YtofllgmieciakabEyeText
namespace Go.Proofs.Ytofllgmieciakab
open Go.RowKit

theorem val_digs : ∀ (k n : Nat), k ≤ 8 → n < 256 ^ k → val (digs n) = n ∧ (0 < n → (digs n).getD 0 0 ≠ 0 ∧ 0 < (digs n).length)
  | 0, n, _, h => by
    have : n = 0 := by simpa using h
    subst this
    rw [digs_zero]
    exact ⟨rfl, fun h => absurd h (by omega)⟩
  | k + 1, n, hk, h => by
    rcases Nat.eq_zero_or_pos n with h0 | h0
    · subst h0
      rw [digs_zero]
      exact ⟨rfl, fun h => absurd h (by omega)⟩
    · have h64 : n < 18446744073709551616 := Nat.lt_of_lt_of_le h (pow_le8 hk)
      have h' : n / 256 < 256 ^ k := by
        rw [Nat.div_lt_iff_lt_mul (by omega)]
        rw [Nat.pow_succ] at h
        exact h
      obtain ⟨i1, i2⟩ := val_digs k (n / 256) (by omega) h'
      rw [digs_step h0 h64, val_snoc, i1, UInt8.toNat_ofNat', Nat.mod_mod]
      refine ⟨by omega, fun _ => ⟨?_, by simp⟩⟩
      rcases Nat.eq_zero_or_pos (n / 256) with h1 | h1
      · rw [h1, digs_zero]
        intro e
        have e2 : UInt8.ofNat (n % 256) = 0 := by simpa using e
        have e3 := congrArg UInt8.toNat e2
        rw [UInt8.toNat_ofNat', Nat.mod_mod] at e3
        have : (0 : UInt8).toNat = 0 := rfl
        omega
      · obtain ⟨j1, j2⟩ := i2 h1
        rw [List.getD_eq_getElem?_getD, List.getElem?_append_left j2, ← List.getD_eq_getElem?_getD]
        exact j1

theorem read_numB {n most : Nat} (t : List UInt8) (h : n < 18446744073709551616) (hm : n ≤ most) : readS (numB n ++ t) 0 most = (n, t, 0) := by
  obtain ⟨v1, v2⟩ := val_digs 8 n (by omega) h
  have h8 := digs_len n
  have hx : (UInt8.ofNat (digs n).length).toNat = (digs n).length := by rw [UInt8.toNat_ofNat', Nat.mod_eq_of_lt (by omega)]
  unfold numB
  rw [List.cons_append]
  have htk : (digs n ++ t).take (digs n).length = digs n := List.take_left
  have hdr : (digs n ++ t).drop (digs n).length = t := List.drop_left
  rw [readS_ok]
  · rw [hx, htk, hdr, v1]
  · rw [hx]; omega
  · rw [hx, List.length_append]; omega
  · rw [hx]
    rintro ⟨h1, h2⟩
    rw [List.getD_eq_getElem?_getD, List.getElem?_append_left h1, ← List.getD_eq_getElem?_getD] at h2
    have h0 : 0 < n := by
      rcases Nat.eq_zero_or_pos n with h0 | h0
      · subst h0; rw [digs_zero] at h1; simp at h1
      · exact h0
    exact (v2 h0).1 h2
  · rw [hx, htk, v1]; omega
theorem int_numB {n : Nat} {most : Int} (t : List UInt8) (h : n < 9223372036854775808) (hm : (n : Int) ≤ most) : intS (numB n ++ t) 0 most = (n, t, 0) := by
  unfold intS
  rw [if_pos (by omega), read_numB t (by omega) (by omega)]
theorem text_textB {l : List UInt8} {most : Int} (t : List UInt8) (h : l.length < 9223372036854775808) (hm : (l.length : Int) ≤ most) : textS (textB l ++ t) 0 most = (l, t, 0) := by
  unfold textS textB
  rw [List.append_assoc, int_numB _ h hm]
  simp
end Go.Proofs.Ytofllgmieciakab
