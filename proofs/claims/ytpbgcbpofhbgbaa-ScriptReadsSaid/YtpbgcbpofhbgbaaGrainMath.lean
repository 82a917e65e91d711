/- The bytes of numbers and texts, as plain lists. -/
import Derived.Test.YtpbgcbpofhbgbaaMem
import Derived.Lib.BitFns
namespace Go.Proofs.Ytpbgcbpofhbgbaa
open Go.RowKit

def dg : Nat → Nat → List UInt8 → List UInt8
  | 0, _, acc => acc
  | f + 1, n, acc => if n = 0 then acc else dg f (n / 256) (UInt8.ofNat (n % 256) :: acc)
def digs (n : Nat) : List UInt8 := dg 8 n []
def numB (n : Nat) : List UInt8 := UInt8.ofNat (digs n).length :: digs n
def textB (l : List UInt8) : List UInt8 := numB l.length ++ l

theorem bv_ofNat {m : Nat} (h : m < 256) : bv (UInt8.ofNat m) = .int .u8 (m : Int) := by
  unfold bv
  rw [UInt8.toNat_ofNat']
  rw [Nat.mod_eq_of_lt h]

theorem dg_zero (f : Nat) (acc : List UInt8) : dg f 0 acc = acc := by cases f <;> simp [dg]
theorem dg_len : ∀ (f n : Nat) (acc : List UInt8), (dg f n acc).length ≤ f + acc.length
  | 0, _, acc => by simp [dg]
  | f + 1, n, acc => by
    unfold dg
    split
    · omega
    · have := dg_len f (n / 256) (UInt8.ofNat (n % 256) :: acc)
      simp only [List.length_cons] at this
      omega
theorem digs_len (n : Nat) : (digs n).length ≤ 8 := by have := dg_len 8 n []; simpa [digs] using this
theorem numB_len (n : Nat) : (numB n).length ≤ 9 := by simp only [numB, List.length_cons]; have := digs_len n; omega

theorem dg_app : ∀ (f n : Nat) (acc : List UInt8), dg f n acc = dg f n [] ++ acc
  | 0, _, acc => by simp [dg]
  | f + 1, n, acc => by
    unfold dg
    split
    · simp
    · rw [dg_app f (n / 256) (_ :: acc), dg_app f (n / 256) [_], List.append_assoc]
      rfl
/-- one digit more -/
theorem dg_fuel : ∀ (f n : Nat), n < 256 ^ f → ∀ k, dg (f + k) n [] = dg f n []
  | 0, n, h, k => by
    have : n = 0 := by simpa using h
    subst this
    rw [dg_zero, dg_zero]
  | f + 1, n, h, k => by
    rw [show f + 1 + k = (f + k) + 1 by omega]
    unfold dg
    split
    · rfl
    · have h' : n / 256 < 256 ^ f := by
        rw [Nat.div_lt_iff_lt_mul (by omega)]
        rw [Nat.pow_succ] at h
        exact h
      rw [dg_app (f + k), dg_app f, dg_fuel f _ h' k]
theorem digs_step {n : Nat} (h0 : 0 < n) (h : n < 18446744073709551616) : digs n = digs (n / 256) ++ [UInt8.ofNat (n % 256)] := by
  have e : dg 8 n [] = dg 7 (n / 256) [UInt8.ofNat (n % 256)] := by
    conv => lhs; unfold dg
    rw [if_neg (by omega)]
  have h' : n / 256 < 256 ^ 7 := by omega
  unfold digs
  rw [e, dg_app, dg_fuel 7 (n / 256) h' 1]
theorem digs_zero : digs 0 = [] := dg_zero 8 []
theorem digs_lt {n : Nat} (k : Nat) (hk : k ≤ 8) (h : n < 256 ^ k) : (digs n).length ≤ k := by
  unfold digs
  have := dg_fuel k n h (8 - k)
  rw [show k + (8 - k) = 8 by omega] at this
  rw [this]
  simpa using dg_len k n []

theorem pow_le8 {f : Nat} (h : f ≤ 8) : 256 ^ f ≤ 18446744073709551616 := Nat.le_trans (Nat.pow_le_pow_right (by decide) h) (by decide)
theorem dg_cons {f m : Nat} (h0 : 0 < m) (acc : List UInt8) : dg (f + 1) m acc = dg f (m / 256) (UInt8.ofNat (m % 256) :: acc) := by
  conv => lhs; unfold dg
  rw [if_neg (by omega)]

theorem digs_range : ∀ (k n : Nat), k ≤ 8 → n < 256 ^ k → n < 256 ^ (digs n).length ∧ (0 < n → 256 ^ ((digs n).length - 1) ≤ n ∧ 0 < (digs n).length)
  | 0, n, _, h => by
    have : n = 0 := by simpa using h
    subst this
    rw [digs_zero]
    simp
  | k + 1, n, hk, h => by
    rcases Nat.eq_zero_or_pos n with h0 | h0
    · subst h0
      rw [digs_zero]
      simp
    · have h64 : n < 18446744073709551616 := Nat.lt_of_lt_of_le h (pow_le8 hk)
      have h' : n / 256 < 256 ^ k := by
        rw [Nat.div_lt_iff_lt_mul (by omega)]
        rw [Nat.pow_succ] at h
        exact h
      obtain ⟨i1, i2⟩ := digs_range k (n / 256) (by omega) h'
      rw [digs_step h0 h64, List.length_append, List.length_singleton, Nat.add_sub_cancel]
      refine ⟨?_, fun _ => ⟨?_, by omega⟩⟩
      · rw [Nat.pow_succ]; omega
      · rcases Nat.eq_zero_or_pos (n / 256) with h1 | h1
        · rw [h1, digs_zero]; simp; omega
        · obtain ⟨j1, j2⟩ := i2 h1
          obtain ⟨m, hm⟩ : ∃ m, (digs (n / 256)).length = m + 1 := ⟨_, (Nat.succ_pred_eq_of_pos j2).symm⟩
          rw [hm] at j1 ⊢
          rw [Nat.add_sub_cancel] at j1
          rw [Nat.pow_succ]
          omega

theorem bitAux_range : ∀ (f n : Nat), n < 2 ^ f → n < 2 ^ Lib.bitLenAux f n ∧ (0 < n → 2 ^ (Lib.bitLenAux f n - 1) ≤ n) ∧ Lib.bitLenAux f n ≤ f
  | 0, n, h => by
    have : n = 0 := by simpa using h
    subst this
    simp [Lib.bitLenAux]
  | f + 1, n, h => by
    unfold Lib.bitLenAux
    split
    · rename_i h0; subst h0; simp
    · rename_i h0
      have h' : n / 2 < 2 ^ f := by rw [Nat.pow_succ] at h; omega
      obtain ⟨i1, i2, i3⟩ := bitAux_range f (n / 2) h'
      refine ⟨by rw [Nat.add_comm, Nat.pow_succ]; omega, fun _ => ?_, by omega⟩
      rw [Nat.add_sub_cancel_left]
      rcases Nat.eq_zero_or_pos (n / 2) with h1 | h1
      · rw [h1]
        have : Lib.bitLenAux f 0 = 0 := by cases f <;> simp [Lib.bitLenAux]
        rw [this]
        simp; omega
      · have j := i2 h1
        have hb : 0 < Lib.bitLenAux f (n / 2) := by
          rcases Nat.eq_zero_or_pos (Lib.bitLenAux f (n / 2)) with hz | hz
          · rw [hz] at i1; simp at i1; omega
          · exact hz
        obtain ⟨m, hm⟩ : ∃ m, Lib.bitLenAux f (n / 2) = m + 1 := ⟨_, (Nat.succ_pred_eq_of_pos hb).symm⟩
        rw [hm] at j ⊢
        rw [Nat.add_sub_cancel] at j
        rw [Nat.pow_succ]
        omega

theorem bitLen_le {n : Nat} (h : n < 18446744073709551616) : Lib.bitLen n ≤ 64 := (bitAux_range 64 n h).2.2
theorem bitLen_wd {n : Nat} (h : n < 18446744073709551616) : (Lib.bitLen n + 7) / 8 = (digs n).length := by
  obtain ⟨a1, a2, a3⟩ := bitAux_range 64 n h
  obtain ⟨b1, b2⟩ := digs_range 8 n (by omega) h
  rcases Nat.eq_zero_or_pos n with h0 | h0
  · subst h0
    rw [digs_zero]
    decide
  · have a4 := a2 h0
    obtain ⟨b3, b4⟩ := b2 h0
    have p1 : ∀ k : Nat, 256 ^ k = 2 ^ (8 * k) := fun k => by rw [Nat.pow_mul]
    rw [p1] at b1 b3
    unfold Lib.bitLen
    generalize Lib.bitLenAux 64 n = b at *
    generalize (digs n).length = d at *
    have c1 : 8 * (d - 1) < b := (Nat.pow_lt_pow_iff_right (by decide : 1 < 2)).1 (Nat.lt_of_le_of_lt b3 a1)
    have c2 : b - 1 < 8 * d := (Nat.pow_lt_pow_iff_right (by decide : 1 < 2)).1 (Nat.lt_of_le_of_lt a4 b1)
    omega

theorem digs_get : ∀ (k n i : Nat), n < 18446744073709551616 → k + 1 + i = (digs n).length → (digs n).getD i 0 = UInt8.ofNat (n / 256 ^ k % 256)
  | k, n, i, h, hk => by
    have h0 : 0 < n := by
      rcases Nat.eq_zero_or_pos n with h0 | h0
      · subst h0; rw [digs_zero] at hk; simp at hk
      · exact h0
    rw [digs_step h0 h, List.length_append, List.length_singleton] at hk
    rw [digs_step h0 h]
    rcases k with _ | k
    · rw [List.getD_eq_getElem?_getD, List.getElem?_append_right (by omega), show i - (digs (n / 256)).length = 0 by omega]
      simp
    · rw [List.getD_eq_getElem?_getD, List.getElem?_append_left (by omega), ← List.getD_eq_getElem?_getD, digs_get k (n / 256) i (by omega) (by omega), Nat.div_div_eq_div_mul, Nat.pow_succ', ]

theorem bv_digit {n k i : Nat} (hn : n < 18446744073709551616) (hk : k + 1 + i = (digs n).length) :
    bv ((digs n).getD i 0) = .int .u8 (IntKind.u8.wrap ((n : Int) / 2 ^ min (8 * (k : Int)).toNat 64)) := by
  have h8 := digs_len n
  rw [digs_get k n i hn hk, bv_ofNat (by omega), IntKind.wrap_u8]
  have e : min (8 * (k : Int)).toNat 64 = 8 * k := by omega
  rw [e]
  have : ((n / 256 ^ k % 256 : Nat) : Int) = (n : Int) / (2 : Int) ^ (8 * k) % 256 := by
    rw [show (256 : Nat) ^ k = 2 ^ (8 * k) by rw [Nat.pow_mul]]
    simp
  rw [← this]
end Go.Proofs.Ytpbgcbpofhbgbaa
