/- grain.Eye: Open, Fault, Left, Close, Int, Truth; digits and their number. -/
import Derived.Test.YtpbgcbpofhbgbaaEyeRead
namespace Go.Proofs.Ytpbgcbpofhbgbaa
open Go.RowKit

theorem val_pos : ∀ (m : Nat) (D : List UInt8), D.length = m → D ≠ [] → D.getD 0 0 ≠ 0 → 0 < val D
  | 0, D, h, h2, _ => absurd (List.eq_nil_of_length_eq_zero h) h2
  | m + 1, D, h, h2, h3 => by
    have e : D = D.dropLast ++ [D.getLast h2] := (List.dropLast_concat_getLast h2).symm
    rcases Nat.eq_zero_or_pos m with h0 | h0
    · subst h0
      obtain ⟨d, rfl⟩ := List.length_eq_one_iff.1 h
      simp at h3
      simp only [val, List.foldl_cons, List.foldl_nil]
      have : d.toNat ≠ 0 := fun e => h3 (UInt8.toNat_inj.1 (by simpa using e))
      omega
    · have hl : D.dropLast.length = m := by simp [h]
      have hn : D.dropLast ≠ [] := by intro e; rw [e] at hl; simp at hl; omega
      have hg : D.dropLast.getD 0 0 = D.getD 0 0 := by
        rw [List.getD_eq_getElem?_getD, List.getD_eq_getElem?_getD, List.getElem?_dropLast, if_pos (by omega)]
      have := val_pos m _ hl hn (by rw [hg]; exact h3)
      rw [e, val_snoc]
      omega

theorem digs_val : ∀ (m : Nat) (D : List UInt8), D.length = m → m ≤ 8 → (D ≠ [] → D.getD 0 0 ≠ 0) → digs (val D) = D
  | 0, D, h, _, _ => by
    have := List.eq_nil_of_length_eq_zero h
    subst this
    exact digs_zero
  | m + 1, D, h, hm, h3 => by
    have h2 : D ≠ [] := by intro e; rw [e] at h; simp at h
    have hp := val_pos _ D h h2 (h3 h2)
    have h64 := val_lt64 (l := D) (by omega)
    rw [digs_step hp h64]
    have e : D = D.dropLast ++ [D.getLast h2] := (List.dropLast_concat_getLast h2).symm
    have hv : val D = val D.dropLast * 256 + (D.getLast h2).toNat := by
      conv => lhs; rw [e]
      exact val_snoc _ _
    have hd := (D.getLast h2).toNat_lt
    have hdiv : val D / 256 = val D.dropLast := by omega
    have hmod : val D % 256 = (D.getLast h2).toNat := by omega
    rw [hdiv, hmod, digs_val m D.dropLast (by simp [h]) (by omega) ?_]
    · rw [UInt8.ofNat_toNat]
      exact e.symm
    · intro hn
      have hl : D.dropLast.length = m := by simp [h]
      have hm0 : 0 < m := by
        rcases Nat.eq_zero_or_pos m with h0 | h0
        · rw [h0] at hl; exact absurd (List.eq_nil_of_length_eq_zero hl) hn
        · exact h0
      rw [List.getD_eq_getElem?_getD, List.getElem?_dropLast, if_pos (by omega), ← List.getD_eq_getElem?_getD]
      exact h3 h2

/-- a number that was read has just the bytes of which it was read -/
theorem readS_once {l l' : List UInt8} {n most : Nat} (h : readS l 0 most = (n, l', 0)) : n ≤ most ∧ n < 18446744073709551616 ∧ ∃ k, 1 ≤ k ∧ k ≤ l.length ∧ l'.length = l.length - k ∧ l.take k = numB n ∧ l' = l.drop k := by
  rcases l with _ | ⟨x, r⟩
  · rw [readS_nil] at h; simp at h
  · by_cases h1 : 8 < x.toNat
    · rw [readS_wide h1] at h; simp at h
    · by_cases h2 : r.length < x.toNat
      · rw [readS_short h1 h2] at h; simp at h
      · by_cases h3 : 0 < x.toNat ∧ r.getD 0 0 = 0
        · rw [readS_zero h1 h2 h3] at h; simp at h
        · by_cases h4 : most < val (r.take x.toNat)
          · rw [readS_long h1 h2 h3 h4] at h; simp at h
          · rw [readS_ok h1 h2 h3 h4] at h
            simp only [Prod.mk.injEq, and_true] at h
            obtain ⟨rfl, rfl⟩ := h
            have hlen : (r.take x.toNat).length = x.toNat := by rw [List.length_take]; omega
            refine ⟨by omega, val_lt64 (by rw [hlen]; omega), x.toNat + 1, by omega, by simp; omega, by simp, ?_, by simp⟩
            have hd := digs_val _ (r.take x.toNat) hlen (by omega) (by
              intro hn e
              have h0 : 0 < x.toNat := by
                rcases Nat.eq_zero_or_pos x.toNat with h0 | h0
                · rw [h0] at hn; simp at hn
                · exact h0
              refine h3 ⟨h0, ?_⟩
              rw [List.getD_eq_getElem?_getD, List.getElem?_take, if_pos h0, ← List.getD_eq_getElem?_getD] at e
              exact e)
            unfold numB
            rw [hd, hlen, UInt8.ofNat_toNat, List.take_succ_cons]

theorem failS_pair (l : List UInt8) (f code : Int) : failS l f code = ((failS l f code).1, (failS l f code).2) := rfl

set_option maxHeartbeats 400000 in
theorem open_any (A : Option Addr) (c n : Nat) (w : World) :
    Calls Try.prog 61 #[.slice A n c] w fun e w' => e = .returned (.pointer (some ⟨w.heap.size, 0, none⟩)) ∧ w.alloc (.cells #[.slice A n c, .int .i64 0] 132) = w' := by
  go_enter Try.func61, Try.ntmps61
  go_wp2_with fail
  go_ret
  exact ⟨rfl, rfl⟩
/-- a new eye -/
theorem EyeAt.new (w : World) {T : Nat} {Z : Nat → Prop} {A : Option Addr} {c : Nat} {l : List UInt8} (h : By w Z A l) (h1 : l.length ≤ c) (h2 : c ≤ maxLen) :
    EyeAt (w.alloc (.cells #[.slice A l.length c, .int .i64 0] T)) T w.heap.size Z A c l 0 := ⟨Blk.new _ _ _, h.alloc _, h1, h2⟩

set_option maxHeartbeats 400000 in
theorem fault_any (eb : Nat) (Z : Nat → Prop) (A : Option Addr) (c : Nat) (l : List UInt8) (f : Int) (w : World) (h : EyeAt w 132 eb Z A c l f) :
    Calls Try.prog 63 #[.pointer (some ⟨eb, 0, none⟩)] w fun e w' => e = .returned (.int .i64 f) ∧ w = w' := by
  have c1 := h.c1
  go_enter Try.func63, Try.ntmps63
  go_wp2_with fail
  go_ret
  exact ⟨rfl, rfl⟩

set_option maxHeartbeats 400000 in
theorem left_any (eb : Nat) (Z : Nat → Prop) (A : Option Addr) (c : Nat) (l : List UInt8) (f : Int) (w : World) (h : EyeAt w 132 eb Z A c l f) :
    Calls Try.prog 94 #[.pointer (some ⟨eb, 0, none⟩)] w fun e w' => e = .returned (.int .i64 (l.length : Int)) ∧ w = w' := by
  have c0 := h.c0
  go_enter Try.func94, Try.ntmps94
  go_wp2_with fail
  go_ret
  exact ⟨rfl, rfl⟩

/-- what Close tells -/
def closeS (l : List UInt8) (f : Int) : Int := if f ≠ 0 then f else if 0 < l.length then 12 else 0

set_option maxHeartbeats 400000 in
theorem close_any (eb : Nat) (Z : Nat → Prop) (A : Option Addr) (c : Nat) (l : List UInt8) (f : Int) (w : World) (h : EyeAt w 132 eb Z A c l f) :
    Calls Try.prog 65 #[.pointer (some ⟨eb, 0, none⟩)] w fun e w' => e = .returned (.int .i64 (closeS l f)) ∧ w = w' := by
  by_cases hf : f = 0
  · by_cases hl : 0 < l.length
    · have e1 := Lib.hid (show closeS l f = 12 by unfold closeS; rw [if_neg (by simpa using hf), if_pos hl])
      subst hf
      go_enter Try.func65, Try.ntmps65
      go_wp2_with (first | (go_at_call 63; refine (fault_any eb Z A c l 0 _ h).mono ?_; rintro e w' ⟨rfl, rfl⟩) | (go_at_call 94; refine (left_any eb Z A c l 0 _ h).mono ?_; rintro e w' ⟨rfl, rfl⟩))
      go_ret
      exact ⟨by rw [e1.out]; rfl, rfl⟩
    · have e1 := Lib.hid (show closeS l f = 0 by unfold closeS; rw [if_neg (by simpa using hf), if_neg hl])
      subst hf
      go_enter Try.func65, Try.ntmps65
      go_wp2_with (first | (go_at_call 63; refine (fault_any eb Z A c l 0 _ h).mono ?_; rintro e w' ⟨rfl, rfl⟩) | (go_at_call 94; refine (left_any eb Z A c l 0 _ h).mono ?_; rintro e w' ⟨rfl, rfl⟩))
      go_ret
      exact ⟨by rw [e1.out]; rfl, rfl⟩
  · have e1 := Lib.hid (show closeS l f = f by unfold closeS; rw [if_pos hf])
    have hfb : (f != 0) = true := by simpa using hf
    go_enter Try.func65, Try.ntmps65
    go_wp2_with (first | (go_at_call 63; refine (fault_any eb Z A c l f _ h).mono ?_; rintro e w' ⟨rfl, rfl⟩))
    go_ret
    exact ⟨by rw [e1.out]; rfl, rfl⟩

end Go.Proofs.Ytpbgcbpofhbgbaa
