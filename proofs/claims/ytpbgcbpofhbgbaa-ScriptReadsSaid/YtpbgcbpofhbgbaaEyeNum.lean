/- grain.Eye.Num. -/
import Derived.Test.YtpbgcbpofhbgbaaEye
namespace Go.Proofs.Ytpbgcbpofhbgbaa
open Go.RowKit

theorem readS_bad {l : List UInt8} {f : Int} {most : Nat} (h : f ≠ 0) : readS l f most = (0, l, f) := by unfold readS; rw [if_pos h]
theorem readS_nil {most : Nat} : readS [] 0 most = (0, [], 11) := rfl
theorem readS_wide {x : UInt8} {r : List UInt8} {most : Nat} (h : 8 < x.toNat) : readS (x :: r) 0 most = (0, [], 10) := by unfold readS; rw [if_neg (by simp)]; dsimp only; rw [if_pos h]
theorem readS_short {x : UInt8} {r : List UInt8} {most : Nat} (h : ¬ 8 < x.toNat) (h2 : r.length < x.toNat) : readS (x :: r) 0 most = (0, [], 11) := by
  unfold readS; rw [if_neg (by simp)]; dsimp only; rw [if_neg h, if_pos h2]
theorem readS_zero {x : UInt8} {r : List UInt8} {most : Nat} (h : ¬ 8 < x.toNat) (h2 : ¬ r.length < x.toNat) (h3 : 0 < x.toNat ∧ r.getD 0 0 = 0) : readS (x :: r) 0 most = (0, [], 10) := by
  unfold readS; rw [if_neg (by simp)]; dsimp only; rw [if_neg h, if_neg h2, if_pos h3]
theorem readS_long {x : UInt8} {r : List UInt8} {most : Nat} (h : ¬ 8 < x.toNat) (h2 : ¬ r.length < x.toNat) (h3 : ¬ (0 < x.toNat ∧ r.getD 0 0 = 0)) (h4 : most < val (r.take x.toNat)) : readS (x :: r) 0 most = (0, [], 13) := by
  unfold readS; rw [if_neg (by simp)]; dsimp only; rw [if_neg h, if_neg h2, if_neg h3, if_pos h4]
theorem readS_ok {x : UInt8} {r : List UInt8} {most : Nat} (h : ¬ 8 < x.toNat) (h2 : ¬ r.length < x.toNat) (h3 : ¬ (0 < x.toNat ∧ r.getD 0 0 = 0)) (h4 : ¬ most < val (r.take x.toNat)) : readS (x :: r) 0 most = (val (r.take x.toNat), r.drop x.toNat, 0) := by
  unfold readS; rw [if_neg (by simp)]; dsimp only; rw [if_neg h, if_neg h2, if_neg h3, if_neg h4]

/-- what a read leaves -/
def NumTo (w : World) (T eb : Nat) (Z : Nat → Prop) (r : Nat × List UInt8 × Int) (e : Ending) (w' : World) : Prop := e = .returned (.int .u64 (r.1 : Int)) ∧ EyeTo w T eb Z r.2.1 r.2.2 w'

theorem byte_at {w w1 : World} {T eb : Nat} {Z : Nat → Prop} {A : Option Addr} {c : Nat} {x : UInt8} {r l1 : List UInt8} {f f1 : Int} (h : EyeAt w T eb Z A c (x :: r) f) (hz : ¬ Z eb) (h1 : EyeTo w T eb Z l1 f1 w1) :
    ∃ b off, A = some ⟨b, off, none⟩ ∧ w1.cell? ⟨b, off, none⟩ = some (.int .u8 (x.toNat : Int)) := by
  have := h.2.1.fr h1.fr (by rintro b _ hb rfl; exact hz hb)
  obtain ⟨b, off, e, _, _, hc⟩ := Rd.atm this (k := 0) (by simp)
  exact ⟨b, off, e, hc⟩

theorem digit0 {r : List UInt8} {k : Nat} (h : r.getD 0 0 ≠ 0) (hk : 0 < (r.take k).length) : (((r.take k)[0]'hk).toNat : Int) ≠ 0 := by
  rw [List.getElem_take]
  rcases r with _ | ⟨y, r⟩
  · simp at hk
  · simp at h ⊢
    intro e
    exact h (UInt8.toNat_inj.1 (by simpa using e))

theorem digit00 {r : List UInt8} {k : Nat} (h : r.getD 0 0 = 0) (hk : 0 < (r.take k).length) : (((r.take k)[0]'hk).toNat : Int) = 0 := by
  rw [List.getElem_take]
  rcases r with _ | ⟨y, r⟩
  · simp at hk
  · simp at h ⊢
    rw [h]; rfl

set_option maxHeartbeats 400000 in
theorem eyeNum_bad (eb : Nat) (Z : Nat → Prop) (A : Option Addr) (c : Nat) (l : List UInt8) (f : Int) (most : Nat) (w : World) (h : EyeAt w 132 eb Z A c l f) (hf : f ≠ 0) :
    Calls Try.prog 87 #[.pointer (some ⟨eb, 0, none⟩), .int .u64 most] w (NumTo w 132 eb Z (readS l f most)) := by
  have c1 := h.c1
  rw [readS_bad hf]
  have hfb : (f != 0) = true := by simpa using hf
  go_enter Try.func87, Try.ntmps87
  go_wp2_with fail
  go_ret
  exact ⟨rfl, h.to⟩

set_option maxHeartbeats 400000 in
theorem eyeNum_none (eb : Nat) (Z : Nat → Prop) (A : Option Addr) (c : Nat) (most : Nat) (w : World) (h : EyeAt w 132 eb Z A c [] 0) :
    Calls Try.prog 87 #[.pointer (some ⟨eb, 0, none⟩), .int .u64 most] w (NumTo w 132 eb Z (readS [] 0 most)) := by
  have c1 := h.c1
  rw [readS_nil]
  go_enter Try.func87, Try.ntmps87
  go_wp2_with fail
  refine (take_out eb Z A c [] 1 w h (by simp)).mono ?_
  rintro e w1 ⟨rfl, h1⟩
  go_wp2_with fail
  go_ret
  exact ⟨rfl, h1⟩

set_option maxHeartbeats 400000 in
theorem eyeNum_wide (eb : Nat) (Z : Nat → Prop) (A : Option Addr) (c : Nat) (x : UInt8) (r : List UInt8) (most : Nat) (w : World) (h : EyeAt w 132 eb Z A c (x :: r) 0) (hz : ¬ Z eb) (hx : 8 < x.toNat) :
    Calls Try.prog 87 #[.pointer (some ⟨eb, 0, none⟩), .int .u64 most] w (NumTo w 132 eb Z (readS (x :: r) 0 most)) := by
  have c1 := h.c1
  rw [readS_wide hx]
  go_enter Try.func87, Try.ntmps87
  go_wp2_with fail
  refine (take_in eb Z A c (x :: r) 0 1 w h hz (by simp)).mono ?_
  rintro e w1 ⟨c2, rfl, hc2, hm2, h1⟩
  replace h1 : EyeTo w 132 eb Z r 0 w1 := h1
  obtain ⟨b, off, rfl, hcell⟩ := byte_at h hz h1
  obtain ⟨A1, ca1, ha1⟩ := h1.at_
  go_wp2_with fail
  refine (fail_any eb Z A1 ca1 r 0 10 w1 ha1).mono ?_
  rintro e w2 ⟨rfl, h2⟩
  go_wp2_with fail
  go_ret
  exact ⟨rfl, h1.trans h2⟩

set_option maxHeartbeats 400000 in
theorem eyeNum_short (eb : Nat) (Z : Nat → Prop) (A : Option Addr) (c : Nat) (x : UInt8) (r : List UInt8) (most : Nat) (w : World) (h : EyeAt w 132 eb Z A c (x :: r) 0) (hz : ¬ Z eb) (hx : ¬ 8 < x.toNat) (hr : r.length < x.toNat) :
    Calls Try.prog 87 #[.pointer (some ⟨eb, 0, none⟩), .int .u64 most] w (NumTo w 132 eb Z (readS (x :: r) 0 most)) := by
  have c1 := h.c1
  rw [readS_short hx hr]
  go_enter Try.func87, Try.ntmps87
  go_wp2_with fail
  refine (take_in eb Z A c (x :: r) 0 1 w h hz (by simp)).mono ?_
  rintro e w1 ⟨c2, rfl, hc2, hm2, h1⟩
  replace h1 : EyeTo w 132 eb Z r 0 w1 := h1
  obtain ⟨b, off, rfl, hcell⟩ := byte_at h hz h1
  obtain ⟨A1, ca1, ha1⟩ := h1.at_
  go_wp2_with fail
  refine (take_out eb Z A1 ca1 r x.toNat w1 ha1 hr).mono ?_
  rintro e w2 ⟨rfl, h2⟩
  obtain ⟨A2, ca2, ha2⟩ := h2.at_
  have c12 := ha2.c1
  go_wp2_with fail
  go_loop [4, 48] (fun nv iv => nv = .int .u64 0 ∧ iv = .int .i64 0) (fun _ _ => 0)
  case atStart => exact ⟨rfl, rfl⟩
  case round =>
    obtain ⟨rfl, rfl⟩ := hrel
    go_wp2_with fail
    go_ret
    exact ⟨rfl, h1.trans h2⟩

set_option maxHeartbeats 300000 in
theorem eyeNum_ok0 (eb : Nat) (Z : Nat → Prop) (A : Option Addr) (c : Nat) (x : UInt8) (r : List UInt8) (most : Nat) (w : World) (h : EyeAt w 132 eb Z A c (x :: r) 0) (hz : ¬ Z eb) (hx : ¬ 8 < x.toNat) (hr : ¬ r.length < x.toNat)
    (h0 : Hid (x.toNat = 0)) :
    Calls Try.prog 87 #[.pointer (some ⟨eb, 0, none⟩), .int .u64 most] w (NumTo w 132 eb Z (readS (x :: r) 0 most)) := by
  have c1 := h.c1
  have hdl : (r.take x.toNat).length = x.toNat := by rw [List.length_take]; omega
  go_enter Try.func87, Try.ntmps87
  go_wp2_with fail
  refine (take_in eb Z A c (x :: r) 0 1 w h hz (by simp)).mono ?_
  rintro e w1 ⟨c2, rfl, hc2, hm2, h1⟩
  replace h1 : EyeTo w 132 eb Z r 0 w1 := h1
  obtain ⟨b, off, rfl, hcell⟩ := byte_at h hz h1
  obtain ⟨A1, ca1, ha1⟩ := h1.at_
  go_wp2_with fail
  refine (take_in eb Z A1 ca1 r 0 x.toNat w1 ha1 hz (by omega)).mono ?_
  rintro e w2 ⟨c3, rfl, hc3, hm3, h2⟩
  have hD : Rd w2 Z 1 A1 x.toNat ((r.take x.toNat).map bv) := by
    have := (Rd.take ha1.2.1 (k := x.toNat) (by omega)).fr h2.fr (by rintro b _ hb rfl; exact hz hb)
    rw [Nat.mul_one, ← List.map_take] at this
    exact this
  have h12 := h1.trans h2
  have HD := Lib.hid hdl
  clear hdl
  have h0b : decide (0 < x.toNat) = false := by have := h0.out; simp; omega
  go_wp2_with fail
  go_loop [4, 48] (fun nv iv => ∃ i : Nat, i ≤ x.toNat ∧ iv = .int .i64 (i : Int) ∧ nv = .int .u64 (val ((r.take x.toNat).take i) : Int)) (fun _ iv => x.toNat - (intOf iv).toNat)
  case atStart => exact ⟨0, Nat.zero_le _, rfl, rfl⟩
  case round =>
    obtain ⟨i, hi, rfl, rfl⟩ := hrel
    by_cases hlt : i < x.toNat
    · obtain ⟨b2, off2, eA, _, _, hc⟩ := hD.atm (k := i) (by rw [HD.out]; exact hlt)
      subst eA
      have hv := val_take (l := r.take x.toNat) (i := i) (by rw [HD.out]; exact hlt)
      have hb7 : val ((r.take x.toNat).take i) < 256 ^ 7 := Nat.lt_of_lt_of_le (val_lt _) (Nat.pow_le_pow_right (by decide) (by rw [List.length_take, HD.out]; omega))
      have hgd : (r.take x.toNat).getD i 0 = (r.take x.toNat)[i]'(by rw [HD.out]; exact hlt) := by rw [List.getD_eq_getElem?_getD, List.getElem?_eq_getElem (by rw [HD.out]; exact hlt)]; rfl
      rw [hgd] at hv
      generalize (r.take x.toNat)[i]'(by rw [HD.out]; exact hlt) = d at hc hv
      have HV := Lib.hid hv
      clear hv hgd
      unfold bv at hc
      generalize val ((r.take x.toNat).take i) = m at *
      have hor := or_byte (n := m) (d := d) hb7
      have hm56 : m < 72057594037927936 := hb7
      clear hb7
      have hd8 := d.toNat_lt
      go_wp2_with fail
      go_round
      case rel => exact ⟨i + 1, hlt, by go_num, by rw [HV.out]; go_num⟩
      case measure => simp [intOf]; omega
    · have e : i = x.toNat := by omega
      subst e
      rw [show ((r.take x.toNat).take x.toNat) = r.take x.toNat by rw [List.take_take]; simp]
      obtain ⟨A3, ca3, ha3⟩ := h2.at_
      have c13 := ha3.c1
      have hvl := val_lt64 (l := r.take x.toNat) (by rw [HD.out]; omega)
      by_cases hm : most < val (r.take x.toNat)
      · go_wp2_with fail
        refine (fail_any eb Z A3 ca3 (r.drop x.toNat) 0 13 _ ha3).mono ?_
        rintro e w9 ⟨rfl, h9⟩
        replace h9 : EyeTo w2 132 eb Z [] 13 w9 := h9
        obtain ⟨A4, ca4, ha4⟩ := h9.at_
        have c14 := ha4.c1
        go_wp2_with fail
        go_ret
        rw [readS_long hx hr (by have := h0.out; omega) hm]
        exact ⟨rfl, h12.trans h9⟩
      · go_wp2_with fail
        go_ret
        rw [readS_ok hx hr (by have := h0.out; omega) hm]
        exact ⟨rfl, h12⟩

set_option maxHeartbeats 300000 in
theorem eyeNum_ok1 (eb : Nat) (Z : Nat → Prop) (A : Option Addr) (c : Nat) (x : UInt8) (r : List UInt8) (most : Nat) (w : World) (h : EyeAt w 132 eb Z A c (x :: r) 0) (hz : ¬ Z eb) (hx : ¬ 8 < x.toNat) (hr : ¬ r.length < x.toNat)
    (h0 : 0 < x.toNat) (hr0 : r.getD 0 0 ≠ 0) :
    Calls Try.prog 87 #[.pointer (some ⟨eb, 0, none⟩), .int .u64 most] w (NumTo w 132 eb Z (readS (x :: r) 0 most)) := by
  have c1 := h.c1
  have hdl : (r.take x.toNat).length = x.toNat := by rw [List.length_take]; omega
  have hcl : ¬ (0 < x.toNat ∧ r.getD 0 0 = 0) := fun hh => hr0 hh.2
  have HCL := Lib.hid hcl
  clear hcl
  go_enter Try.func87, Try.ntmps87
  go_wp2_with fail
  refine (take_in eb Z A c (x :: r) 0 1 w h hz (by simp)).mono ?_
  rintro e w1 ⟨c2, rfl, hc2, hm2, h1⟩
  replace h1 : EyeTo w 132 eb Z r 0 w1 := h1
  obtain ⟨b, off, rfl, hcell⟩ := byte_at h hz h1
  obtain ⟨A1, ca1, ha1⟩ := h1.at_
  go_wp2_with fail
  refine (take_in eb Z A1 ca1 r 0 x.toNat w1 ha1 hz (by omega)).mono ?_
  rintro e w2 ⟨c3, rfl, hc3, hm3, h2⟩
  have hD : Rd w2 Z 1 A1 x.toNat ((r.take x.toNat).map bv) := by
    have := (Rd.take ha1.2.1 (k := x.toNat) (by omega)).fr h2.fr (by rintro b _ hb rfl; exact hz hb)
    rw [Nat.mul_one, ← List.map_take] at this
    exact this
  have h12 := h1.trans h2
  have HD := Lib.hid hdl
  clear hdl
  obtain ⟨b1, off1, rfl, _, _, hc0⟩ := hD.atm (k := 0) (by rw [HD.out]; exact h0)
  have hr0b : (((r.take x.toNat)[0]'(by rw [HD.out]; exact h0)).toNat : Int) ≠ 0 := digit0 hr0 (by rw [HD.out]; exact h0)
  generalize (r.take x.toNat)[0]'(by rw [HD.out]; exact h0) = d0 at hc0 hr0b
  replace hc0 : w2.cell? ⟨b1, off1, none⟩ = some (.int .u8 (d0.toNat : Int)) := hc0
  have hr0c : ((d0.toNat : Int) == 0) = false := by simpa using hr0b
  clear hr0b hr0
  go_wp2_with fail
  go_loop [4, 48] (fun nv iv => ∃ i : Nat, i ≤ x.toNat ∧ iv = .int .i64 (i : Int) ∧ nv = .int .u64 (val ((r.take x.toNat).take i) : Int)) (fun _ iv => x.toNat - (intOf iv).toNat)
  case atStart => exact ⟨0, Nat.zero_le _, rfl, rfl⟩
  case round =>
    obtain ⟨i, hi, rfl, rfl⟩ := hrel
    by_cases hlt : i < x.toNat
    · obtain ⟨b2, off2, eA, _, _, hc⟩ := hD.atm (k := i) (by rw [HD.out]; exact hlt)
      obtain ⟨rfl, rfl⟩ : b1 = b2 ∧ off1 = off2 := by simpa using eA
      have hv := val_take (l := r.take x.toNat) (i := i) (by rw [HD.out]; exact hlt)
      have hb7 : val ((r.take x.toNat).take i) < 256 ^ 7 := Nat.lt_of_lt_of_le (val_lt _) (Nat.pow_le_pow_right (by decide) (by rw [List.length_take, HD.out]; omega))
      have hgd : (r.take x.toNat).getD i 0 = (r.take x.toNat)[i]'(by rw [HD.out]; exact hlt) := by rw [List.getD_eq_getElem?_getD, List.getElem?_eq_getElem (by rw [HD.out]; exact hlt)]; rfl
      rw [hgd] at hv
      generalize (r.take x.toNat)[i]'(by rw [HD.out]; exact hlt) = d at hc hv
      have HV := Lib.hid hv
      clear hv hgd
      unfold bv at hc
      generalize val ((r.take x.toNat).take i) = m at *
      have hor := or_byte (n := m) (d := d) hb7
      have hm56 : m < 72057594037927936 := hb7
      clear hb7
      have hd8 := d.toNat_lt
      go_wp2_with fail
      go_round
      case rel => exact ⟨i + 1, hlt, by go_num, by rw [HV.out]; go_num⟩
      case measure => simp [intOf]; omega
    · have e : i = x.toNat := by omega
      subst e
      rw [show ((r.take x.toNat).take x.toNat) = r.take x.toNat by rw [List.take_take]; simp]
      obtain ⟨A3, ca3, ha3⟩ := h2.at_
      have c13 := ha3.c1
      have hvl := val_lt64 (l := r.take x.toNat) (by rw [HD.out]; omega)
      by_cases hm : most < val (r.take x.toNat)
      · go_wp2_with fail
        refine (fail_any eb Z A3 ca3 (r.drop x.toNat) 0 13 _ ha3).mono ?_
        rintro e w9 ⟨rfl, h9⟩
        replace h9 : EyeTo w2 132 eb Z [] 13 w9 := h9
        obtain ⟨A4, ca4, ha4⟩ := h9.at_
        have c14 := ha4.c1
        go_wp2_with fail
        go_ret
        rw [readS_long hx hr HCL.out hm]
        exact ⟨rfl, h12.trans h9⟩
      · go_wp2_with fail
        go_ret
        rw [readS_ok hx hr HCL.out hm]
        exact ⟨rfl, h12⟩

set_option maxHeartbeats 300000 in
theorem eyeNum_zero (eb : Nat) (Z : Nat → Prop) (A : Option Addr) (c : Nat) (x : UInt8) (r : List UInt8) (most : Nat) (w : World) (h : EyeAt w 132 eb Z A c (x :: r) 0) (hz : ¬ Z eb) (hx : ¬ 8 < x.toNat) (hr : ¬ r.length < x.toNat)
    (h0 : 0 < x.toNat) (hr0 : r.getD 0 0 = 0) :
    Calls Try.prog 87 #[.pointer (some ⟨eb, 0, none⟩), .int .u64 most] w (NumTo w 132 eb Z (readS (x :: r) 0 most)) := by
  have c1 := h.c1
  have hdl : (r.take x.toNat).length = x.toNat := by rw [List.length_take]; omega
  have hcl : 0 < x.toNat ∧ r.getD 0 0 = 0 := ⟨h0, hr0⟩
  have HCL := Lib.hid hcl
  clear hcl
  go_enter Try.func87, Try.ntmps87
  go_wp2_with fail
  refine (take_in eb Z A c (x :: r) 0 1 w h hz (by simp)).mono ?_
  rintro e w1 ⟨c2, rfl, hc2, hm2, h1⟩
  replace h1 : EyeTo w 132 eb Z r 0 w1 := h1
  obtain ⟨b, off, rfl, hcell⟩ := byte_at h hz h1
  obtain ⟨A1, ca1, ha1⟩ := h1.at_
  go_wp2_with fail
  refine (take_in eb Z A1 ca1 r 0 x.toNat w1 ha1 hz (by omega)).mono ?_
  rintro e w2 ⟨c3, rfl, hc3, hm3, h2⟩
  have hD : Rd w2 Z 1 A1 x.toNat ((r.take x.toNat).map bv) := by
    have := (Rd.take ha1.2.1 (k := x.toNat) (by omega)).fr h2.fr (by rintro b _ hb rfl; exact hz hb)
    rw [Nat.mul_one, ← List.map_take] at this
    exact this
  have h12 := h1.trans h2
  have HD := Lib.hid hdl
  clear hdl
  obtain ⟨b1, off1, rfl, _, _, hc0⟩ := hD.atm (k := 0) (by rw [HD.out]; exact h0)
  have hr0b : (((r.take x.toNat)[0]'(by rw [HD.out]; exact h0)).toNat : Int) = 0 := digit00 hr0 (by rw [HD.out]; exact h0)
  clear hr0
  unfold bv at hc0
  rw [hr0b] at hc0
  clear hr0b
  replace hc0 : w2.cell? ⟨b1, off1, none⟩ = some (.int .u8 0) := hc0
  obtain ⟨A5, ca5, ha5⟩ := h2.at_
  go_wp2_with fail
  refine (fail_any eb Z A5 ca5 (r.drop x.toNat) 0 10 _ ha5).mono ?_
  rintro e w3 ⟨rfl, h3⟩
  replace h3 : EyeTo w2 132 eb Z [] 10 w3 := h3
  replace hD := hD.fr h3.fr (by rintro b _ hb rfl; exact hz hb)
  have h13 := h12.trans h3
  go_wp2_with fail
  go_loop [4, 48] (fun nv iv => ∃ i : Nat, i ≤ x.toNat ∧ iv = .int .i64 (i : Int) ∧ nv = .int .u64 (val ((r.take x.toNat).take i) : Int)) (fun _ iv => x.toNat - (intOf iv).toNat)
  case atStart => exact ⟨0, Nat.zero_le _, rfl, rfl⟩
  case round =>
    obtain ⟨i, hi, rfl, rfl⟩ := hrel
    by_cases hlt : i < x.toNat
    · obtain ⟨b2, off2, eA, _, _, hc⟩ := hD.atm (k := i) (by rw [HD.out]; exact hlt)
      obtain ⟨rfl, rfl⟩ : b1 = b2 ∧ off1 = off2 := by simpa using eA
      have hv := val_take (l := r.take x.toNat) (i := i) (by rw [HD.out]; exact hlt)
      have hb7 : val ((r.take x.toNat).take i) < 256 ^ 7 := Nat.lt_of_lt_of_le (val_lt _) (Nat.pow_le_pow_right (by decide) (by rw [List.length_take, HD.out]; omega))
      have hgd : (r.take x.toNat).getD i 0 = (r.take x.toNat)[i]'(by rw [HD.out]; exact hlt) := by rw [List.getD_eq_getElem?_getD, List.getElem?_eq_getElem (by rw [HD.out]; exact hlt)]; rfl
      rw [hgd] at hv
      generalize (r.take x.toNat)[i]'(by rw [HD.out]; exact hlt) = d at hc hv
      have HV := Lib.hid hv
      clear hv hgd
      unfold bv at hc
      generalize val ((r.take x.toNat).take i) = m at *
      have hor := or_byte (n := m) (d := d) hb7
      have hm56 : m < 72057594037927936 := hb7
      clear hb7
      have hd8 := d.toNat_lt
      go_wp2_with fail
      go_round
      case rel => exact ⟨i + 1, hlt, by go_num, by rw [HV.out]; go_num⟩
      case measure => simp [intOf]; omega
    · have e : i = x.toNat := by omega
      subst e
      rw [show ((r.take x.toNat).take x.toNat) = r.take x.toNat by rw [List.take_take]; simp]
      obtain ⟨A3, ca3, ha3⟩ := h3.at_
      have c13 := ha3.c1
      have hvl := val_lt64 (l := r.take x.toNat) (by rw [HD.out]; omega)
      by_cases hm : most < val (r.take x.toNat)
      · go_wp2_with fail
        refine (fail_any eb Z A3 ca3 [] 10 13 _ ha3).mono ?_
        rintro e w9 ⟨rfl, h9⟩
        replace h9 : EyeTo w3 132 eb Z [] 10 w9 := h9
        obtain ⟨A4, ca4, ha4⟩ := h9.at_
        have c14 := ha4.c1
        go_wp2_with fail
        go_ret
        rw [readS_zero hx hr HCL.out]
        exact ⟨rfl, h13.trans h9⟩
      · go_wp2_with fail
        go_ret
        rw [readS_zero hx hr HCL.out]
        exact ⟨rfl, h13⟩


theorem eyeNum_any (eb : Nat) (Z : Nat → Prop) (A : Option Addr) (c : Nat) (l : List UInt8) (f : Int) (most : Nat) (w : World) (h : EyeAt w 132 eb Z A c l f) (hz : ¬ Z eb) :
    Calls Try.prog 87 #[.pointer (some ⟨eb, 0, none⟩), .int .u64 most] w (NumTo w 132 eb Z (readS l f most)) := by
  by_cases hf : f = 0
  · subst hf
    rcases l with _ | ⟨x, r⟩
    · exact eyeNum_none eb Z A c most w h
    · by_cases hx : 8 < x.toNat
      · exact eyeNum_wide eb Z A c x r most w h hz hx
      · by_cases hr : r.length < x.toNat
        · exact eyeNum_short eb Z A c x r most w h hz hx hr
        · by_cases h0 : x.toNat = 0
          · exact eyeNum_ok0 eb Z A c x r most w h hz hx hr h0
          · by_cases hr0 : r.getD 0 0 = 0
            · exact eyeNum_zero eb Z A c x r most w h hz hx hr (by omega) hr0
            · exact eyeNum_ok1 eb Z A c x r most w h hz hx hr (by omega) hr0
  · exact eyeNum_bad eb Z A c l f most w h hf
end Go.Proofs.Ytpbgcbpofhbgbaa
