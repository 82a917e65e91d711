/- grain.Eye.Num. -/
import Derived.Test.YtjcfphdjgagimaaGreatDoorA06
import Derived.Lib.ConvBytes
import Derived.Deep.RegionHeld3
import Derived.Deep.RegionLaw

namespace Go.Proofs.YtjcfphdjgagimaaGreatDoor
open Go.RowKit

theorem readS_bad {l : List UInt8} {f : Int} {most : Nat} (h : f ≠ 0) : readS l f most = (0, l, f) := by unfold readS; rw [if_pos h]
theorem readS_nil {most : Nat} : readS [] 0 most = (0, [], 11) := rfl
theorem readS_wide {x : UInt8} {r : List UInt8} {most : Nat} (h : 8 < x.toNat) : readS (x :: r) 0 most = (0, [], 10) := by unfold readS; rw [if_neg (by simp)]; dsimp only; rw [if_pos h]
theorem readS_short {x : UInt8} {r : List UInt8} {most : Nat} (h : ¬ 8 < x.toNat) (h2 : r.length < x.toNat) : readS (x :: r) 0 most = (0, [], 11) := by
  unfold readS; rw [if_neg (by simp)]; dsimp only; rw [if_neg h, if_pos h2]
theorem readS_zero {x : UInt8} {r : List UInt8} {most : Nat} (h : ¬ 8 < x.toNat) (h2 : ¬ r.length < x.toNat) (h3 : 0 < x.toNat ∧ r.getD 0 0 = 0) : readS (x :: r) 0 most = (0, [], 10) := by
  unfold readS; rw [if_neg (by simp)]; dsimp only; rw [if_neg h, if_neg h2, if_pos h3]
theorem readS_long {x : UInt8} {r : List UInt8} {most : Nat} (h : ¬ 8 < x.toNat) (h2 : ¬ r.length < x.toNat) (h3 : ¬ (0 < x.toNat ∧ r.getD 0 0 = 0)) (h4 : most < val (r.take x.toNat)) : readS (x :: r) 0 most = (0, [], 13) := by
  unfold readS; rw [if_neg (by simp)]; dsimp only; rw [if_neg h, if_neg h2, if_neg h3, if_pos h4]
theorem readS_ok {x : UInt8} {r : List UInt8} {most : Nat} (h : ¬ 8 < x.toNat) (h2 : ¬ r.length < x.toNat) (h3 : ¬ (0 < x.toNat ∧ r.getD 0 0 = 0)) (h4 : ¬ most < val (r.take x.toNat)) : readS (x :: r) 0 most = (val (r.take x.toNat), r.drop x.toNat, 0) := by
  unfold readS; rw [if_neg (by simp)]; dsimp only; rw [if_neg h, if_neg h2, if_neg h3, if_neg h4]

/-- what a read leaves -/
def NumTo (w : World) (T eb : Nat) (Z : Nat → Prop) (r : Nat × List UInt8 × Int) (e : Ending) (w' : World) : Prop := e = .returned (.int .u64 (r.1 : Int)) ∧ EyeTo w T eb Z r.2.1 r.2.2 w'

theorem byte_at {w w1 : World} {T eb : Nat} {Z : Nat → Prop} {A : Option Addr} {c : Nat} {x : UInt8} {r l1 : List UInt8} {f f1 : Int} (h : EyeAt w T eb Z A c (x :: r) f) (hz : ¬ Z eb) (h1 : EyeTo w T eb Z l1 f1 w1) :
    ∃ b off, A = some ⟨b, off, none⟩ ∧ w1.cell? ⟨b, off, none⟩ = some (.int .u8 (x.toNat : Int)) := by
  have := h.2.1.fr h1.fr (by rintro b _ hb rfl; exact hz hb)
  obtain ⟨b, off, e, _, _, hc⟩ := Rd.atm this (k := 0) (by simp)
  exact ⟨b, off, e, hc⟩

theorem digit0 {r : List UInt8} {k : Nat} (h : r.getD 0 0 ≠ 0) (hk : 0 < (r.take k).length) : (((r.take k)[0]'hk).toNat : Int) ≠ 0 := by
  rw [List.getElem_take]
  rcases r with _ | ⟨y, r⟩
  · simp at hk
  · simp at h ⊢
    intro e
    exact h (UInt8.toNat_inj.1 (by simpa using e))

theorem digit00 {r : List UInt8} {k : Nat} (h : r.getD 0 0 = 0) (hk : 0 < (r.take k).length) : (((r.take k)[0]'hk).toNat : Int) = 0 := by
  rw [List.getElem_take]
  rcases r with _ | ⟨y, r⟩
  · simp at hk
  · simp at h ⊢
    rw [h]; rfl

set_option maxHeartbeats 400000 in
theorem eyeNum_bad (eb : Nat) (Z : Nat → Prop) (A : Option Addr) (c : Nat) (l : List UInt8) (f : Int) (most : Nat) (w : World) (h : EyeAt w 107 eb Z A c l f) (hf : f ≠ 0) :
    Calls Tryz.prog 61 #[.pointer (some ⟨eb, 0, none⟩), .int .u64 most] w (NumTo w 107 eb Z (readS l f most)) := by
  have c1 := h.c1
  rw [readS_bad hf]
  have hfb : (f != 0) = true := by simpa using hf
  go_enter Tryz.func61, Tryz.ntmps61
  go_wp2_with fail
  go_ret
  exact ⟨rfl, h.to⟩

set_option maxHeartbeats 400000 in
theorem eyeNum_none (eb : Nat) (Z : Nat → Prop) (A : Option Addr) (c : Nat) (most : Nat) (w : World) (h : EyeAt w 107 eb Z A c [] 0) :
    Calls Tryz.prog 61 #[.pointer (some ⟨eb, 0, none⟩), .int .u64 most] w (NumTo w 107 eb Z (readS [] 0 most)) := by
  have c1 := h.c1
  rw [readS_nil]
  go_enter Tryz.func61, Tryz.ntmps61
  go_wp2_with fail
  refine (take_out eb Z A c [] 1 w h (by simp)).mono ?_
  rintro e w1 ⟨rfl, h1⟩
  go_wp2_with fail
  go_ret
  exact ⟨rfl, h1⟩

set_option maxHeartbeats 400000 in
theorem eyeNum_wide (eb : Nat) (Z : Nat → Prop) (A : Option Addr) (c : Nat) (x : UInt8) (r : List UInt8) (most : Nat) (w : World) (h : EyeAt w 107 eb Z A c (x :: r) 0) (hz : ¬ Z eb) (hx : 8 < x.toNat) :
    Calls Tryz.prog 61 #[.pointer (some ⟨eb, 0, none⟩), .int .u64 most] w (NumTo w 107 eb Z (readS (x :: r) 0 most)) := by
  have c1 := h.c1
  rw [readS_wide hx]
  go_enter Tryz.func61, Tryz.ntmps61
  go_wp2_with fail
  refine (take_in eb Z A c (x :: r) 0 1 w h hz (by simp)).mono ?_
  rintro e w1 ⟨c2, rfl, hc2, hm2, h1⟩
  replace h1 : EyeTo w 107 eb Z r 0 w1 := h1
  obtain ⟨b, off, rfl, hcell⟩ := byte_at h hz h1
  obtain ⟨A1, ca1, ha1⟩ := h1.at_
  go_wp2_with fail
  refine (fail_any eb Z A1 ca1 r 0 10 w1 ha1).mono ?_
  rintro e w2 ⟨rfl, h2⟩
  go_wp2_with fail
  go_ret
  exact ⟨rfl, h1.trans h2⟩

set_option maxHeartbeats 400000 in
theorem eyeNum_short (eb : Nat) (Z : Nat → Prop) (A : Option Addr) (c : Nat) (x : UInt8) (r : List UInt8) (most : Nat) (w : World) (h : EyeAt w 107 eb Z A c (x :: r) 0) (hz : ¬ Z eb) (hx : ¬ 8 < x.toNat) (hr : r.length < x.toNat) :
    Calls Tryz.prog 61 #[.pointer (some ⟨eb, 0, none⟩), .int .u64 most] w (NumTo w 107 eb Z (readS (x :: r) 0 most)) := by
  have c1 := h.c1
  rw [readS_short hx hr]
  go_enter Tryz.func61, Tryz.ntmps61
  go_wp2_with fail
  refine (take_in eb Z A c (x :: r) 0 1 w h hz (by simp)).mono ?_
  rintro e w1 ⟨c2, rfl, hc2, hm2, h1⟩
  replace h1 : EyeTo w 107 eb Z r 0 w1 := h1
  obtain ⟨b, off, rfl, hcell⟩ := byte_at h hz h1
  obtain ⟨A1, ca1, ha1⟩ := h1.at_
  go_wp2_with fail
  refine (take_out eb Z A1 ca1 r x.toNat w1 ha1 hr).mono ?_
  rintro e w2 ⟨rfl, h2⟩
  obtain ⟨A2, ca2, ha2⟩ := h2.at_
  have c12 := ha2.c1
  go_wp2_with fail
  go_loop [4, 48] (fun nv iv => nv = .int .u64 0 ∧ iv = .int .i64 0) (fun _ _ => 0)
  case atStart => exact ⟨rfl, rfl⟩
  case round =>
    obtain ⟨rfl, rfl⟩ := hrel
    go_wp2_with fail
    go_ret
    exact ⟨rfl, h1.trans h2⟩

set_option maxHeartbeats 300000 in
theorem eyeNum_ok0 (eb : Nat) (Z : Nat → Prop) (A : Option Addr) (c : Nat) (x : UInt8) (r : List UInt8) (most : Nat) (w : World) (h : EyeAt w 107 eb Z A c (x :: r) 0) (hz : ¬ Z eb) (hx : ¬ 8 < x.toNat) (hr : ¬ r.length < x.toNat)
    (h0 : Hid (x.toNat = 0)) :
    Calls Tryz.prog 61 #[.pointer (some ⟨eb, 0, none⟩), .int .u64 most] w (NumTo w 107 eb Z (readS (x :: r) 0 most)) := by
  have c1 := h.c1
  have hdl : (r.take x.toNat).length = x.toNat := by rw [List.length_take]; omega
  go_enter Tryz.func61, Tryz.ntmps61
  go_wp2_with fail
  refine (take_in eb Z A c (x :: r) 0 1 w h hz (by simp)).mono ?_
  rintro e w1 ⟨c2, rfl, hc2, hm2, h1⟩
  replace h1 : EyeTo w 107 eb Z r 0 w1 := h1
  obtain ⟨b, off, rfl, hcell⟩ := byte_at h hz h1
  obtain ⟨A1, ca1, ha1⟩ := h1.at_
  go_wp2_with fail
  refine (take_in eb Z A1 ca1 r 0 x.toNat w1 ha1 hz (by omega)).mono ?_
  rintro e w2 ⟨c3, rfl, hc3, hm3, h2⟩
  have hD : Rd w2 Z 1 A1 x.toNat ((r.take x.toNat).map bv) := by
    have := (Rd.take ha1.2.1 (k := x.toNat) (by omega)).fr h2.fr (by rintro b _ hb rfl; exact hz hb)
    rw [Nat.mul_one, ← List.map_take] at this
    exact this
  have h12 := h1.trans h2
  have HD := Lib.hid hdl
  clear hdl
  have h0b : decide (0 < x.toNat) = false := by have := h0.out; simp; omega
  go_wp2_with fail
  go_loop [4, 48] (fun nv iv => ∃ i : Nat, i ≤ x.toNat ∧ iv = .int .i64 (i : Int) ∧ nv = .int .u64 (val ((r.take x.toNat).take i) : Int)) (fun _ iv => x.toNat - (intOf iv).toNat)
  case atStart => exact ⟨0, Nat.zero_le _, rfl, rfl⟩
  case round =>
    obtain ⟨i, hi, rfl, rfl⟩ := hrel
    by_cases hlt : i < x.toNat
    · obtain ⟨b2, off2, eA, _, _, hc⟩ := hD.atm (k := i) (by rw [HD.out]; exact hlt)
      subst eA
      have hv := val_take (l := r.take x.toNat) (i := i) (by rw [HD.out]; exact hlt)
      have hb7 : val ((r.take x.toNat).take i) < 256 ^ 7 := Nat.lt_of_lt_of_le (val_lt _) (Nat.pow_le_pow_right (by decide) (by rw [List.length_take, HD.out]; omega))
      have hgd : (r.take x.toNat).getD i 0 = (r.take x.toNat)[i]'(by rw [HD.out]; exact hlt) := by rw [List.getD_eq_getElem?_getD, List.getElem?_eq_getElem (by rw [HD.out]; exact hlt)]; rfl
      rw [hgd] at hv
      generalize (r.take x.toNat)[i]'(by rw [HD.out]; exact hlt) = d at hc hv
      have HV := Lib.hid hv
      clear hv hgd
      unfold bv at hc
      generalize val ((r.take x.toNat).take i) = m at *
      have hor := or_byte (n := m) (d := d) hb7
      have hm56 : m < 72057594037927936 := hb7
      clear hb7
      have hd8 := d.toNat_lt
      go_wp2_with fail
      go_round
      case rel => exact ⟨i + 1, hlt, by go_num, by rw [HV.out]; go_num⟩
      case measure => simp [intOf]; omega
    · have e : i = x.toNat := by omega
      subst e
      rw [show ((r.take x.toNat).take x.toNat) = r.take x.toNat by rw [List.take_take]; simp]
      obtain ⟨A3, ca3, ha3⟩ := h2.at_
      have c13 := ha3.c1
      have hvl := val_lt64 (l := r.take x.toNat) (by rw [HD.out]; omega)
      by_cases hm : most < val (r.take x.toNat)
      · go_wp2_with fail
        refine (fail_any eb Z A3 ca3 (r.drop x.toNat) 0 13 _ ha3).mono ?_
        rintro e w9 ⟨rfl, h9⟩
        replace h9 : EyeTo w2 107 eb Z [] 13 w9 := h9
        obtain ⟨A4, ca4, ha4⟩ := h9.at_
        have c14 := ha4.c1
        go_wp2_with fail
        go_ret
        rw [readS_long hx hr (by have := h0.out; omega) hm]
        exact ⟨rfl, h12.trans h9⟩
      · go_wp2_with fail
        go_ret
        rw [readS_ok hx hr (by have := h0.out; omega) hm]
        exact ⟨rfl, h12⟩

set_option maxHeartbeats 300000 in
theorem eyeNum_ok1 (eb : Nat) (Z : Nat → Prop) (A : Option Addr) (c : Nat) (x : UInt8) (r : List UInt8) (most : Nat) (w : World) (h : EyeAt w 107 eb Z A c (x :: r) 0) (hz : ¬ Z eb) (hx : ¬ 8 < x.toNat) (hr : ¬ r.length < x.toNat)
    (h0 : 0 < x.toNat) (hr0 : r.getD 0 0 ≠ 0) :
    Calls Tryz.prog 61 #[.pointer (some ⟨eb, 0, none⟩), .int .u64 most] w (NumTo w 107 eb Z (readS (x :: r) 0 most)) := by
  have c1 := h.c1
  have hdl : (r.take x.toNat).length = x.toNat := by rw [List.length_take]; omega
  have hcl : ¬ (0 < x.toNat ∧ r.getD 0 0 = 0) := fun hh => hr0 hh.2
  have HCL := Lib.hid hcl
  clear hcl
  go_enter Tryz.func61, Tryz.ntmps61
  go_wp2_with fail
  refine (take_in eb Z A c (x :: r) 0 1 w h hz (by simp)).mono ?_
  rintro e w1 ⟨c2, rfl, hc2, hm2, h1⟩
  replace h1 : EyeTo w 107 eb Z r 0 w1 := h1
  obtain ⟨b, off, rfl, hcell⟩ := byte_at h hz h1
  obtain ⟨A1, ca1, ha1⟩ := h1.at_
  go_wp2_with fail
  refine (take_in eb Z A1 ca1 r 0 x.toNat w1 ha1 hz (by omega)).mono ?_
  rintro e w2 ⟨c3, rfl, hc3, hm3, h2⟩
  have hD : Rd w2 Z 1 A1 x.toNat ((r.take x.toNat).map bv) := by
    have := (Rd.take ha1.2.1 (k := x.toNat) (by omega)).fr h2.fr (by rintro b _ hb rfl; exact hz hb)
    rw [Nat.mul_one, ← List.map_take] at this
    exact this
  have h12 := h1.trans h2
  have HD := Lib.hid hdl
  clear hdl
  obtain ⟨b1, off1, rfl, _, _, hc0⟩ := hD.atm (k := 0) (by rw [HD.out]; exact h0)
  have hr0b : (((r.take x.toNat)[0]'(by rw [HD.out]; exact h0)).toNat : Int) ≠ 0 := digit0 hr0 (by rw [HD.out]; exact h0)
  generalize (r.take x.toNat)[0]'(by rw [HD.out]; exact h0) = d0 at hc0 hr0b
  replace hc0 : w2.cell? ⟨b1, off1, none⟩ = some (.int .u8 (d0.toNat : Int)) := hc0
  have hr0c : ((d0.toNat : Int) == 0) = false := by simpa using hr0b
  clear hr0b hr0
  go_wp2_with fail
  go_loop [4, 48] (fun nv iv => ∃ i : Nat, i ≤ x.toNat ∧ iv = .int .i64 (i : Int) ∧ nv = .int .u64 (val ((r.take x.toNat).take i) : Int)) (fun _ iv => x.toNat - (intOf iv).toNat)
  case atStart => exact ⟨0, Nat.zero_le _, rfl, rfl⟩
  case round =>
    obtain ⟨i, hi, rfl, rfl⟩ := hrel
    by_cases hlt : i < x.toNat
    · obtain ⟨b2, off2, eA, _, _, hc⟩ := hD.atm (k := i) (by rw [HD.out]; exact hlt)
      obtain ⟨rfl, rfl⟩ : b1 = b2 ∧ off1 = off2 := by simpa using eA
      have hv := val_take (l := r.take x.toNat) (i := i) (by rw [HD.out]; exact hlt)
      have hb7 : val ((r.take x.toNat).take i) < 256 ^ 7 := Nat.lt_of_lt_of_le (val_lt _) (Nat.pow_le_pow_right (by decide) (by rw [List.length_take, HD.out]; omega))
      have hgd : (r.take x.toNat).getD i 0 = (r.take x.toNat)[i]'(by rw [HD.out]; exact hlt) := by rw [List.getD_eq_getElem?_getD, List.getElem?_eq_getElem (by rw [HD.out]; exact hlt)]; rfl
      rw [hgd] at hv
      generalize (r.take x.toNat)[i]'(by rw [HD.out]; exact hlt) = d at hc hv
      have HV := Lib.hid hv
      clear hv hgd
      unfold bv at hc
      generalize val ((r.take x.toNat).take i) = m at *
      have hor := or_byte (n := m) (d := d) hb7
      have hm56 : m < 72057594037927936 := hb7
      clear hb7
      have hd8 := d.toNat_lt
      go_wp2_with fail
      go_round
      case rel => exact ⟨i + 1, hlt, by go_num, by rw [HV.out]; go_num⟩
      case measure => simp [intOf]; omega
    · have e : i = x.toNat := by omega
      subst e
      rw [show ((r.take x.toNat).take x.toNat) = r.take x.toNat by rw [List.take_take]; simp]
      obtain ⟨A3, ca3, ha3⟩ := h2.at_
      have c13 := ha3.c1
      have hvl := val_lt64 (l := r.take x.toNat) (by rw [HD.out]; omega)
      by_cases hm : most < val (r.take x.toNat)
      · go_wp2_with fail
        refine (fail_any eb Z A3 ca3 (r.drop x.toNat) 0 13 _ ha3).mono ?_
        rintro e w9 ⟨rfl, h9⟩
        replace h9 : EyeTo w2 107 eb Z [] 13 w9 := h9
        obtain ⟨A4, ca4, ha4⟩ := h9.at_
        have c14 := ha4.c1
        go_wp2_with fail
        go_ret
        rw [readS_long hx hr HCL.out hm]
        exact ⟨rfl, h12.trans h9⟩
      · go_wp2_with fail
        go_ret
        rw [readS_ok hx hr HCL.out hm]
        exact ⟨rfl, h12⟩

set_option maxHeartbeats 300000 in
theorem eyeNum_zero (eb : Nat) (Z : Nat → Prop) (A : Option Addr) (c : Nat) (x : UInt8) (r : List UInt8) (most : Nat) (w : World) (h : EyeAt w 107 eb Z A c (x :: r) 0) (hz : ¬ Z eb) (hx : ¬ 8 < x.toNat) (hr : ¬ r.length < x.toNat)
    (h0 : 0 < x.toNat) (hr0 : r.getD 0 0 = 0) :
    Calls Tryz.prog 61 #[.pointer (some ⟨eb, 0, none⟩), .int .u64 most] w (NumTo w 107 eb Z (readS (x :: r) 0 most)) := by
  have c1 := h.c1
  have hdl : (r.take x.toNat).length = x.toNat := by rw [List.length_take]; omega
  have hcl : 0 < x.toNat ∧ r.getD 0 0 = 0 := ⟨h0, hr0⟩
  have HCL := Lib.hid hcl
  clear hcl
  go_enter Tryz.func61, Tryz.ntmps61
  go_wp2_with fail
  refine (take_in eb Z A c (x :: r) 0 1 w h hz (by simp)).mono ?_
  rintro e w1 ⟨c2, rfl, hc2, hm2, h1⟩
  replace h1 : EyeTo w 107 eb Z r 0 w1 := h1
  obtain ⟨b, off, rfl, hcell⟩ := byte_at h hz h1
  obtain ⟨A1, ca1, ha1⟩ := h1.at_
  go_wp2_with fail
  refine (take_in eb Z A1 ca1 r 0 x.toNat w1 ha1 hz (by omega)).mono ?_
  rintro e w2 ⟨c3, rfl, hc3, hm3, h2⟩
  have hD : Rd w2 Z 1 A1 x.toNat ((r.take x.toNat).map bv) := by
    have := (Rd.take ha1.2.1 (k := x.toNat) (by omega)).fr h2.fr (by rintro b _ hb rfl; exact hz hb)
    rw [Nat.mul_one, ← List.map_take] at this
    exact this
  have h12 := h1.trans h2
  have HD := Lib.hid hdl
  clear hdl
  obtain ⟨b1, off1, rfl, _, _, hc0⟩ := hD.atm (k := 0) (by rw [HD.out]; exact h0)
  have hr0b : (((r.take x.toNat)[0]'(by rw [HD.out]; exact h0)).toNat : Int) = 0 := digit00 hr0 (by rw [HD.out]; exact h0)
  clear hr0
  unfold bv at hc0
  rw [hr0b] at hc0
  clear hr0b
  replace hc0 : w2.cell? ⟨b1, off1, none⟩ = some (.int .u8 0) := hc0
  obtain ⟨A5, ca5, ha5⟩ := h2.at_
  go_wp2_with fail
  refine (fail_any eb Z A5 ca5 (r.drop x.toNat) 0 10 _ ha5).mono ?_
  rintro e w3 ⟨rfl, h3⟩
  replace h3 : EyeTo w2 107 eb Z [] 10 w3 := h3
  replace hD := hD.fr h3.fr (by rintro b _ hb rfl; exact hz hb)
  have h13 := h12.trans h3
  go_wp2_with fail
  go_loop [4, 48] (fun nv iv => ∃ i : Nat, i ≤ x.toNat ∧ iv = .int .i64 (i : Int) ∧ nv = .int .u64 (val ((r.take x.toNat).take i) : Int)) (fun _ iv => x.toNat - (intOf iv).toNat)
  case atStart => exact ⟨0, Nat.zero_le _, rfl, rfl⟩
  case round =>
    obtain ⟨i, hi, rfl, rfl⟩ := hrel
    by_cases hlt : i < x.toNat
    · obtain ⟨b2, off2, eA, _, _, hc⟩ := hD.atm (k := i) (by rw [HD.out]; exact hlt)
      obtain ⟨rfl, rfl⟩ : b1 = b2 ∧ off1 = off2 := by simpa using eA
      have hv := val_take (l := r.take x.toNat) (i := i) (by rw [HD.out]; exact hlt)
      have hb7 : val ((r.take x.toNat).take i) < 256 ^ 7 := Nat.lt_of_lt_of_le (val_lt _) (Nat.pow_le_pow_right (by decide) (by rw [List.length_take, HD.out]; omega))
      have hgd : (r.take x.toNat).getD i 0 = (r.take x.toNat)[i]'(by rw [HD.out]; exact hlt) := by rw [List.getD_eq_getElem?_getD, List.getElem?_eq_getElem (by rw [HD.out]; exact hlt)]; rfl
      rw [hgd] at hv
      generalize (r.take x.toNat)[i]'(by rw [HD.out]; exact hlt) = d at hc hv
      have HV := Lib.hid hv
      clear hv hgd
      unfold bv at hc
      generalize val ((r.take x.toNat).take i) = m at *
      have hor := or_byte (n := m) (d := d) hb7
      have hm56 : m < 72057594037927936 := hb7
      clear hb7
      have hd8 := d.toNat_lt
      go_wp2_with fail
      go_round
      case rel => exact ⟨i + 1, hlt, by go_num, by rw [HV.out]; go_num⟩
      case measure => simp [intOf]; omega
    · have e : i = x.toNat := by omega
      subst e
      rw [show ((r.take x.toNat).take x.toNat) = r.take x.toNat by rw [List.take_take]; simp]
      obtain ⟨A3, ca3, ha3⟩ := h3.at_
      have c13 := ha3.c1
      have hvl := val_lt64 (l := r.take x.toNat) (by rw [HD.out]; omega)
      by_cases hm : most < val (r.take x.toNat)
      · go_wp2_with fail
        refine (fail_any eb Z A3 ca3 [] 10 13 _ ha3).mono ?_
        rintro e w9 ⟨rfl, h9⟩
        replace h9 : EyeTo w3 107 eb Z [] 10 w9 := h9
        obtain ⟨A4, ca4, ha4⟩ := h9.at_
        have c14 := ha4.c1
        go_wp2_with fail
        go_ret
        rw [readS_zero hx hr HCL.out]
        exact ⟨rfl, h13.trans h9⟩
      · go_wp2_with fail
        go_ret
        rw [readS_zero hx hr HCL.out]
        exact ⟨rfl, h13⟩


theorem eyeNum_any (eb : Nat) (Z : Nat → Prop) (A : Option Addr) (c : Nat) (l : List UInt8) (f : Int) (most : Nat) (w : World) (h : EyeAt w 107 eb Z A c l f) (hz : ¬ Z eb) :
    Calls Tryz.prog 61 #[.pointer (some ⟨eb, 0, none⟩), .int .u64 most] w (NumTo w 107 eb Z (readS l f most)) := by
  by_cases hf : f = 0
  · subst hf
    rcases l with _ | ⟨x, r⟩
    · exact eyeNum_none eb Z A c most w h
    · by_cases hx : 8 < x.toNat
      · exact eyeNum_wide eb Z A c x r most w h hz hx
      · by_cases hr : r.length < x.toNat
        · exact eyeNum_short eb Z A c x r most w h hz hx hr
        · by_cases h0 : x.toNat = 0
          · exact eyeNum_ok0 eb Z A c x r most w h hz hx hr h0
          · by_cases hr0 : r.getD 0 0 = 0
            · exact eyeNum_zero eb Z A c x r most w h hz hx hr (by omega) hr0
            · exact eyeNum_ok1 eb Z A c x r most w h hz hx hr (by omega) hr0
  · exact eyeNum_bad eb Z A c l f most w h hf
end Go.Proofs.YtjcfphdjgagimaaGreatDoor

/- tenderref01.Eye.Read. -/
namespace Go.Proofs.YtjcfphdjgagimaaGreatDoor
open Go.RowKit

end Go.Proofs.YtjcfphdjgagimaaGreatDoor

/- grain.Eye: Open, Fault, Left, Close, Int, Truth; digits and their number. -/
namespace Go.Proofs.YtjcfphdjgagimaaGreatDoor
open Go.RowKit

set_option maxHeartbeats 400000 in
theorem open_any (A : Option Addr) (c n : Nat) (w : World) :
    Calls Tryz.prog 26 #[.slice A n c] w fun e w' => e = .returned (.pointer (some ⟨w.heap.size, 0, none⟩)) ∧ w.alloc (.cells #[.slice A n c, .int .i64 0] 107) = w' := by
  go_enter Tryz.func26, Tryz.ntmps26
  go_wp2_with fail
  go_ret
  exact ⟨rfl, rfl⟩
/-- a new eye -/
theorem EyeAt.new (w : World) {T : Nat} {Z : Nat → Prop} {A : Option Addr} {c : Nat} {l : List UInt8} (h : By w Z A l) (h1 : l.length ≤ c) (h2 : c ≤ maxLen) :
    EyeAt (w.alloc (.cells #[.slice A l.length c, .int .i64 0] T)) T w.heap.size Z A c l 0 := ⟨Blk.new _ _ _, h.alloc _, h1, h2⟩

set_option maxHeartbeats 400000 in
theorem fault_any (eb : Nat) (Z : Nat → Prop) (A : Option Addr) (c : Nat) (l : List UInt8) (f : Int) (w : World) (h : EyeAt w 107 eb Z A c l f) :
    Calls Tryz.prog 28 #[.pointer (some ⟨eb, 0, none⟩)] w fun e w' => e = .returned (.int .i64 f) ∧ w = w' := by
  have c1 := h.c1
  go_enter Tryz.func28, Tryz.ntmps28
  go_wp2_with fail
  go_ret
  exact ⟨rfl, rfl⟩

set_option maxHeartbeats 400000 in
theorem left_any (eb : Nat) (Z : Nat → Prop) (A : Option Addr) (c : Nat) (l : List UInt8) (f : Int) (w : World) (h : EyeAt w 107 eb Z A c l f) :
    Calls Tryz.prog 66 #[.pointer (some ⟨eb, 0, none⟩)] w fun e w' => e = .returned (.int .i64 (l.length : Int)) ∧ w = w' := by
  have c0 := h.c0
  go_enter Tryz.func66, Tryz.ntmps66
  go_wp2_with fail
  go_ret
  exact ⟨rfl, rfl⟩

/-- what Close tells -/
def closeS (l : List UInt8) (f : Int) : Int := if f ≠ 0 then f else if 0 < l.length then 12 else 0

set_option maxHeartbeats 400000 in
theorem close_any (eb : Nat) (Z : Nat → Prop) (A : Option Addr) (c : Nat) (l : List UInt8) (f : Int) (w : World) (h : EyeAt w 107 eb Z A c l f) :
    Calls Tryz.prog 33 #[.pointer (some ⟨eb, 0, none⟩)] w fun e w' => e = .returned (.int .i64 (closeS l f)) ∧ w = w' := by
  by_cases hf : f = 0
  · by_cases hl : 0 < l.length
    · have e1 := Lib.hid (show closeS l f = 12 by unfold closeS; rw [if_neg (by simpa using hf), if_pos hl])
      subst hf
      go_enter Tryz.func33, Tryz.ntmps33
      go_wp2_with (first | (go_at_call 28; refine (fault_any eb Z A c l 0 _ h).mono ?_; rintro e w' ⟨rfl, rfl⟩) | (go_at_call 66; refine (left_any eb Z A c l 0 _ h).mono ?_; rintro e w' ⟨rfl, rfl⟩))
      go_ret
      exact ⟨by rw [e1.out]; rfl, rfl⟩
    · have e1 := Lib.hid (show closeS l f = 0 by unfold closeS; rw [if_neg (by simpa using hf), if_neg hl])
      subst hf
      go_enter Tryz.func33, Tryz.ntmps33
      go_wp2_with (first | (go_at_call 28; refine (fault_any eb Z A c l 0 _ h).mono ?_; rintro e w' ⟨rfl, rfl⟩) | (go_at_call 66; refine (left_any eb Z A c l 0 _ h).mono ?_; rintro e w' ⟨rfl, rfl⟩))
      go_ret
      exact ⟨by rw [e1.out]; rfl, rfl⟩
  · have e1 := Lib.hid (show closeS l f = f by unfold closeS; rw [if_pos hf])
    have hfb : (f != 0) = true := by simpa using hf
    go_enter Tryz.func33, Tryz.ntmps33
    go_wp2_with (first | (go_at_call 28; refine (fault_any eb Z A c l f _ h).mono ?_; rintro e w' ⟨rfl, rfl⟩))
    go_ret
    exact ⟨by rw [e1.out]; rfl, rfl⟩

end Go.Proofs.YtjcfphdjgagimaaGreatDoor

/- grain.Eye and tenderref01.Eye: Int, Truth, Text; an eye that is none. -/
namespace Go.Proofs.YtjcfphdjgagimaaGreatDoor
open Go.RowKit

theorem readS_le (l : List UInt8) (f : Int) (most : Nat) : (readS l f most).1 ≤ most := by
  by_cases hf : f = 0
  · subst hf
    rcases l with _ | ⟨x, r⟩
    · rw [readS_nil]; exact Nat.zero_le _
    · by_cases h1 : 8 < x.toNat
      · rw [readS_wide h1]; exact Nat.zero_le _
      · by_cases h2 : r.length < x.toNat
        · rw [readS_short h1 h2]; exact Nat.zero_le _
        · by_cases h3 : 0 < x.toNat ∧ r.getD 0 0 = 0
          · rw [readS_zero h1 h2 h3]; exact Nat.zero_le _
          · by_cases h4 : most < val (r.take x.toNat)
            · rw [readS_long h1 h2 h3 h4]; exact Nat.zero_le _
            · rw [readS_ok h1 h2 h3 h4]; dsimp only; omega
  · rw [readS_bad hf]; exact Nat.zero_le _
theorem readS_len (l : List UInt8) (f : Int) (most : Nat) : (readS l f most).2.1.length ≤ l.length := by
  by_cases hf : f = 0
  · subst hf
    rcases l with _ | ⟨x, r⟩
    · rw [readS_nil]; exact Nat.zero_le _
    · by_cases h1 : 8 < x.toNat
      · rw [readS_wide h1]; exact Nat.zero_le _
      · by_cases h2 : r.length < x.toNat
        · rw [readS_short h1 h2]; exact Nat.zero_le _
        · by_cases h3 : 0 < x.toNat ∧ r.getD 0 0 = 0
          · rw [readS_zero h1 h2 h3]; exact Nat.zero_le _
          · by_cases h4 : most < val (r.take x.toNat)
            · rw [readS_long h1 h2 h3 h4]; exact Nat.zero_le _
            · rw [readS_ok h1 h2 h3 h4]; simp; omega
  · rw [readS_bad hf]; exact Nat.le_refl _
theorem failS_len (l : List UInt8) (f code : Int) : (failS l f code).1.length ≤ l.length := by unfold failS; split <;> simp

theorem clone_n (A : Option Addr) (c n : Nat) (l : List UInt8) (Z : Nat → Prop) (w : World) (h : Rd w Z 1 A n (l.map bv)) (hn : n = l.length) (hlen : l.length ≤ 140737488355328) :
    Calls Tryz.prog 60 #[.slice A n c] w fun e w' => ∃ (A' : Option Addr) (c' : Nat) (l' : List UInt8), e = .returned (.slice A' l'.length c') ∧ Hid (l' = l) ∧ OwB w' w.heap.size (.slice A' l'.length c') l' ∧ Below w.heap.size w w' := by
  subst hn
  exact clone_any A c l Z w h hlen

/-- an int is read -/
def intS (l : List UInt8) (f : Int) (most : Int) : Nat × List UInt8 × Int :=
  if 0 ≤ most then readS l f most.toNat else (0, failS (readS l f 0).2.1 (readS l f 0).2.2 13)
def IntTo (w : World) (T eb : Nat) (Z : Nat → Prop) (r : Nat × List UInt8 × Int) (e : Ending) (w' : World) : Prop := e = .returned (.int .i64 (r.1 : Int)) ∧ EyeTo w T eb Z r.2.1 r.2.2 w'
theorem intS_len (l : List UInt8) (f most : Int) : (intS l f most).2.1.length ≤ l.length := by
  unfold intS
  split
  · exact readS_len _ _ _
  · exact Nat.le_trans (failS_len _ _ _) (readS_len _ _ _)

set_option maxHeartbeats 400000 in
theorem int_any (eb : Nat) (Z : Nat → Prop) (A : Option Addr) (c : Nat) (l : List UInt8) (f most : Int) (w : World) (h : EyeAt w 107 eb Z A c l f) (hz : ¬ Z eb) (hm : most < 9223372036854775808) :
    Calls Tryz.prog 27 #[.pointer (some ⟨eb, 0, none⟩), .int .i64 most] w (IntTo w 107 eb Z (intS l f most)) := by
  by_cases h0 : 0 ≤ most
  · have e1 : intS l f most = readS l f most.toNat := by unfold intS; rw [if_pos h0]
    rw [e1]
    have hle := readS_le l f most.toNat
    have hn := eyeNum_any eb Z A c l f most.toNat w h hz
    rw [Int.toNat_of_nonneg h0] at hn
    have HN := Lib.hid hn
    clear hn e1
    generalize readS l f most.toNat = r at *
    obtain ⟨n, l', f'⟩ := r
    dsimp only at *
    go_enter Tryz.func27, Tryz.ntmps27
    go_wp2_with fail
    refine HN.out.mono ?_
    rintro e w1 ⟨rfl, h1⟩
    go_wp2_with fail
    go_ret
    exact ⟨rfl, h1⟩
  · have e1 : intS l f most = (0, failS (readS l f 0).2.1 (readS l f 0).2.2 13) := by unfold intS; rw [if_neg h0]
    rw [e1]
    have hn := eyeNum_any eb Z A c l f 0 w h hz
    have HN := Lib.hid hn
    clear hn e1
    generalize readS l f 0 = r at *
    obtain ⟨n, l', f'⟩ := r
    dsimp only at *
    go_enter Tryz.func27, Tryz.ntmps27
    go_wp2_with fail
    refine HN.out.mono ?_
    rintro e w1 ⟨rfl, h1⟩
    obtain ⟨A1, c1, ha1⟩ := h1.at_
    dsimp only at ha1
    go_wp2_with fail
    refine (fail_any eb Z A1 c1 l' f' 13 w1 ha1).mono ?_
    rintro e w2 ⟨rfl, h2⟩
    go_wp2_with fail
    go_ret
    exact ⟨rfl, h1.trans h2⟩

/-- a text is read -/
def textS (l : List UInt8) (f most : Int) : List UInt8 × List UInt8 × Int :=
  let r := intS l f most
  if r.2.2 ≠ 0 then ([], r.2.1, r.2.2) else if r.2.1.length < r.1 then ([], [], 11) else (r.2.1.take r.1, r.2.1.drop r.1, 0)

set_option maxHeartbeats 400000 in
theorem text_any (eb : Nat) (Z : Nat → Prop) (A : Option Addr) (c : Nat) (l : List UInt8) (f most : Int) (w : World) (h : EyeAt w 107 eb Z A c l f) (hz : ¬ Z eb) (hm : most < 9223372036854775808) (hl : l.length ≤ 140737488355328) :
    Calls Tryz.prog 29 #[.pointer (some ⟨eb, 0, none⟩), .int .i64 most] w fun e w' => ∃ (A' : Option Addr) (c' : Nat) (l' : List UInt8), e = .returned (.slice A' l'.length c') ∧ Hid (l' = (textS l f most).1) ∧ OwB w' w.heap.size (.slice A' l'.length c') l' ∧ EyeTo w 107 eb Z (textS l f most).2.1 (textS l f most).2.2 w' := by
  have hn := int_any eb Z A c l f most w h hz hm
  have HN := Lib.hid hn
  have hil := intS_len l f most
  clear hn
  unfold textS
  generalize intS l f most = r at *
  obtain ⟨n, l1, f1⟩ := r
  dsimp only at *
  by_cases hf : f1 = 0
  · subst hf
    by_cases hlt : l1.length < n
    · rw [if_neg (by simp), if_pos hlt]
      go_enter Tryz.func29, Tryz.ntmps29
      go_wp2_with fail
      refine HN.out.mono ?_
      rintro e w1 ⟨rfl, h1⟩
      obtain ⟨A1, c1, ha1⟩ := h1.at_
      have k1 := ha1.c1
      dsimp only at ha1 k1
      go_wp2_with fail
      refine (take_out eb Z A1 c1 l1 n w1 ha1 hlt).mono ?_
      rintro e w2 ⟨rfl, h2⟩
      go_wp2_with fail
      refine (clone_any none 0 [] (fun _ => True) w2 Rd.nil (by simp)).mono ?_
      rintro e w3 ⟨A3, c3, l3, rfl, hl3, ho3, hb3⟩
      go_wp2_with fail
      go_ret
      exact ⟨A3, c3, l3, rfl, hl3, own_base ho3 (fun g hg => Nat.le_trans (Nat.le_trans h1.fr.size h2.fr.size) (ho3.lt _ hg).1), (h1.trans h2).then_ hb3⟩
    · rw [if_neg (by simp), if_neg hlt]
      go_enter Tryz.func29, Tryz.ntmps29
      go_wp2_with fail
      refine HN.out.mono ?_
      rintro e w1 ⟨rfl, h1⟩
      obtain ⟨A1, c1, ha1⟩ := h1.at_
      have k1 := ha1.c1
      dsimp only at ha1 k1
      go_wp2_with fail
      refine (take_in eb Z A1 c1 l1 0 n w1 ha1 hz (by omega)).mono ?_
      rintro e w2 ⟨c2, rfl, hc2, hm2, h2⟩
      have hD : Rd w2 Z 1 A1 n ((l1.take n).map bv) := by
        have := (Rd.take ha1.2.1 (k := n) (by omega)).fr h2.fr (by rintro b _ hb rfl; exact hz hb)
        rw [Nat.mul_one, ← List.map_take] at this
        exact this
      have hDn : n = (l1.take n).length := by rw [List.length_take]; omega
      have HDn := Lib.hid hDn
      clear hDn
      go_wp2_with fail
      refine (clone_n A1 c2 n (l1.take n) _ w2 hD HDn.out (by rw [← HDn.out]; omega)).mono ?_
      rintro e w3 ⟨A3, c3, l3, rfl, hl3, ho3, hb3⟩
      go_wp2_with fail
      go_ret
      exact ⟨A3, c3, l3, rfl, hl3, own_base ho3 (fun g hg => Nat.le_trans (Nat.le_trans h1.fr.size h2.fr.size) (ho3.lt _ hg).1), (h1.trans h2).then_ hb3⟩
  · rw [if_pos hf]
    have hfb : (f1 != 0) = true := by simpa using hf
    go_enter Tryz.func29, Tryz.ntmps29
    go_wp2_with fail
    refine HN.out.mono ?_
    rintro e w1 ⟨rfl, h1⟩
    obtain ⟨A1, c1, ha1⟩ := h1.at_
    have k1 := ha1.c1
    dsimp only at ha1 k1
    go_wp2_with fail
    go_ret
    exact ⟨none, 0, [], rfl, rfl, OwB.nil _ _, h1⟩

end Go.Proofs.YtjcfphdjgagimaaGreatDoor

/- What was written is read as it was: the plain law. -/
namespace Go.Proofs.YtjcfphdjgagimaaGreatDoor
open Go.RowKit

theorem val_digs : ∀ (k n : Nat), k ≤ 8 → n < 256 ^ k → val (digs n) = n ∧ (0 < n → (digs n).getD 0 0 ≠ 0 ∧ 0 < (digs n).length)
  | 0, n, _, h => by
    have : n = 0 := by simpa using h
    subst this
    rw [digs_zero]
    exact ⟨rfl, fun h => absurd h (by omega)⟩
  | k + 1, n, hk, h => by
    rcases Nat.eq_zero_or_pos n with h0 | h0
    · subst h0
      rw [digs_zero]
      exact ⟨rfl, fun h => absurd h (by omega)⟩
    · have h64 : n < 18446744073709551616 := Nat.lt_of_lt_of_le h (pow_le8 hk)
      have h' : n / 256 < 256 ^ k := by
        rw [Nat.div_lt_iff_lt_mul (by omega)]
        rw [Nat.pow_succ] at h
        exact h
      obtain ⟨i1, i2⟩ := val_digs k (n / 256) (by omega) h'
      rw [digs_step h0 h64, val_snoc, i1, UInt8.toNat_ofNat', Nat.mod_mod]
      refine ⟨by omega, fun _ => ⟨?_, by simp⟩⟩
      rcases Nat.eq_zero_or_pos (n / 256) with h1 | h1
      · rw [h1, digs_zero]
        intro e
        have e2 : UInt8.ofNat (n % 256) = 0 := by simpa using e
        have e3 := congrArg UInt8.toNat e2
        rw [UInt8.toNat_ofNat', Nat.mod_mod] at e3
        have : (0 : UInt8).toNat = 0 := rfl
        omega
      · obtain ⟨j1, j2⟩ := i2 h1
        rw [List.getD_eq_getElem?_getD, List.getElem?_append_left j2, ← List.getD_eq_getElem?_getD]
        exact j1

theorem read_numB {n most : Nat} (t : List UInt8) (h : n < 18446744073709551616) (hm : n ≤ most) : readS (numB n ++ t) 0 most = (n, t, 0) := by
  obtain ⟨v1, v2⟩ := val_digs 8 n (by omega) h
  have h8 := digs_len n
  have hx : (UInt8.ofNat (digs n).length).toNat = (digs n).length := by rw [UInt8.toNat_ofNat', Nat.mod_eq_of_lt (by omega)]
  unfold numB
  rw [List.cons_append]
  have htk : (digs n ++ t).take (digs n).length = digs n := List.take_left
  have hdr : (digs n ++ t).drop (digs n).length = t := List.drop_left
  rw [readS_ok]
  · rw [hx, htk, hdr, v1]
  · rw [hx]; omega
  · rw [hx, List.length_append]; omega
  · rw [hx]
    rintro ⟨h1, h2⟩
    rw [List.getD_eq_getElem?_getD, List.getElem?_append_left h1, ← List.getD_eq_getElem?_getD] at h2
    have h0 : 0 < n := by
      rcases Nat.eq_zero_or_pos n with h0 | h0
      · subst h0; rw [digs_zero] at h1; simp at h1
      · exact h0
    exact (v2 h0).1 h2
  · rw [hx, htk, v1]; omega
theorem int_numB {n : Nat} {most : Int} (t : List UInt8) (h : n < 9223372036854775808) (hm : (n : Int) ≤ most) : intS (numB n ++ t) 0 most = (n, t, 0) := by
  unfold intS
  rw [if_pos (by omega), read_numB t (by omega) (by omega)]
theorem text_textB {l : List UInt8} {most : Int} (t : List UInt8) (h : l.length < 9223372036854775808) (hm : (l.length : Int) ≤ most) : textS (textB l ++ t) 0 most = (l, t, 0) := by
  unfold textS textB
  rw [List.append_assoc, int_numB _ h hm]
  simp
end Go.Proofs.YtjcfphdjgagimaaGreatDoor

/- []byte(s). -/
namespace Go.Proofs.YtjcfphdjgagimaaGreatDoor
open Go.RowKit

theorem conv_str (w : World) (l : List UInt8) (hl : l.length ≤ maxLen) : ∃ c W, (convert 9 29 (.string ⟨⟨l⟩⟩)).run Tryz.prog w = .ok (.slice (some ⟨w.heap.size, 0, none⟩) l.length c) W ∧ By W (fun b => b = w.heap.size) (some ⟨w.heap.size, 0, none⟩) l ∧ l.length ≤ c ∧ c ≤ maxLen ∧ Below w.heap.size w W ∧ W.heap.size = w.heap.size + 1 := by
  refine ⟨_, _, Lib.run_convert_string_bytes w _ _ 5 ⟨⟨l⟩⟩ Tryz.underlying9 Tryz.underlying29 Tryz.underlying5, ?_, grownCap_ge _ _ _ _, grownCap_le_maxLen _ _ _ _ hl, ?_, Lib.bytesWorld_size _ _ _⟩
  · refine ⟨by simp, fun h => ⟨w.heap.size, 0, rfl, rfl, by rw [Lib.bytesWorld_size]; omega, fun j u hj => ?_⟩⟩
    have hjl : j < l.length := by
      by_cases h2 : j < l.length
      · exact h2
      · rw [List.getElem?_eq_none (by simpa using h2)] at hj; cases hj
    rw [Nat.zero_add, Lib.bytesWorld_cell w 5 ⟨⟨l⟩⟩ j hjl]
    simp [hjl, List.getD] at hj ⊢
    exact hj
  · exact ⟨rfl, rfl, rfl, by rw [Lib.bytesWorld_size]; omega, fun k hk => Lib.bytesWorld_at_old _ _ _ _ hk⟩
end Go.Proofs.YtjcfphdjgagimaaGreatDoor

/- Two eyes on the same bytes: grain's and the document's. -/
namespace Go.Proofs.YtjcfphdjgagimaaGreatDoor
open Go.RowKit

theorem EyeAt.mono {w : World} {T eb : Nat} {Z Z' : Nat → Prop} {A : Option Addr} {c : Nat} {l : List UInt8} {f : Int} (h : EyeAt w T eb Z A c l f) (hz : ∀ b, b < w.heap.size → Z b → Z' b) : EyeAt w T eb Z' A c l f := ⟨h.1, h.2.1.mono hz, h.2.2⟩
theorem EyeTo.mono {w w' : World} {T eb : Nat} {Z Z' : Nat → Prop} {l : List UInt8} {f : Int} (h : EyeTo w T eb Z l f w') (hz : ∀ b, Z b → Z' b) : EyeTo w T eb Z' l f w' := by
  obtain ⟨A, c, ha⟩ := h.at_
  exact ⟨⟨A, c, ha.mono (fun b _ hb => hz b hb)⟩, h.fr⟩
/-- a store into a new block beside an eye -/
theorem EyeTo.side {a b c : World} {T eb bx : Nat} {Z : Nat → Prop} {l : List UInt8} {f : Int} (h : EyeTo a T eb Z l f b) (k : Fr (fun x => x = bx) b c) (hb : a.heap.size ≤ bx) (h1 : bx ≠ eb) (hz : ∀ x, Z x → x ≠ bx) : EyeTo a T eb Z l f c := by
  obtain ⟨A, c', ha⟩ := h.at_
  exact ⟨⟨A, c', ha.fr k (fun e => h1 e.symm) (fun x _ hx => hz x hx)⟩, h.fr.trans k (fun x hx e => by omega)⟩
/-- new memory ahead of an eye's method -/
theorem EyeTo.after {a b c : World} {T eb : Nat} {Z : Nat → Prop} {l : List UInt8} {f : Int} (k : Below a.heap.size a b) (h : EyeTo b T eb Z l f c) : EyeTo a T eb Z l f c :=
  ⟨h.at_, (Fr.of_below k _).trans h.fr (fun _ _ h => h)⟩
end Go.Proofs.YtjcfphdjgagimaaGreatDoor

/- leaf.Read, tenderref07.Read, tenderref07.Bytes. -/
namespace Go.Proofs.YtjcfphdjgagimaaGreatDoor
open Go.RowKit

/-- a leaf is read: its kind, its bytes, what is left, the fault -/
def leafS (l : List UInt8) (f : Int) : Nat × List UInt8 × List UInt8 × Int :=
  let r := intS l f 2
  let s := if r.1 = 1 then textS r.2.1 r.2.2 4096 else ([], r.2.1, r.2.2)
  if s.2.2 ≠ 0 then (0, [], s.2.1, s.2.2) else (r.1, s.1, s.2.1, s.2.2)
set_option maxHeartbeats 1000000 in
theorem leafRead_any (eb : Nat) (Z : Nat → Prop) (A : Option Addr) (c : Nat) (l : List UInt8) (f : Int) (w : World) (h : EyeAt w 107 eb Z A c l f) (hz : ¬ Z eb) (hl : l.length ≤ 140737488355328) :
    Calls Tryz.prog 30 #[.pointer (some ⟨eb, 0, none⟩)] w fun e w' => ∃ (A' : Option Addr) (c' : Nat) (l' : List UInt8), e = .returned (.agg #[.int .i64 ((leafS l f).1 : Int), .slice A' l'.length c']) ∧ Hid (l' = (leafS l f).2.1) ∧ OwB w' w.heap.size (.slice A' l'.length c') l' ∧ EyeTo w 107 eb Z (leafS l f).2.2.1 (leafS l f).2.2.2 w' := by
  have hzz : ∀ x, (fun b => Z b ∧ b < w.heap.size) x → Z x := fun x h => h.1
  have hzw : ∀ x, (fun b => Z b ∧ b < w.heap.size) x → x ≠ w.heap.size := fun x h e => by have := h.2; omega
  have hz : ¬ (fun b => Z b ∧ b < w.heap.size) eb := fun h => hz h.1
  replace h := h.mono (Z' := fun b => Z b ∧ b < w.heap.size) (fun b h1 h2 => ⟨h2, h1⟩)
  suffices hs : Calls Tryz.prog 30 #[.pointer (some ⟨eb, 0, none⟩)] w fun e w' => ∃ (A' : Option Addr) (c' : Nat) (l' : List UInt8), e = .returned (.agg #[.int .i64 ((leafS l f).1 : Int), .slice A' l'.length c']) ∧ Hid (l' = (leafS l f).2.1) ∧ OwB w' w.heap.size (.slice A' l'.length c') l' ∧ EyeTo w 107 eb (fun b => Z b ∧ b < w.heap.size) (leafS l f).2.2.1 (leafS l f).2.2.2 w' by
    refine hs.mono ?_
    rintro e w' ⟨A', c', l', h1, h2, h3, h4⟩
    exact ⟨A', c', l', h1, h2, h3, h4.mono hzz⟩
  clear hzz
  generalize hZ' : (fun b => Z b ∧ b < w.heap.size) = Y at *
  clear hZ'
  have hn := fun w (h : EyeAt w 107 eb Y A c l f) => int_any eb Y A c l f 2 w h hz (by omega)
  have HN := Lib.hid hn
  have hil := intS_len l f 2
  clear hn
  unfold leafS
  generalize intS l f 2 = r at *
  obtain ⟨n, l1, f1⟩ := r
  dsimp only at *
  have hlt := h.1.lt
  by_cases hn1 : n = 1
  · rw [if_pos hn1]
    subst hn1
    have htx := fun w A2 c2 h => text_any eb Y A2 c2 l1 f1 4096 w h hz (by omega) (by omega)
    have HTX := Lib.hid htx
    clear htx
    generalize textS l1 f1 4096 = r at *
    obtain ⟨t, l2, f2⟩ := r
    dsimp only at *
    by_cases hf : f2 = 0
    · subst hf
      rw [if_neg (by simp)]
      go_enter Tryz.func30, Tryz.ntmps30
      go_wp2_with fail
      have bx0 := Blk.new w 46 #[.int .i64 0, .slice none 0 0]
      have hlow0 : Below w.heap.size w (w.alloc (.cells #[.int .i64 0, .slice none 0 0] 46)) := (Below.refl _ _).alloc (Nat.le_refl _) _
      refine (HN.out _ (h.below hlow0)).mono ?_
      rintro e w1 ⟨rfl, h1⟩
      dsimp only at h1
      have hs1 := h1.fr.size
      simp at hs1
      have bx1 : Blk w1 w.heap.size 46 #[.int .i64 0, .slice none 0 0] := bx0.fr h1.fr (by omega)
      have ht1 := EyeTo.after hlow0 h1
      have bx2 : Blk (w1.setCell ⟨w.heap.size, 0, none⟩ (.int .i64 1)) w.heap.size 46 #[.int .i64 1, .slice none 0 0] := by simpa using bx1.set_ 0 (.int .i64 1)
      have hf2 : Fr (fun x => x = w.heap.size) w1 (w1.setCell ⟨w.heap.size, 0, none⟩ (.int .i64 1)) := (Fr.refl (fun x => x = w.heap.size) w1).setAt w.heap.size 0 rfl _
      have ht2 := ht1.side hf2 (Nat.le_refl _) (by omega) hzw
      have hs2 := hf2.size
      have q0 := bx1.cell 0
      have q1 := bx1.frozen 0
      have r0 : (w1.setCell ⟨w.heap.size, 0, none⟩ (.int .i64 1)).cell? ⟨w.heap.size, 0, none⟩ = some (.int .i64 1) := bx2.cell 0
      obtain ⟨A2, c2, ha2⟩ := ht2.at_
      clear h1 ht1 hf2 bx0 hlow0 HN
      go_wp2_with fail
      clear r0 q0 q1 bx1
      generalize w1.setCell ⟨w.heap.size, 0, none⟩ (.int .i64 1) = W1 at *
      refine (HTX.out W1 A2 c2 ha2).mono ?_
      rintro e w3 ⟨A4, c4, l4, rfl, hl4, ho4, ht4⟩
      have ht3 := ht2.trans ht4
      have bx3 : Blk w3 w.heap.size 46 #[.int .i64 1, .slice none 0 0] := bx2.fr ht4.fr (by omega)
      have bxW : Blk (w3.setCell ⟨w.heap.size, 1, none⟩ (.slice A4 l4.length c4)) w.heap.size 46 #[.int .i64 1, .slice A4 l4.length c4] := by simpa using bx3.set_ 1 (.slice A4 l4.length c4)
      have hfW : Fr (fun x => x = w.heap.size) w3 (w3.setCell ⟨w.heap.size, 1, none⟩ (.slice A4 l4.length c4)) := (Fr.refl (fun x => x = w.heap.size) w3).setAt w.heap.size 1 rfl _
      have hsW := bx2.lt
      have ht := ht3.side hfW (Nat.le_refl _) (by omega) hzw
      have ho : OwB (w3.setCell ⟨w.heap.size, 1, none⟩ (.slice A4 l4.length c4)) w.heap.size (.slice A4 l4.length c4) l4 := own_base (ho4.fr hfW (fun g hg e => by have := (ho4.lt g hg).1; omega)) (fun g hg => by have := (ho4.lt g hg).1; omega)
      have q0 := bx3.cell 1
      have q1 := bx3.frozen 1
      obtain ⟨A3, c3, ha3⟩ := ht.at_
      go_wp2_with fail
      clear q0 q1 bx3
      generalize w3.setCell ⟨w.heap.size, 1, none⟩ (.slice A4 l4.length c4) = W at *
      refine (fault_any eb Y A3 c3 l2 0 _ ha3).mono ?_
      rintro e w4 ⟨rfl, rfl⟩
      have d0 : W.cell? ⟨w.heap.size, 0, none⟩ = some (.int .i64 1) := bxW.cell 0
      have d1 : W.cell? ⟨w.heap.size, 1, none⟩ = some (.slice A4 l4.length c4) := bxW.cell 1
      have g0 := bxW.frozen 0
      have g1 := bxW.frozen 1
      go_wp2_with fail
      obtain ⟨bxV, hfV⟩ := Blk.two (x' := .int .i64 1) (y' := .slice A4 l4.length c4) bxW
      have htV := ht.side hfV (Nat.le_refl _) (by omega) hzw
      have hoV := ho.past bxW (by decide) hfV
      generalize (W.setCell ⟨w.heap.size, 0, none⟩ (.int .i64 1)).setCell ⟨w.heap.size, 1, none⟩ (.slice A4 l4.length c4) = V at *
      have x0 : V.cell? ⟨w.heap.size, 0, none⟩ = some (.int .i64 1) := bxV.cell 0
      have x1 : V.cell? ⟨w.heap.size, 1, none⟩ = some (.slice A4 l4.length c4) := bxV.cell 1
      refine bodyPost_ret (v := .agg #[.int .i64 1, .slice A4 l4.length c4]) (by simp [results, Tryz.results30, go_sem, x0, x1]) rfl ?_
      exact ⟨A4, c4, l4, rfl, hl4, hoV, htV⟩
    · rw [if_pos hf]
      have hfb : (f2 != 0) = true := by simpa using hf
      go_enter Tryz.func30, Tryz.ntmps30
      go_wp2_with fail
      have bx0 := Blk.new w 46 #[.int .i64 0, .slice none 0 0]
      have hlow0 : Below w.heap.size w (w.alloc (.cells #[.int .i64 0, .slice none 0 0] 46)) := (Below.refl _ _).alloc (Nat.le_refl _) _
      refine (HN.out _ (h.below hlow0)).mono ?_
      rintro e w1 ⟨rfl, h1⟩
      dsimp only at h1
      have hs1 := h1.fr.size
      simp at hs1
      have bx1 : Blk w1 w.heap.size 46 #[.int .i64 0, .slice none 0 0] := bx0.fr h1.fr (by omega)
      have ht1 := EyeTo.after hlow0 h1
      have bx2 : Blk (w1.setCell ⟨w.heap.size, 0, none⟩ (.int .i64 1)) w.heap.size 46 #[.int .i64 1, .slice none 0 0] := by simpa using bx1.set_ 0 (.int .i64 1)
      have hf2 : Fr (fun x => x = w.heap.size) w1 (w1.setCell ⟨w.heap.size, 0, none⟩ (.int .i64 1)) := (Fr.refl (fun x => x = w.heap.size) w1).setAt w.heap.size 0 rfl _
      have ht2 := ht1.side hf2 (Nat.le_refl _) (by omega) hzw
      have hs2 := hf2.size
      have q0 := bx1.cell 0
      have q1 := bx1.frozen 0
      have r0 : (w1.setCell ⟨w.heap.size, 0, none⟩ (.int .i64 1)).cell? ⟨w.heap.size, 0, none⟩ = some (.int .i64 1) := bx2.cell 0
      obtain ⟨A2, c2, ha2⟩ := ht2.at_
      clear h1 ht1 hf2 bx0 hlow0 HN
      go_wp2_with fail
      clear r0 q0 q1 bx1
      generalize w1.setCell ⟨w.heap.size, 0, none⟩ (.int .i64 1) = W1 at *
      refine (HTX.out W1 A2 c2 ha2).mono ?_
      rintro e w3 ⟨A4, c4, l4, rfl, hl4, ho4, ht4⟩
      have ht3 := ht2.trans ht4
      have bx3 : Blk w3 w.heap.size 46 #[.int .i64 1, .slice none 0 0] := bx2.fr ht4.fr (by omega)
      have bxW : Blk (w3.setCell ⟨w.heap.size, 1, none⟩ (.slice A4 l4.length c4)) w.heap.size 46 #[.int .i64 1, .slice A4 l4.length c4] := by simpa using bx3.set_ 1 (.slice A4 l4.length c4)
      have hfW : Fr (fun x => x = w.heap.size) w3 (w3.setCell ⟨w.heap.size, 1, none⟩ (.slice A4 l4.length c4)) := (Fr.refl (fun x => x = w.heap.size) w3).setAt w.heap.size 1 rfl _
      have hsW := bx2.lt
      have ht := ht3.side hfW (Nat.le_refl _) (by omega) hzw
      have ho : OwB (w3.setCell ⟨w.heap.size, 1, none⟩ (.slice A4 l4.length c4)) w.heap.size (.slice A4 l4.length c4) l4 := own_base (ho4.fr hfW (fun g hg e => by have := (ho4.lt g hg).1; omega)) (fun g hg => by have := (ho4.lt g hg).1; omega)
      have q0 := bx3.cell 1
      have q1 := bx3.frozen 1
      obtain ⟨A3, c3, ha3⟩ := ht.at_
      go_wp2_with fail
      clear q0 q1 bx3
      generalize w3.setCell ⟨w.heap.size, 1, none⟩ (.slice A4 l4.length c4) = W at *
      refine (fault_any eb Y A3 c3 l2 f2 _ ha3).mono ?_
      rintro e w4 ⟨rfl, rfl⟩
      have d0 := bxW.cell 0
      have d1 := bxW.cell 1
      have g0 := bxW.frozen 0
      have g1 := bxW.frozen 1
      go_wp2_with fail
      obtain ⟨bxV, hfV⟩ := Blk.two (x' := .int .i64 0) (y' := .slice none 0 0) bxW
      have htV := ht.side hfV (Nat.le_refl _) (by omega) hzw
      generalize (W.setCell ⟨w.heap.size, 0, none⟩ (.int .i64 0)).setCell ⟨w.heap.size, 1, none⟩ (.slice none 0 0) = V at *
      have x0 : V.cell? ⟨w.heap.size, 0, none⟩ = some (.int .i64 0) := bxV.cell 0
      have x1 : V.cell? ⟨w.heap.size, 1, none⟩ = some (.slice none 0 0) := bxV.cell 1
      refine bodyPost_ret (v := .agg #[.int .i64 0, .slice none 0 0]) (by simp [results, Tryz.results30, go_sem, x0, x1]) rfl ?_
      exact ⟨none, 0, [], rfl, rfl, OwB.nil _ _, htV⟩
  · rw [if_neg hn1]
    have hn1b : ((n : Int) == 1) = false := by rw [beq_eq_false_iff_ne]; omega
    dsimp only
    by_cases hf : f1 = 0
    · subst hf
      rw [if_neg (by simp)]
      go_enter Tryz.func30, Tryz.ntmps30
      go_wp2_with fail
      have bx0 := Blk.new w 46 #[.int .i64 0, .slice none 0 0]
      have hlow0 : Below w.heap.size w (w.alloc (.cells #[.int .i64 0, .slice none 0 0] 46)) := (Below.refl _ _).alloc (Nat.le_refl _) _
      refine (HN.out _ (h.below hlow0)).mono ?_
      rintro e w1 ⟨rfl, h1⟩
      dsimp only at h1
      have hs1 := h1.fr.size
      simp at hs1
      have bx1 : Blk w1 w.heap.size 46 #[.int .i64 0, .slice none 0 0] := bx0.fr h1.fr (by omega)
      have ht1 := EyeTo.after hlow0 h1
      have bx2 : Blk (w1.setCell ⟨w.heap.size, 0, none⟩ (.int .i64 n)) w.heap.size 46 #[.int .i64 n, .slice none 0 0] := by simpa using bx1.set_ 0 (.int .i64 n)
      have hf2 : Fr (fun x => x = w.heap.size) w1 (w1.setCell ⟨w.heap.size, 0, none⟩ (.int .i64 n)) := (Fr.refl (fun x => x = w.heap.size) w1).setAt w.heap.size 0 rfl _
      have ht2 := ht1.side hf2 (Nat.le_refl _) (by omega) hzw
      have hs2 := hf2.size
      have q0 := bx1.cell 0
      have q1 := bx1.frozen 0
      have r0 : (w1.setCell ⟨w.heap.size, 0, none⟩ (.int .i64 n)).cell? ⟨w.heap.size, 0, none⟩ = some (.int .i64 n) := bx2.cell 0
      obtain ⟨A2, c2, ha2⟩ := ht2.at_
      clear h1 ht1 hf2 bx0 hlow0 HN
      go_wp2_with fail
      clear r0 q0 q1 bx1
      generalize w1.setCell ⟨w.heap.size, 0, none⟩ (.int .i64 n) = W at *
      have bxW := bx2
      have ht := ht2
      refine (fault_any eb Y A2 c2 l1 0 _ ha2).mono ?_
      rintro e w4 ⟨rfl, rfl⟩
      have d0 : W.cell? ⟨w.heap.size, 0, none⟩ = some (.int .i64 n) := bxW.cell 0
      have d1 : W.cell? ⟨w.heap.size, 1, none⟩ = some (.slice none 0 0) := bxW.cell 1
      have g0 := bxW.frozen 0
      have g1 := bxW.frozen 1
      go_wp2_with fail
      obtain ⟨bxV, hfV⟩ := Blk.two (x' := .int .i64 n) (y' := .slice none 0 0) bxW
      have htV := ht.side hfV (Nat.le_refl _) (by omega) hzw
      generalize (W.setCell ⟨w.heap.size, 0, none⟩ (.int .i64 n)).setCell ⟨w.heap.size, 1, none⟩ (.slice none 0 0) = V at *
      have x0 : V.cell? ⟨w.heap.size, 0, none⟩ = some (.int .i64 n) := bxV.cell 0
      have x1 : V.cell? ⟨w.heap.size, 1, none⟩ = some (.slice none 0 0) := bxV.cell 1
      refine bodyPost_ret (v := .agg #[.int .i64 n, .slice none 0 0]) (by simp [results, Tryz.results30, go_sem, x0, x1]) rfl ?_
      exact ⟨none, 0, [], rfl, rfl, OwB.nil _ _, htV⟩
    · rw [if_pos hf]
      have hfb : (f1 != 0) = true := by simpa using hf
      go_enter Tryz.func30, Tryz.ntmps30
      go_wp2_with fail
      have bx0 := Blk.new w 46 #[.int .i64 0, .slice none 0 0]
      have hlow0 : Below w.heap.size w (w.alloc (.cells #[.int .i64 0, .slice none 0 0] 46)) := (Below.refl _ _).alloc (Nat.le_refl _) _
      refine (HN.out _ (h.below hlow0)).mono ?_
      rintro e w1 ⟨rfl, h1⟩
      dsimp only at h1
      have hs1 := h1.fr.size
      simp at hs1
      have bx1 : Blk w1 w.heap.size 46 #[.int .i64 0, .slice none 0 0] := bx0.fr h1.fr (by omega)
      have ht1 := EyeTo.after hlow0 h1
      have bx2 : Blk (w1.setCell ⟨w.heap.size, 0, none⟩ (.int .i64 n)) w.heap.size 46 #[.int .i64 n, .slice none 0 0] := by simpa using bx1.set_ 0 (.int .i64 n)
      have hf2 : Fr (fun x => x = w.heap.size) w1 (w1.setCell ⟨w.heap.size, 0, none⟩ (.int .i64 n)) := (Fr.refl (fun x => x = w.heap.size) w1).setAt w.heap.size 0 rfl _
      have ht2 := ht1.side hf2 (Nat.le_refl _) (by omega) hzw
      have hs2 := hf2.size
      have q0 := bx1.cell 0
      have q1 := bx1.frozen 0
      have r0 : (w1.setCell ⟨w.heap.size, 0, none⟩ (.int .i64 n)).cell? ⟨w.heap.size, 0, none⟩ = some (.int .i64 n) := bx2.cell 0
      obtain ⟨A2, c2, ha2⟩ := ht2.at_
      clear h1 ht1 hf2 bx0 hlow0 HN
      go_wp2_with fail
      clear r0 q0 q1 bx1
      generalize w1.setCell ⟨w.heap.size, 0, none⟩ (.int .i64 n) = W at *
      have bxW := bx2
      have ht := ht2
      refine (fault_any eb Y A2 c2 l1 f1 _ ha2).mono ?_
      rintro e w4 ⟨rfl, rfl⟩
      have d0 := bxW.cell 0
      have d1 := bxW.cell 1
      have g0 := bxW.frozen 0
      have g1 := bxW.frozen 1
      go_wp2_with fail
      obtain ⟨bxV, hfV⟩ := Blk.two (x' := .int .i64 0) (y' := .slice none 0 0) bxW
      have htV := ht.side hfV (Nat.le_refl _) (by omega) hzw
      generalize (W.setCell ⟨w.heap.size, 0, none⟩ (.int .i64 0)).setCell ⟨w.heap.size, 1, none⟩ (.slice none 0 0) = V at *
      have x0 : V.cell? ⟨w.heap.size, 0, none⟩ = some (.int .i64 0) := bxV.cell 0
      have x1 : V.cell? ⟨w.heap.size, 1, none⟩ = some (.slice none 0 0) := bxV.cell 1
      refine bodyPost_ret (v := .agg #[.int .i64 0, .slice none 0 0]) (by simp [results, Tryz.results30, go_sem, x0, x1]) rfl ?_
      exact ⟨none, 0, [], rfl, rfl, OwB.nil _ _, htV⟩
end Go.Proofs.YtjcfphdjgagimaaGreatDoor

/- tenderref07.Read, Bytes. -/
namespace Go.Proofs.YtjcfphdjgagimaaGreatDoor
open Go.RowKit

end Go.Proofs.YtjcfphdjgagimaaGreatDoor

/- tenderref07.Bytes. -/
namespace Go.Proofs.YtjcfphdjgagimaaGreatDoor
open Go.RowKit

set_option maxHeartbeats 1000000 in
theorem leafBytes_any (k : Int) (A : Option Addr) (c : Nat) (l : List UInt8) (Z : Nat → Prop) (w : World) (h : By w Z A l) (hl : l.length ≤ 140737488355328) (hk : -9223372036854775808 ≤ k ∧ k < 9223372036854775808) :
    Calls Tryz.prog 36 #[.agg #[.int .i64 k, .slice A l.length c]] w fun e w' => ∃ (A' : Option Addr) (c' : Nat) (l' : List UInt8), e = .returned (.slice A' l'.length c') ∧ Hid (l' = leafB k l) ∧ OwB w' w.heap.size (.slice A' l'.length c') l' ∧ Below w.heap.size w w' := by
  have b0 := Blk.new w 46 #[.int .i64 k, .slice A l.length c]
  have hlow0 : Below w.heap.size w (w.alloc (.cells #[.int .i64 k, .slice A l.length c] 46)) := (Below.refl _ _).alloc (Nat.le_refl _) _
  have hy := h.below hlow0
  by_cases hck : checkN k l.length = 0
  · obtain ⟨hk3, hn0, hl4⟩ := checkN_ok hck
    by_cases hk1 : k = 1
    · rw [leafB_file hck hk1]
      subst hk1
      have htxt : ∀ w (h : By w Z A l), Calls Tryz.prog 35 #[.slice A l.length c] w fun e w' => ∃ v, e = .returned v ∧ OwB w' w.heap.size v (textB l) ∧ Below w.heap.size w w' := fun w h => refText_any A c l Z w h (by omega)
      have HTXT := Lib.hid htxt
      have hol := numB_len l.length
      have htl : (textB l).length ≤ 9 + l.length := by unfold textB; rw [List.length_append]; omega
      clear htxt hol
      generalize textB l = T at *
      have hnum : ∀ w : World, Calls Tryz.prog 34 #[.int .u64 1] w fun e w' => ∃ v, e = .returned v ∧ OwB w' w.heap.size v (numB 1) ∧ Below w.heap.size w w' := fun w => refNum_any 1 w (by omega)
      have HNUM := Lib.hid hnum
      have hnl := numB_len 1
      clear hnum
      generalize numB 1 = N at *
      go_enter Tryz.func36, Tryz.ntmps36
      go_wp2_with fail
      refine (leafCheckR_any 1 A l.length c _ hl).mono ?_
      rintro e w1 ⟨rfl, hb1⟩
      have b1 := b0.below hb1
      have hy1 := hy.below hb1
      have hs1 := hb1.size
      have hw1 : Below w.heap.size w w1 := hlow0.trans (hb1.mono (by simp))
      have hsw := hw1.size
      have q0 : w1.cell? ⟨w.heap.size, 0, none⟩ = some (.int .i64 1) := b1.cell 0
      simp at hs1
      clear b0 hb1 hy hlow0 h
      rw [hck]
      go_wp2_with fail
      refine (HNUM.out _).mono ?_
      rintro e w2 ⟨v2, rfl, ho2, hb2⟩
      obtain ⟨A2, c2, rfl, _⟩ := ho2.form
      have b2 := b1.below hb2
      have hy2 := hy1.below hb2
      have r0 : w2.cell? ⟨w.heap.size, 0, none⟩ = some (.int .i64 1) := b2.cell 0
      have r1 : w2.cell? ⟨w.heap.size, 1, none⟩ = some (.slice A l.length c) := b2.cell 1
      go_wp2_with fail
      refine (HTXT.out w2 hy2).mono ?_
      rintro e w3 ⟨v3, rfl, ho3, hb3⟩
      have h23 := ho2.below hb3
      obtain ⟨A3, c3, rfl, _⟩ := ho3.form
      have hs2 := hb2.size
      have hs3 := hb3.size
      go_wp2_with (at_builtin; refine wpList_append_by rfl (.tmp 15) (.tmp 18) rfl (v := .slice A2 N.length c2) rfl h23 rfl ho3.rd (by omega) (by omega) ?_; intro L4 A4 c4 w4 hL4 hown hg hat)
      go_ret
      refine ⟨A4, c4, L4, rfl, hL4, own_base hown (fun g hg2 => Nat.le_trans hsw (hown.lt g hg2).1), ?_⟩
      exact (hw1.trans (hb2.mono hsw)).trans ((hb3.mono (by omega)).trans ((Fr.of_grown hg (S := fun x => w1.heap.size ≤ x) (fun k _ e => (h23.lt k e).1)).below (by omega) (fun k hk e => by omega)))
    · rw [leafB_other hck hk1]
      have hk1b : (k == 1) = false := by simpa using hk1
      obtain ⟨n, rfl⟩ : ∃ n : Nat, k = n := ⟨k.toNat, by omega⟩
      rw [Int.toNat_natCast]
      clear hn0
      have hnum : ∀ w : World, Calls Tryz.prog 34 #[.int .u64 (n : Int)] w fun e w' => ∃ v, e = .returned v ∧ OwB w' w.heap.size v (numB n) ∧ Below w.heap.size w w' := fun w => refNum_any n w (by omega)
      have HNUM := Lib.hid hnum
      have hnl := numB_len n
      clear hnum
      generalize numB n = N at *
      go_enter Tryz.func36, Tryz.ntmps36
      go_wp2_with fail
      refine (leafCheckR_any n A l.length c _ hl).mono ?_
      rintro e w1 ⟨rfl, hb1⟩
      have b1 := b0.below hb1
      have hy1 := hy.below hb1
      have hs1 := hb1.size
      have hw1 : Below w.heap.size w w1 := hlow0.trans (hb1.mono (by simp))
      have hsw := hw1.size
      have q0 : w1.cell? ⟨w.heap.size, 0, none⟩ = some (.int .i64 n) := b1.cell 0
      simp at hs1
      clear b0 hb1 hy hlow0 h
      rw [hck]
      go_wp2_with fail
      refine (HNUM.out _).mono ?_
      rintro e w2 ⟨v2, rfl, ho2, hb2⟩
      obtain ⟨A2, c2, rfl, _⟩ := ho2.form
      have b2 := b1.below hb2
      have r0 : w2.cell? ⟨w.heap.size, 0, none⟩ = some (.int .i64 n) := b2.cell 0
      go_wp2_with fail
      go_ret
      exact ⟨A2, c2, N, rfl, rfl, own_base ho2 (fun g hg => Nat.le_trans hsw (ho2.lt g hg).1), hw1.trans (hb2.mono hsw)⟩
  · rw [leafB_bad hck]
    have hnum : ∀ w : World, Calls Tryz.prog 34 #[.int .u64 0] w fun e w' => ∃ v, e = .returned v ∧ OwB w' w.heap.size v (numB 0) ∧ Below w.heap.size w w' := fun w => refNum_any 0 w (by omega)
    have HNUM := Lib.hid hnum
    have hnl := numB_len 0
    clear hnum
    generalize numB 0 = N at *
    go_enter Tryz.func36, Tryz.ntmps36
    go_wp2_with fail
    refine (leafCheckR_any k A l.length c _ hl).mono ?_
    rintro e w1 ⟨rfl, hb1⟩
    have b1 := b0.below hb1
    have hy1 := hy.below hb1
    have hs1 := hb1.size
    have hw1 : Below w.heap.size w w1 := hlow0.trans (hb1.mono (by simp))
    have hsw := hw1.size
    have q0 : w1.cell? ⟨w.heap.size, 0, none⟩ = some (.int .i64 k) := b1.cell 0
    simp at hs1
    clear b0 hb1 hy hlow0 h
    have hckb : (checkN k l.length != 0) = true := by simpa using hck
    go_wp2_with fail
    refine (HNUM.out _).mono ?_
    rintro e w2 ⟨v2, rfl, ho2, hb2⟩
    obtain ⟨A2, c2, rfl, _⟩ := ho2.form
    go_wp2_with fail
    go_ret
    exact ⟨A2, c2, N, rfl, rfl, own_base ho2 (fun g hg => Nat.le_trans hsw (ho2.lt g hg).1), hw1.trans (hb2.mono hsw)⟩
end Go.Proofs.YtjcfphdjgagimaaGreatDoor

/- canon.Bytes: a tree's bytes. -/
namespace Go.Proofs.YtjcfphdjgagimaaGreatDoor
open Go.RowKit Go.Maps

theorem checkN_small {k : Int} {n : Nat} (h : checkN k n = 0) : n ≤ 4096 := by
  have := checkN_ok h
  omega
/-- the bytes of items -/
def itemsB (T : List (List UInt8 × LP)) : List UInt8 := T.flatMap fun y => textB y.1 ++ leafB y.2.1 y.2.2
/-- a tree's bytes -/
def canonB (T : List (List UInt8 × LP)) : List UInt8 := numB T.length ++ itemsB T
theorem itemsB_snoc (M : List (List UInt8 × LV)) (i : Nat) (hi : i < M.length) : itemsB (plainL (M.take (i + 1))) = itemsB (plainL (M.take i)) ++ (textB M[i].1 ++ leafB M[i].2.k M[i].2.x.l) := by
  rw [List.take_succ_eq_append_getElem hi]
  unfold itemsB plainL
  rw [List.map_append, List.flatMap_append]
  simp [LV.p]
theorem itemsB_len (T : List (List UInt8 × LP)) (h : ∀ x ∈ T, goodB x.1 = true ∧ checkN x.2.1 x.2.2.length = 0) : (itemsB T).length ≤ 5000 * T.length := by
  induction T with
  | nil => simp [itemsB]
  | cons y T ih =>
    have h1 := h y (by simp)
    have h2 := goodB_len h1.1
    have h3 := checkN_small h1.2
    have h4 := leafB_len y.2.1 y.2.2
    have h5 := ih (fun x hx => h x (by simp [hx]))
    have h6 := numB_len y.1.length
    have h7 : (textB y.1).length ≤ 9 + y.1.length := by unfold textB; rw [List.length_append]; omega
    unfold itemsB at h5 ⊢
    rw [List.flatMap_cons, List.length_append, List.length_append, List.length_cons]
    omega
theorem own_ablk3 {w : World} {base n c : Nat} {A : Option Addr} {e : TypeId} {size : Nat} {xs : List Value} (h : w.ownsRow base e size (.slice A n c) n xs) : ∀ b, ablk A = some b → base ≤ b := by
  obtain ⟨A', c', e1, _, _, h3, _⟩ := own_form h
  injection e1 with e2 e3 e4
  subst e2
  exact fun b hb => (h3 b hb).1

set_option maxRecDepth 100000 in
set_option maxHeartbeats 4000000 in
theorem canonBytes_any (hSS : SortsT) (tb : Nat) (mo : Option Nat) (L : List (List UInt8 × LV)) (w : World) (h : TreeAt w tb mo L) :
    Calls Tryz.prog 8 #[.pointer (some ⟨tb, 0, none⟩)] w fun e w' => ∃ (A : Option Addr) (c : Nat) (l : List UInt8), e = .returned (.slice A l.length c) ∧ Hid (l = canonB (plainL L)) ∧ OwB w' w.heap.size (.slice A l.length c) l ∧ Below w.heap.size w w' := by
  have hba : Below w.heap.size w (w.alloc (.cells #[.slice none 0 0] 55)) := (Below.refl _ _).alloc (Nat.le_refl _) _
  have HP1 := Lib.hid (Pen.new w (base := w.heap.size))
  have HT1 := Lib.hid (h.below hba)
  have HT := Lib.hid h
  have hlen : L.length ≤ 128 := by have := h.plain.len; rwa [plain_len] at this
  have HOK := Lib.hid h.plain
  clear h
  go_enter Tryz.func8, Tryz.ntmps8
  go_wp2_with fail
  generalize w.alloc (.cells #[.slice none 0 0] 55) = w1 at *
  refine (treeLen_any tb mo L w1 HT1.out).mono ?_
  rintro e w2 ⟨rfl, rfl⟩
  have hcv := IntWalk.u64_in (L.length : Int) ⟨by omega, by omega⟩
  have hbl : Below w1.heap.size w1 (w1.alloc (.cells #[.int .u64 (L.length : Int)] 57)) := (Below.refl _ _).alloc (Nat.le_refl _) _
  have hR : Rd (w1.alloc (.cells #[.int .u64 (L.length : Int)] 57)) (fun b => w1.heap.size ≤ b) 1 (some ⟨w1.heap.size, 0, none⟩) 1 [u64v L.length] := Rd.lit (w := w1) (t := 57) (size := 1) (n := 1) (xs := [.int .u64 (L.length : Int)]) rfl rfl rfl
  have hp1l := HP1.out.blk.lt
  have hNM := Num_any w.heap.size w.heap.size (.slice none 0 0) [] (some ⟨w1.heap.size, 0, none⟩) 1 [L.length] _ _ (HP1.out.below hbl) hR (fun b _ hz e => by
    have hz' : w1.heap.size ≤ b := hz
    rcases e with e | e
    · omega
    · simp [Value.ownBlock] at e) (fun n hn => by
    simp only [List.mem_cons, List.not_mem_nil, or_false] at hn
    subst hn
    omega) (by simp; omega) (by simp)
  have HNM := Lib.hid hNM
  clear hNM
  go_wp2_with fail
  refine HNM.out.mono ?_
  rintro e w2 ⟨rfl, v2, h2⟩
  rw [List.nil_append, List.flatMap_cons, List.flatMap_nil, List.append_nil] at h2
  have hw2 : Below w.heap.size w w2 := (hba.trans (hbl.mono hba.size)).trans (h2.fr.below (B := w.heap.size) (by simp; omega) (fun k hk e => by
    rcases e with rfl | e
    · omega
    · simp [Value.ownBlock] at e))
  have hv2 : ∀ g, v2.ownBlock = some g → g < w2.heap.size := fun g hg => (h2.pen.own.lt g hg).2
  have HT2 := Lib.hid (HT.out.below hw2)
  have HPE := Lib.hid h2.pen
  have hpb2 := h2.pen.blk.lt
  clear HNM HT HT1 HP1 hR hbl h2
  go_wp2_with fail
  refine (treeItems_any hSS tb mo L w2 HT2.out).mono ?_
  rintro e w3 ⟨A, c, M, rfl, hM, hI, hb3⟩
  have hMl : M.length ≤ 128 := by
    have := congrArg List.length hM.out
    rw [plain_len, plain_len] at this
    omega
  have hw3 := hw2.trans (hb3.mono hw2.size)
  have HP3 := Lib.hid (HPE.out.below hb3)
  have HRD : Hid (Rd w3 (fun b => w2.heap.size ≤ b) 3 A M.length (M.flatMap itemC)) := Lib.hid (Rd.of_own hI.row (fun b hb _ => (own_ablk3 hI.row b hb)))
  have HIB := Lib.hid hI.byt
  have HMG : Hid (∀ x ∈ M, goodB x.1 = true ∧ checkN x.2.k x.2.x.l.length = 0) := Lib.hid (fun x hx => by
    have h1 : (x.1, x.2.p) ∈ plainL L := by rw [← hM.out]; exact List.mem_map.2 ⟨x, hx, rfl⟩
    have h2 := HOK.out.good _ h1
    exact ⟨h2.1, h2.2.2⟩)
  have hs23 := hb3.size
  clear hI hb3 HPE HT2
  have hnl := numB_len L.length
  go_wp2_with fail
  go_loopw [14] (fun iv wr => ∃ (i : Nat) (Li : List UInt8) (v' : Value), i ≤ M.length ∧ iv = .int .i64 (i : Int) ∧ PenTo w3 w.heap.size w.heap.size v2 Li wr v' ∧ Hid (Li = numB L.length ++ itemsB (plainL (M.take i)))) (fun iv _ => M.length - (intOf iv).toNat)
  case atStart => exact ⟨0, numB L.length, v2, Nat.zero_le _, rfl, PenTo.refl HP3.out, Lib.hid (by simp [itemsB, plainL])⟩
  case round =>
    obtain ⟨i, Li, v', hi, rfl, hpi, hLi⟩ := hrel
    have hsz := hpi.fr.size
    have hfw : Fr (fun k => k < w2.heap.size) w3 wr := hpi.fr.mono (fun k hk e => by
      rcases e with rfl | e
      · exact hpb2
      · exact hv2 k e)
    by_cases hlt : i < M.length
    · obtain ⟨b, off, hA, hzb, hbb, hcc⟩ := (HRD.out.fr hfw (fun k _ hz e => by omega)).2 (by omega)
      have hg : ∀ j, j < 3 → (M.flatMap itemC)[i * 3 + j]? = (itemC M[i])[j]? := fun j hj => flat_get (k := 3) item_len M i j hlt hj
      have c0 := hcc _ _ (hg 0 (by omega))
      have c1 := hcc _ _ (hg 1 (by omega))
      have c2 := hcc _ _ (hg 2 (by omega))
      rw [Nat.add_zero] at c0
      rw [← Nat.add_assoc] at c1 c2
      obtain ⟨g1, g2⟩ := HMG.out _ (List.getElem_mem hlt)
      have g3 := goodB_len g1
      have g4 := checkN_small g2
      have hsn := itemsB_snoc M i hlt
      have hLl : Li.length ≤ 700000 := by
        have h1 := itemsB_len (plainL (M.take i)) (fun y hy => by
          obtain ⟨x, hx, rfl⟩ := List.mem_map.1 hy
          exact HMG.out x (List.mem_of_mem_take hx))
        rw [plain_len, List.length_take] at h1
        rw [hLi.out, List.length_append]
        omega
      have hby := HIB.out _ (List.getElem_mem hlt)
      generalize M[i] = x at c0 c1 c2 hsn hby g1 g2 g3 g4
      obtain ⟨pl, k, xA, xc, xl⟩ := x
      dsimp only at hby g2 g4 g3 hsn
      have hxo : BV.ok wr (fun b => w2.heap.size ≤ b ∧ b < w3.heap.size) ⟨xA, xc, xl⟩ := by
        obtain ⟨A', c', e, q1, q2, q3⟩ := hby.form
        injection e with e1 e2 e3
        subst e1 e3
        exact BV.ok.fr (w := w3) ⟨hby.rd.mono (fun b _ hb => ⟨(q3 b hb).1, (q3 b hb).2.1⟩), q1, q2⟩ hfw (fun b _ hz e => by omega)
      replace c0 : wr.cell? ⟨b, off + i * 3, none⟩ = some (.string ⟨⟨pl⟩⟩) := c0
      replace c1 : wr.cell? ⟨b, off + i * 3 + 1, none⟩ = some (.int .i64 k) := c1
      replace c2 : wr.cell? ⟨b, off + i * 3 + 2, none⟩ = some (.slice xA xl.length xc) := c2
      subst hA
      have HSN := Lib.hid hsn
      have HXO := Lib.hid hxo
      have HG2 := Lib.hid g2
      have hba4 : Below wr.heap.size wr (wr.alloc (.cells #[.string ⟨⟨pl⟩⟩, .int .i64 k, .slice xA xl.length xc] 48)) := (Below.refl _ _).alloc (Nat.le_refl _) _
      have hx1 := Blk.new wr 48 #[.string ⟨⟨pl⟩⟩, .int .i64 k, .slice xA xl.length xc]
      have hpi1 := hpi.mem hba4
      have hn1 : wr.heap.size ≠ w.heap.size := by have := hpi.pen.blk.lt; omega
      have hn2 : v'.ownBlock ≠ some wr.heap.size := fun e => by have := (hpi.pen.own.lt _ e).2; omega
      clear hcc hg hsn hby hxo g1 g2
      go_upto_region 6 with (fail)
      have hxb := hx1.lt
      obtain ⟨xb, hxb'⟩ : ∃ xb, xb = wr.heap.size := ⟨_, rfl⟩
      rw [← hxb'] at hx1 hxb hn1 hn2 ⊢
      have HXO1 := Lib.hid (HXO.out.below hba4)
      have hs4 := hba4.size
      generalize wr.alloc (.cells #[.string ⟨⟨pl⟩⟩, .int .i64 k, .slice xA xl.length xc] 48) = w4 at *
      have hs34 : w3.heap.size ≤ w4.heap.size := by omega
      have hxb3 : w3.heap.size ≤ xb := by omega
      clear c0 c1 c2 hxb' hba4 HXO hpi hfw
      have d0 := hx1.cell 0
      simp only [List.getElem?_toArray, List.getElem?_cons_zero] at d0
      obtain ⟨cc, W2, hcv2, hby2, hcc1, hcc2, hlow2, hs2⟩ := conv_str w4 pl (by simp only [maxLen]; omega)
      go_wp2_with fail
      have hp2 := hpi1.mem hlow2
      have hx2 := hx1.below hlow2
      clear hcv2
      refine (Text_any w.heap.size w.heap.size v' Li _ _ [⟨some ⟨w4.heap.size, 0, none⟩, cc, pl⟩] (fun b => b = w4.heap.size ∨ W2.heap.size ≤ b) _ (hp2.pen.alloc _) ((Rd.lit rfl rfl hs2.symm).mono (fun b _ hb => .inr hb)) ?_ ?_ ?_ ?_).mono ?_
      · intro y hy
        obtain rfl := List.mem_singleton.1 hy
        exact BV.ok.mono (BV.ok.below (w := W2) ⟨hby2, hcc1, hcc2⟩ ((Below.refl _ _).alloc (Nat.le_refl _) _)) (fun b _ hb => .inl hb)
      · rintro b' _ hb' he
        have h9 := hpi1.pen.blk.lt
        rcases he with rfl | he
        · rcases hb' with e | e <;> omega
        · have h8 := (hpi1.pen.own.lt _ he).2
          rcases hb' with e | e <;> omega
      · simp; omega
      · simp [wide]; omega
      rintro e w5 ⟨rfl, v5, h5⟩
      have hp5 := hp2.trans (PenTo.after hp2.pen ((Below.refl _ _).alloc (Nat.le_refl _) _) h5)
      rw [List.flatMap_cons, List.flatMap_nil, List.append_nil] at hp5
      have hx5 := box_keep h5 (hx2.alloc _) hn1 hn2
      have hs5 := hp5.fr.size
      have e1 := hx5.cell 1
      have e2 := hx5.cell 2
      simp only [List.getElem?_toArray, List.getElem?_cons_zero, List.getElem?_cons_succ] at e1 e2
      have hx5l := hx5.lt
      have hfw5 : Fr (fun k => k < w2.heap.size) w3 w5 := hp5.fr.mono (fun k hk e => by
        rcases e with rfl | e
        · exact hpb2
        · exact hv2 k e)
      have h45 : Fr (fun y => y = w.heap.size ∨ v'.ownBlock = some y) w4 w5 := ((Fr.of_below hlow2 _).trans (Fr.of_below ((Below.refl W2.heap.size W2).alloc (Nat.le_refl _) _) (fun y => y = w.heap.size ∨ v'.ownBlock = some y)) (fun _ _ e => e)).trans h5.fr (fun _ _ e => e)
      have hv' : ∀ g, v'.ownBlock = some g → g < w2.heap.size ∨ w3.heap.size ≤ g := fun g hg => by
        rcases hpi1.at_ with e | ⟨g', e, hg'⟩
        · exact .inl (hv2 g (by rw [← e]; exact hg))
        · rw [e] at hg; injection hg with hg; exact .inr (by omega)
      have hv5 : ∀ g, v5.ownBlock = some g → g < w2.heap.size ∨ w3.heap.size ≤ g := fun g hg => by
        rcases hp5.at_ with e | ⟨g', e, hg'⟩
        · exact .inl (hv2 g (by rw [← e]; exact hg))
        · rw [e] at hg; injection hg with hg; exact .inr (by omega)
      have hxo5 := HXO1.out.fr h45 (fun y _ hz e => by
        rcases e with rfl | e
        · omega
        · have := hv' y e; omega)
      have HXO5 := Lib.hid hxo5
      have HP5 := Lib.hid hp5
      have HV5 := Lib.hid hv5
      have HLi : Hid (Li ++ textB pl = numB L.length ++ itemsB (plainL (M.take i)) ++ textB pl) := Lib.hid (by rw [hLi.out])
      have HTL : (Li ++ textB pl).length ≤ 800000 := by
        have : (textB pl).length ≤ 9 + pl.length := by unfold textB; rw [List.length_append]; have := numB_len pl.length; omega
        rw [List.length_append]; omega
      clear h5 hp2 hx2 hby2 hxo5 hp5 hv5 hx5 h45 hfw5 hpi1 hlow2 HXO1 d0
      go_wp2_with fail
      refine (leafWrite_any w.heap.size w.heap.size v5 (Li ++ textB pl) _ _ [⟨k, ⟨xA, xc, xl⟩⟩] (fun b => (w2.heap.size ≤ b ∧ b < w3.heap.size) ∨ w5.heap.size ≤ b) _ (HP5.out.pen.alloc _) ((Rd.lit (w := w5) (xs := LV.cells ⟨k, ⟨xA, xc, xl⟩⟩) (n := 1) (size := 2) rfl rfl rfl).mono (fun b _ hb => .inr hb)) ?_ ?_ ?_ ?_).mono ?_
      · intro y hy
        obtain rfl := List.mem_singleton.1 hy
        exact BV.ok.mono (BV.ok.below (w := w5) HXO5.out ((Below.refl _ _).alloc (Nat.le_refl _) _)) (fun b _ hb => .inl hb)
      · rintro b' _ hb' he
        have h9 := HP5.out.pen.blk.lt
        rcases he with rfl | he
        · rcases hb' with e | e <;> omega
        · have h8 := (HP5.out.pen.own.lt _ he).2
          have h7 := HV5.out _ he
          rcases hb' with e | e <;> omega
      · simp; omega
      · have hwl : wideL [⟨k, ⟨xA, xc, xl⟩⟩] = 18 + xl.length := by simp [wideL]
        omega
      rintro e w6 ⟨rfl, v6, h6⟩
      have hp6 := HP5.out.trans (PenTo.after HP5.out.pen ((Below.refl _ _).alloc (Nat.le_refl _) _) h6)
      rw [List.flatMap_cons, List.flatMap_nil, List.append_nil] at hp6
      have HP6 := Lib.hid hp6
      have HNI : Hid (Li ++ textB pl ++ leafB k xl = numB L.length ++ itemsB (plainL (M.take (i + 1)))) := Lib.hid (by
        rw [HSN.out, HLi.out]
        simp only [List.append_assoc])
      clear hp6 h6 HP5
      go_wp2_with fail
      go_roundw
      case rel => exact ⟨i + 1, _, v6, hlt, by go_num, HP6.out, HNI⟩
      case measure => simp [intOf]; omega
    · have e : i = M.length := by omega
      subst e
      have hLE : Hid (Li = canonB (plainL L)) := Lib.hid (by
        rw [hLi.out, List.take_length, hM.out]
        unfold canonB
        rw [plain_len])
      have hLl : Li.length ≤ 700000 := by
        have h1 := itemsB_len (plainL M) (fun y hy => by
          obtain ⟨x, hx, rfl⟩ := List.mem_map.1 hy
          exact HMG.out x hx)
        rw [plain_len] at h1
        rw [hLi.out, List.length_append, List.take_length]
        omega
      have hwr : Below w.heap.size w wr := hw3.trans (hpi.fr.below (B := w.heap.size) hw3.size (fun k hk e => by
        rcases e with rfl | e
        · omega
        · have := (HP3.out.own.lt k e).1; omega))
      clear hLi
      go_wp2_with fail
      refine (Bytes_any w.heap.size w.heap.size v' Li wr hpi.pen (by omega)).mono ?_
      rintro e w9 ⟨A9, c9, l9, rfl, hl9, ho9, hb9⟩
      go_wp2_with fail
      go_ret
      exact ⟨A9, c9, l9, rfl, Lib.hid (by rw [hl9.out, hLE.out]), own_base ho9 (fun g hg => Nat.le_trans hwr.size (ho9.lt g hg).1), hwr.trans (hb9.mono hwr.size)⟩

end Go.Proofs.YtjcfphdjgagimaaGreatDoor

/- A tree's items set one after the other make the tree again: plain. -/
namespace Go.Proofs.YtjcfphdjgagimaaGreatDoor
open Go.RowKit Go.Maps

theorem sort_at {T : List (List UInt8 × LP)} (h : SortR T) {i j : Nat} (hi : i < T.length) (hj : j < T.length) (hij : i < j) : cmpT T[i].1 T[j].1 < 0 :=
  List.pairwise_iff_getElem.1 h i j hi hj hij
theorem sort_lt {T : List (List UInt8 × LP)} (h : SortR T) {i j : Nat} (hi : i < T.length) (hj : j < T.length) (hc : cmpT T[i].1 T[j].1 < 0) : i < j := by
  rcases Nat.lt_trichotomy i j with e | e | e
  · exact e
  · subst e; rw [cmpT_self] at hc; omega
  · have h1 := sort_at h hj hi e
    have h2 := ordT.flip T[i].1 T[j].1
    omega
theorem take_none {T : List (List UInt8 × LP)} (h : SortR T) {i : Nat} (hi : i < T.length) : getR (T.take i) T[i].1 = none := by
  rw [getR_none]
  intro x hx e
  obtain ⟨j, hj, rfl⟩ := List.mem_take_iff_getElem.1 hx
  have := sort_at h (i := j) (j := i) (by omega) hi (by omega)
  rw [e, cmpT_self] at this
  omega
theorem take_some {T : List (List UInt8 × LP)} (h : SortR T) {i : Nat} (hi : i < T.length) {p : List UInt8} (hp : cmpT p T[i].1 < 0) : getR (T.take i) p = getR T p := by
  rcases hg : getR T p with _ | v
  · rw [getR_none] at hg ⊢
    exact fun x hx => hg x (List.mem_of_mem_take hx)
  · have hm := getR_mem hg
    obtain ⟨j, hj, e⟩ := List.getElem_of_mem hm
    have hji : j < i := sort_lt h hj hi (by rw [e]; exact hp)
    have hm2 : (p, v) ∈ T.take i := by rw [← e]; exact List.mem_take_iff_getElem.2 ⟨j, by omega, rfl⟩
    have hs : SortR (T.take i) := List.Pairwise.sublist (List.take_sublist _ _) h
    exact hs.get hm2
/-- set in order, each may be set -/
theorem build_may {T : List (List UInt8 × LP)} (h : TreeOk T) (hd : DirsOk T) {i : Nat} (hi : i < T.length) : mayS (T.take i) T[i].1 T[i].2 = 0 := by
  have hm : T[i] ∈ T := List.getElem_mem hi
  obtain ⟨hg, hk, hc⟩ := h.good _ hm
  have hl := h.len
  unfold mayS
  rw [if_neg (by rw [hg]; decide), if_neg (by rw [hc]; simp), if_neg, if_neg (by rcases hk with e | e <;> rw [e] <;> decide), if_neg, if_neg]
  · rintro ⟨_, h2⟩
    rw [List.length_take] at h2
    omega
  · rintro ⟨h1, h2⟩
    have hu := par_under h1
    have hlt := (under_order (b := (parT T[i].1).1) hu).1
    rw [take_some h.sort hi (by omega)] at h2
    exact h2 (hd _ hm h1)
  · rintro ⟨_, h2⟩
    obtain ⟨q, hq⟩ := List.exists_mem_of_ne_nil _ h2
    obtain ⟨h3, h4⟩ := List.mem_filter.1 hq
    unfold keysR at h3
    obtain ⟨x, hx, rfl⟩ := List.mem_map.1 h3
    obtain ⟨j, hj, rfl⟩ := List.mem_take_iff_getElem.1 hx
    have h5 := sort_at h.sort (i := j) (j := i) (by omega) hi (by omega)
    have h6 := (under_order (b := T[i].1) h4).1
    have h7 := ordT.flip T[i].1 T[j].1
    omega
theorem build_set {T : List (List UInt8 × LP)} (h : TreeOk T) (hd : DirsOk T) {i : Nat} (hi : i < T.length) : setS (T.take i) T[i].1 T[i].2 = T.take (i + 1) := by
  have hk := (h.good _ (List.getElem_mem hi)).2.1
  unfold setS doS
  rw [if_pos (build_may h hd hi), if_neg (by rcases hk with e | e <;> rw [e] <;> decide)]
  unfold putR
  rw [without_self (take_none h.sort hi), ins_none, List.take_succ_eq_append_getElem hi]
  unfold behR
  rw [List.any_eq_false]
  intro x hx
  obtain ⟨j, hj, rfl⟩ := List.mem_take_iff_getElem.1 hx
  have := sort_at h.sort (i := j) (j := i) (by omega) hi (by omega)
  simp; omega
end Go.Proofs.YtjcfphdjgagimaaGreatDoor

/- tenderlaw07: Light, lives. -/
namespace Go.Proofs.YtjcfphdjgagimaaGreatDoor
open Go.RowKit

/-- leaves in a slice -/
structure Leaves (w : World) (Z : Nat → Prop) (A : Option Addr) (l : List LV) : Prop where
  rd : Rd w Z 2 A l.length (l.flatMap LV.cells)
  ok : ∀ o ∈ l, o.x.ok w Z
  lens : ∀ o ∈ l, o.x.l.length ≤ 140737488355328
  ks : ∀ o ∈ l, -9223372036854775808 ≤ o.k ∧ o.k < 9223372036854775808
  len : l.length ≤ 140737488355328
theorem Leaves.fr {w w' : World} {Z S : Nat → Prop} {A : Option Addr} {l : List LV} (h : Leaves w Z A l) (k : Fr S w w') (hs : ∀ b, b < w.heap.size → Z b → ¬ S b) : Leaves w' Z A l :=
  ⟨h.rd.fr k hs, fun o ho => (h.ok o ho).fr k hs, h.lens, h.ks, h.len⟩
theorem Leaves.below {w w' : World} {Z : Nat → Prop} {A : Option Addr} {l : List LV} (h : Leaves w Z A l) (k : Below w.heap.size w w') : Leaves w' Z A l := h.fr (Fr.of_below k (fun _ => False)) (fun _ _ _ h => h)

end Go.Proofs.YtjcfphdjgagimaaGreatDoor

/- LeafWrites is true for every input: the bytes of any leaves are the document's; right ones are read of them as they were. No condition beyond the row's own. -/
namespace Go.Proofs.YtjcfphdjgagimaaGreatDoor
open Go.RowKit Go.WideShapes Go.ChangeShapes Go.ChangeAt

/-- a leaf as it is read again -/
def backK (k : Int) (l : List UInt8) : Nat := if checkN k l.length ≠ 0 then 0 else k.toNat
def backL (k : Int) (l : List UInt8) : List UInt8 := if checkN k l.length ≠ 0 then [] else l
theorem leafS_back (k : Int) (l t : List UInt8) : leafS (leafB k l ++ t) 0 = (backK k l, backL k l, t, 0) := by
  unfold backK backL
  by_cases hck : checkN k l.length = 0
  · rw [if_neg (by simpa using hck), if_neg (by simpa using hck)]
    obtain ⟨hk, hn0, hl⟩ := checkN_ok hck
    by_cases hk1 : k = 1
    · rw [leafB_file hck hk1]
      subst hk1
      unfold leafS
      rw [List.append_assoc, int_numB _ (by omega) (by omega)]
      dsimp only
      rw [if_pos rfl, text_textB t (by omega) (by omega)]
      simp
    · rw [leafB_other hck hk1]
      have hl0 : l = [] := List.eq_nil_of_length_eq_zero (hn0 hk1)
      unfold leafS
      rw [int_numB _ (by omega) (by omega)]
      have hk2 : ¬ k.toNat = 1 := by omega
      subst hl0
      simp [hk2]
  · rw [if_pos hck, if_pos hck, leafB_bad hck]
    unfold leafS
    rw [int_numB _ (by omega) (by omega)]
    simp
end Go.Proofs.YtjcfphdjgagimaaGreatDoor
