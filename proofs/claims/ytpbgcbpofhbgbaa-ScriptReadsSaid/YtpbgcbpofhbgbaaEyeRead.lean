/- tenderref01.Eye.Read. -/
import Derived.Test.YtpbgcbpofhbgbaaEyeNum
namespace Go.Proofs.Ytpbgcbpofhbgbaa
open Go.RowKit

set_option maxHeartbeats 400000 in
theorem eyeRead_bad (eb : Nat) (Z : Nat → Prop) (A : Option Addr) (c : Nat) (l : List UInt8) (f : Int) (most : Nat) (w : World) (h : EyeAt w 109 eb Z A c l f) (hf : f ≠ 0) :
    Calls Try.prog 68 #[.pointer (some ⟨eb, 0, none⟩), .int .u64 most] w (NumTo w 109 eb Z (readS l f most)) := by
  have c1 := h.c1
  rw [readS_bad hf]
  have hfb : (f != 0) = true := by simpa using hf
  go_enter Try.func68, Try.ntmps68
  go_wp2_with fail
  go_ret
  exact ⟨rfl, h.to⟩

set_option maxHeartbeats 400000 in
theorem eyeRead_none (eb : Nat) (Z : Nat → Prop) (A : Option Addr) (c : Nat) (most : Nat) (w : World) (h : EyeAt w 109 eb Z A c [] 0) :
    Calls Try.prog 68 #[.pointer (some ⟨eb, 0, none⟩), .int .u64 most] w (NumTo w 109 eb Z (readS [] 0 most)) := by
  have c1 := h.c1
  have c0 := h.c0
  rw [readS_nil]
  go_enter Try.func68, Try.ntmps68
  go_wp2_with fail
  refine (failR_any eb Z A c [] 0 11 w h).mono ?_
  rintro e w1 ⟨rfl, h1⟩
  go_wp2_with fail
  go_ret
  exact ⟨rfl, h1⟩

theorem rd_first {w : World} {T eb : Nat} {Z : Nat → Prop} {A : Option Addr} {c : Nat} {x : UInt8} {r : List UInt8} {f : Int} (h : EyeAt w T eb Z A c (x :: r) f) :
    ∃ b off, A = some ⟨b, off, none⟩ ∧ Z b ∧ w.cell? ⟨b, off, none⟩ = some (.int .u8 (x.toNat : Int)) ∧ ∀ j (hj : j < r.length), w.cell? ⟨b, off + (1 + j), none⟩ = some (.int .u8 (r[j].toNat : Int)) := by
  obtain ⟨b, off, e, hz, _, hc⟩ := Rd.atm h.2.1 (k := 0) (by simp)
  refine ⟨b, off, e, hz, hc, fun j hj => ?_⟩
  obtain ⟨b2, off2, e2, _, _, hc2⟩ := Rd.atm h.2.1 (k := 1 + j) (by simp; omega)
  rw [e] at e2
  obtain ⟨rfl, rfl⟩ : b = b2 ∧ off = off2 := by simpa using e2
  rw [hc2]
  simp [bv, Nat.add_comm 1 j]

set_option maxHeartbeats 400000 in
theorem eyeRead_wide (eb : Nat) (Z : Nat → Prop) (A : Option Addr) (c : Nat) (x : UInt8) (r : List UInt8) (most : Nat) (w : World) (h : EyeAt w 109 eb Z A c (x :: r) 0) (hx : 8 < x.toNat) :
    Calls Try.prog 68 #[.pointer (some ⟨eb, 0, none⟩), .int .u64 most] w (NumTo w 109 eb Z (readS (x :: r) 0 most)) := by
  have c1 := h.c1
  have c0 := h.c0
  rw [readS_wide hx]
  have hx8 : x.toNat < 256 := x.toNat_lt
  have hbd : r.length + 1 ≤ c ∧ c ≤ 9223372036854775807 := h.bounds
  obtain ⟨b, off, rfl, _, hcell, _⟩ := rd_first h
  go_enter Try.func68, Try.ntmps68
  go_wp2_with fail
  refine (failR_any eb Z _ c (x :: r) 0 10 w h).mono ?_
  rintro e w1 ⟨rfl, h1⟩
  go_wp2_with fail
  go_ret
  exact ⟨rfl, h1⟩

set_option maxHeartbeats 400000 in
theorem eyeRead_short (eb : Nat) (Z : Nat → Prop) (A : Option Addr) (c : Nat) (x : UInt8) (r : List UInt8) (most : Nat) (w : World) (h : EyeAt w 109 eb Z A c (x :: r) 0) (hx : ¬ 8 < x.toNat) (hr : r.length < x.toNat) :
    Calls Try.prog 68 #[.pointer (some ⟨eb, 0, none⟩), .int .u64 most] w (NumTo w 109 eb Z (readS (x :: r) 0 most)) := by
  have c1 := h.c1
  have c0 := h.c0
  rw [readS_short hx hr]
  have hx8 : x.toNat < 256 := x.toNat_lt
  have hbd : r.length + 1 ≤ c ∧ c ≤ 9223372036854775807 := h.bounds
  obtain ⟨b, off, rfl, _, hcell, _⟩ := rd_first h
  go_enter Try.func68, Try.ntmps68
  go_wp2_with fail
  refine (failR_any eb Z _ c (x :: r) 0 11 w h).mono ?_
  rintro e w1 ⟨rfl, h1⟩
  go_wp2_with fail
  go_ret
  exact ⟨rfl, h1⟩

set_option maxHeartbeats 1000000 in
theorem eyeRead_long (eb : Nat) (Z : Nat → Prop) (A : Option Addr) (c : Nat) (x : UInt8) (r : List UInt8) (most : Nat) (w : World) (h : EyeAt w 109 eb Z A c (x :: r) 0) (hz : ¬ Z eb) (hx : ¬ 8 < x.toNat) (hr : ¬ r.length < x.toNat) :
    Calls Try.prog 68 #[.pointer (some ⟨eb, 0, none⟩), .int .u64 most] w (NumTo w 109 eb Z (readS (x :: r) 0 most)) := by
  have c1 := h.c1
  have c0 := h.c0
  have f0 := h.f0
  have hbd := h.bounds
  have hll : (x :: r).length ≤ 1 + r.length := by simp; omega
  have hx8 : x.toNat < 256 := x.toNat_lt
  obtain ⟨b, off, rfl, hzb, hcell, hcells⟩ := rd_first h
  have HC := Lib.hid hcells
  clear hcells
  replace c0 : w.cell? ⟨eb, 0, none⟩ = some (.slice (some ⟨b, off, none⟩) (r.length + 1) c) := c0
  replace hbd : r.length + 1 ≤ c ∧ c ≤ 9223372036854775807 := hbd
  clear hll
  have H := Lib.hid h
  clear h
  go_enter Try.func68, Try.ntmps68
  go_wp2_with fail
  go_loop [6, 7] (fun nv iv => ∃ i : Nat, i ≤ x.toNat ∧ iv = .int .i64 ((i + 1 : Nat) : Int) ∧ nv = .int .u64 (val (r.take i) : Int)) (fun _ iv => x.toNat + 1 - (intOf iv).toNat)
  case atStart => exact ⟨0, Nat.zero_le _, rfl, rfl⟩
  case round =>
    obtain ⟨i, hi, rfl, rfl⟩ := hrel
    by_cases hlt : i < x.toNat
    · have hil : i < r.length := by omega
      have hc := HC.out i hil
      have hv := val_take (l := r) (i := i) hil
      have hb7 : val (r.take i) < 256 ^ 7 := Nat.lt_of_lt_of_le (val_lt _) (Nat.pow_le_pow_right (by decide) (by rw [List.length_take]; omega))
      have hgd : r.getD i 0 = r[i] := by rw [List.getD_eq_getElem?_getD, List.getElem?_eq_getElem hil]; rfl
      rw [hgd] at hv
      generalize r[i] = d at hc hv
      have HV := Lib.hid hv
      clear hv hgd
      generalize val (r.take i) = m at *
      have hm56 : m < 72057594037927936 := hb7
      clear hb7
      have hd8 := d.toNat_lt
      replace hc : w.cell? ⟨b, off + (i + 1), none⟩ = some (.int .u8 (d.toNat : Int)) := by rw [Nat.add_comm i 1]; exact hc
      go_wp2_with fail
      go_round
      case rel => exact ⟨i + 1, hlt, by go_num, by rw [HV.out]; go_num⟩
      case measure => simp [intOf]; omega
    · have e : i = x.toNat := by omega
      subst e
      have hvl := val_lt64 (l := r.take x.toNat) (by rw [List.length_take]; omega)
      have hend : ∀ w', EyeTo w 109 eb Z ((x :: r).drop (1 + x.toNat)) 0 w' → EyeTo w 109 eb Z (r.drop x.toNat) 0 w' := by
        intro w' hh
        rw [Nat.add_comm 1, List.drop_succ_cons] at hh
        exact hh
      by_cases h0 : 0 < x.toNat
      · have h1r : 0 < r.length := by omega
        have hc1 := HC.out 0 h1r
        have hgd : r.getD 0 0 = r[0] := by rw [List.getD_eq_getElem?_getD, List.getElem?_eq_getElem h1r]; rfl
        replace hc1 : w.cell? ⟨b, off + 1, none⟩ = some (.int .u8 (r[0].toNat : Int)) := hc1
        have HG := Lib.hid hgd
        clear hgd
        generalize r[0] = y at hc1 HG
        by_cases hy : y = 0
        · subst hy
          go_wp2_with fail
          refine (failR_any eb Z _ c (x :: r) 0 10 w H.out).mono ?_
          rintro e w1 ⟨rfl, h1⟩
          go_wp2_with fail
          go_ret
          rw [readS_zero hx hr ⟨h0, HG.out⟩]
          exact ⟨rfl, h1⟩
        · have hyb : ((y.toNat : Int) == 0) = false := by rw [beq_eq_false_iff_ne]; intro e; exact hy (UInt8.toNat_inj.1 (by simpa using e))
          have hn3 : ¬ (0 < x.toNat ∧ r.getD 0 0 = 0) := fun hh => hy (by rw [← HG.out]; exact hh.2)
          have HN3 := Lib.hid hn3
          clear hn3 hy
          by_cases hm : most < val (r.take x.toNat)
          · go_wp2_with fail
            refine (failR_any eb Z _ c (x :: r) 0 13 w H.out).mono ?_
            rintro e w1 ⟨rfl, h1⟩
            go_wp2_with fail
            go_ret
            rw [readS_long hx hr HN3.out hm]
            exact ⟨rfl, h1⟩
          · have hcut := H.out.cut (n := 1 + x.toNat) (by simp; omega) hz
            by_cases hcc : c = 1 + x.toNat
            · rw [if_pos hcc, show c - (1 + x.toNat) = 0 by omega] at hcut
              have HQ := Lib.hid hcc
              clear hcc
              go_wp2_with fail
              go_ret
              rw [readS_ok hx hr HN3.out hm]
              exact ⟨rfl, hend _ hcut⟩
            · rw [if_neg hcc, Option.map_some, add_none] at hcut
              go_wp2_with fail
              go_ret
              rw [readS_ok hx hr HN3.out hm]
              exact ⟨rfl, hend _ hcut⟩
      · have h0b : decide (0 < x.toNat) = false := by simpa using h0
        have hn3 : ¬ (0 < x.toNat ∧ r.getD 0 0 = 0) := fun hh => h0 hh.1
        have HN3 := Lib.hid hn3
        clear hn3
        by_cases hm : most < val (r.take x.toNat)
        · go_wp2_with fail
          refine (failR_any eb Z _ c (x :: r) 0 13 w H.out).mono ?_
          rintro e w1 ⟨rfl, h1⟩
          go_wp2_with fail
          go_ret
          rw [readS_long hx hr HN3.out hm]
          exact ⟨rfl, h1⟩
        · have hcut := H.out.cut (n := 1 + x.toNat) (by simp; omega) hz
          by_cases hcc : c = 1 + x.toNat
          · rw [if_pos hcc, show c - (1 + x.toNat) = 0 by omega] at hcut
            have HQ := Lib.hid hcc
            clear hcc
            go_wp2_with fail
            go_ret
            rw [readS_ok hx hr HN3.out hm]
            exact ⟨rfl, hend _ hcut⟩
          · rw [if_neg hcc, Option.map_some, add_none] at hcut
            go_wp2_with fail
            go_ret
            rw [readS_ok hx hr HN3.out hm]
            exact ⟨rfl, hend _ hcut⟩

theorem eyeRead_any (eb : Nat) (Z : Nat → Prop) (A : Option Addr) (c : Nat) (l : List UInt8) (f : Int) (most : Nat) (w : World) (h : EyeAt w 109 eb Z A c l f) (hz : ¬ Z eb) :
    Calls Try.prog 68 #[.pointer (some ⟨eb, 0, none⟩), .int .u64 most] w (NumTo w 109 eb Z (readS l f most)) := by
  by_cases hf : f = 0
  · subst hf
    rcases l with _ | ⟨x, r⟩
    · exact eyeRead_none eb Z A c most w h
    · by_cases hx : 8 < x.toNat
      · exact eyeRead_wide eb Z A c x r most w h hx
      · by_cases hr : r.length < x.toNat
        · exact eyeRead_short eb Z A c x r most w h hx hr
        · exact eyeRead_long eb Z A c x r most w h hz hx hr
  · exact eyeRead_bad eb Z A c l f most w h hf
end Go.Proofs.Ytpbgcbpofhbgbaa
