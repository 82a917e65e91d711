/- tenderref01: Num, Text, Same. -/
import Derived.Test.YtpbgcbpofhbgbaaGrainMath
namespace Go.Proofs.Ytpbgcbpofhbgbaa
open Go.RowKit

set_option maxHeartbeats 400000 in
theorem refNum_any (n : Nat) (w : World) (hn : n < 18446744073709551616) :
    Calls Try.prog 96 #[.int .u64 n] w fun e w' => ∃ v, e = .returned v ∧ OwB w' w.heap.size v (numB n) ∧ Below w.heap.size w w' := by
  obtain ⟨i0, hi0, hz0, hz1, hz2⟩ := info_parts u8_info
  go_enter Try.func96, Try.ntmps96
  go_wp2
  go_loopw [0, 3] (fun nv dv wr => ∃ (m f : Nat) (acc : List UInt8), m < 256 ^ f ∧ nv = .int .u64 (m : Int) ∧ OwB wr w.heap.size dv acc ∧ acc.length + f = 8 ∧ Hid (dg f m acc = digs n) ∧ Below w.heap.size w wr) (fun nv _ _ => (intOf nv).toNat)
  case atStart => exact ⟨n, 8, [], hn, rfl, World.ownsRow_nil _ _ _ _, rfl, rfl, Below.refl _ _⟩
  case round =>
    obtain ⟨m, f, acc, hm, rfl, hd, hf, hdg, hb⟩ := hrel
    obtain ⟨A, c, rfl, hc, hcm, hA⟩ := hd.form
    have hsz := hb.size
    by_cases h0 : 0 < m
    · have hr := hd.rd
      have hm64 : m < 18446744073709551616 := Nat.lt_of_lt_of_le hm (pow_le8 (by omega))
      obtain ⟨f, rfl⟩ : ∃ k, f = k + 1 := by
        rcases f with _ | k
        · simp at hm; omega
        · exact ⟨k, rfl⟩
      go_wp2_with (at_builtin; refine wpList_append_by rfl (.tmp 9) (.tmp 10) rfl (v := .slice (some ⟨wr.heap.size, 0, none⟩) 1 1) rfl (OwB.lit1 wr (b := UInt8.ofNat (m % 256)) (by rw [bv_ofNat (by omega)]; rfl) hsz) rfl (hr.alloc _) (by simp; omega) (by simp; omega) ?_; intro L1 A1 c1 w1 hL1 hown hg hat)
      go_roundw
      case rel => 
        have hL : L1 = UInt8.ofNat (m % 256) :: acc := hL1.out
        subst hL
        refine ⟨m / 256, f, UInt8.ofNat (m % 256) :: acc, ?_, rfl, hown, ?_, ?_, ?_⟩
        · rw [Nat.div_lt_iff_lt_mul (by omega)]; rw [Nat.pow_succ] at hm; exact hm
        · simp; omega
        · rw [← dg_cons h0]; exact hdg
        · exact ((hb.alloc hsz _).grown hg (by simp; omega) (by simp [Value.ownBlock]; omega))
      case measure => simp [intOf]; omega
    · have e0 : m = 0 := by omega
      subst e0
      have hr := hd.rd
      rw [dg_zero] at hdg
      have hl := digs_len n
      go_wp2_with (at_builtin; refine wpList_append_by rfl (.tmp 17) (.tmp 18) rfl (v := .slice (some ⟨wr.heap.size, 0, none⟩) 1 1) rfl (OwB.lit1 wr (b := UInt8.ofNat acc.length) (by rw [bv_ofNat (by omega)]) hsz) rfl (hr.alloc _) (by simp; omega) (by simp; omega) ?_; intro L1 A1 c1 w1 hL1 hown hg hat)
      go_ret
      refine ⟨_, rfl, ?_, ?_⟩
      · have hL : L1 = UInt8.ofNat acc.length :: acc := hL1.out
        subst hL
        unfold numB; rw [← hdg.out]; exact hown
      · exact ((hb.alloc hsz _).grown hg (by simp; omega) (by simp [Value.ownBlock]; omega))

set_option maxHeartbeats 400000 in
theorem refText_any (A : Option Addr) (c : Nat) (l : List UInt8) (Z : Nat → Prop) (w : World) (hl : By w Z A l) (hn : l.length ≤ 70368744177664) :
    Calls Try.prog 97 #[.slice A l.length c] w fun e w' => ∃ v, e = .returned v ∧ OwB w' w.heap.size v (textB l) ∧ Below w.heap.size w w' := by
  have hL := numB_len l.length
  go_enter Try.func97, Try.ntmps97
  go_wp2_with fail
  refine (refNum_any l.length _ (by omega)).mono ?_
  rintro e w1 ⟨v1, rfl, h1, hb1⟩
  obtain ⟨A0, c0, rfl, hc0, hcm0, hA0⟩ := h1.form
  have hs1 := hb1.size
  go_wp2_with (at_builtin; refine wpList_append_by rfl (.tmp 6) (.tmp 7) rfl (v := .slice A0 (numB l.length).length c0) rfl h1 rfl (hl.below hb1) (by omega) hb1.size ?_; intro L2 A2 c2 w2 hL2 hown hg hat)
  go_ret
  have hL : L2 = textB l := hL2.out
  subst hL
  exact ⟨_, rfl, hown, hb1.grown hg hs1 (fun k hk => (h1.lt k hk).1)⟩

set_option maxHeartbeats 400000 in
theorem refSame_any (A B : Option Addr) (c d : Nat) (l m : List UInt8) (Z Z' : Nat → Prop) (w : World) (hl : By w Z A l) (hm : By w Z' B m) :
    Calls Try.prog 14 #[.slice A l.length c, .slice B m.length d] w fun e w' => e = .returned (.bool (l == m)) ∧ w = w' := by
  have k1 := conv_by hl c
  have k2 := conv_by hm d
  go_enter Try.func14, Try.ntmps14
  go_wp2
  go_ret
  exact ⟨rfl, rfl⟩
end Go.Proofs.Ytpbgcbpofhbgbaa
