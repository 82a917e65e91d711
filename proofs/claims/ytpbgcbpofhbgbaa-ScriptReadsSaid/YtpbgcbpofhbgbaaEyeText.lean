/- grain.Eye and tenderref01.Eye: Int, Truth, Text; an eye that is none. -/
import Derived.Test.YtpbgcbpofhbgbaaEyeMore
namespace Go.Proofs.Ytpbgcbpofhbgbaa
open Go.RowKit

theorem readS_le (l : List UInt8) (f : Int) (most : Nat) : (readS l f most).1 ≤ most := by
  by_cases hf : f = 0
  · subst hf
    rcases l with _ | ⟨x, r⟩
    · rw [readS_nil]; exact Nat.zero_le _
    · by_cases h1 : 8 < x.toNat
      · rw [readS_wide h1]; exact Nat.zero_le _
      · by_cases h2 : r.length < x.toNat
        · rw [readS_short h1 h2]; exact Nat.zero_le _
        · by_cases h3 : 0 < x.toNat ∧ r.getD 0 0 = 0
          · rw [readS_zero h1 h2 h3]; exact Nat.zero_le _
          · by_cases h4 : most < val (r.take x.toNat)
            · rw [readS_long h1 h2 h3 h4]; exact Nat.zero_le _
            · rw [readS_ok h1 h2 h3 h4]; dsimp only; omega
  · rw [readS_bad hf]; exact Nat.zero_le _
theorem readS_len (l : List UInt8) (f : Int) (most : Nat) : (readS l f most).2.1.length ≤ l.length := by
  by_cases hf : f = 0
  · subst hf
    rcases l with _ | ⟨x, r⟩
    · rw [readS_nil]; exact Nat.zero_le _
    · by_cases h1 : 8 < x.toNat
      · rw [readS_wide h1]; exact Nat.zero_le _
      · by_cases h2 : r.length < x.toNat
        · rw [readS_short h1 h2]; exact Nat.zero_le _
        · by_cases h3 : 0 < x.toNat ∧ r.getD 0 0 = 0
          · rw [readS_zero h1 h2 h3]; exact Nat.zero_le _
          · by_cases h4 : most < val (r.take x.toNat)
            · rw [readS_long h1 h2 h3 h4]; exact Nat.zero_le _
            · rw [readS_ok h1 h2 h3 h4]; simp; omega
  · rw [readS_bad hf]; exact Nat.le_refl _
theorem failS_len (l : List UInt8) (f code : Int) : (failS l f code).1.length ≤ l.length := by unfold failS; split <;> simp

theorem clone_n (A : Option Addr) (c n : Nat) (l : List UInt8) (Z : Nat → Prop) (w : World) (h : Rd w Z 1 A n (l.map bv)) (hn : n = l.length) (hlen : l.length ≤ 140737488355328) :
    Calls Try.prog 38 #[.slice A n c] w fun e w' => ∃ (A' : Option Addr) (c' : Nat) (l' : List UInt8), e = .returned (.slice A' l'.length c') ∧ Hid (l' = l) ∧ OwB w' w.heap.size (.slice A' l'.length c') l' ∧ Below w.heap.size w w' := by
  subst hn
  exact clone_any A c l Z w h hlen

/-- an int is read -/
def intS (l : List UInt8) (f : Int) (most : Int) : Nat × List UInt8 × Int :=
  if 0 ≤ most then readS l f most.toNat else (0, failS (readS l f 0).2.1 (readS l f 0).2.2 13)
def IntTo (w : World) (T eb : Nat) (Z : Nat → Prop) (r : Nat × List UInt8 × Int) (e : Ending) (w' : World) : Prop := e = .returned (.int .i64 (r.1 : Int)) ∧ EyeTo w T eb Z r.2.1 r.2.2 w'
theorem intS_len (l : List UInt8) (f most : Int) : (intS l f most).2.1.length ≤ l.length := by
  unfold intS
  split
  · exact readS_len _ _ _
  · exact Nat.le_trans (failS_len _ _ _) (readS_len _ _ _)

set_option maxHeartbeats 400000 in
theorem int_any (eb : Nat) (Z : Nat → Prop) (A : Option Addr) (c : Nat) (l : List UInt8) (f most : Int) (w : World) (h : EyeAt w 132 eb Z A c l f) (hz : ¬ Z eb) (hm : most < 9223372036854775808) :
    Calls Try.prog 62 #[.pointer (some ⟨eb, 0, none⟩), .int .i64 most] w (IntTo w 132 eb Z (intS l f most)) := by
  by_cases h0 : 0 ≤ most
  · have e1 : intS l f most = readS l f most.toNat := by unfold intS; rw [if_pos h0]
    rw [e1]
    have hle := readS_le l f most.toNat
    have hn := eyeNum_any eb Z A c l f most.toNat w h hz
    rw [Int.toNat_of_nonneg h0] at hn
    have HN := Lib.hid hn
    clear hn e1
    generalize readS l f most.toNat = r at *
    obtain ⟨n, l', f'⟩ := r
    dsimp only at *
    go_enter Try.func62, Try.ntmps62
    go_wp2_with fail
    refine HN.out.mono ?_
    rintro e w1 ⟨rfl, h1⟩
    go_wp2_with fail
    go_ret
    exact ⟨rfl, h1⟩
  · have e1 : intS l f most = (0, failS (readS l f 0).2.1 (readS l f 0).2.2 13) := by unfold intS; rw [if_neg h0]
    rw [e1]
    have hn := eyeNum_any eb Z A c l f 0 w h hz
    have HN := Lib.hid hn
    clear hn e1
    generalize readS l f 0 = r at *
    obtain ⟨n, l', f'⟩ := r
    dsimp only at *
    go_enter Try.func62, Try.ntmps62
    go_wp2_with fail
    refine HN.out.mono ?_
    rintro e w1 ⟨rfl, h1⟩
    obtain ⟨A1, c1, ha1⟩ := h1.at_
    dsimp only at ha1
    go_wp2_with fail
    refine (fail_any eb Z A1 c1 l' f' 13 w1 ha1).mono ?_
    rintro e w2 ⟨rfl, h2⟩
    go_wp2_with fail
    go_ret
    exact ⟨rfl, h1.trans h2⟩

set_option maxHeartbeats 400000 in
theorem intR_any (eb : Nat) (Z : Nat → Prop) (A : Option Addr) (c : Nat) (l : List UInt8) (f most : Int) (w : World) (h : EyeAt w 109 eb Z A c l f) (hz : ¬ Z eb) (hm : most < 9223372036854775808) :
    Calls Try.prog 66 #[.pointer (some ⟨eb, 0, none⟩), .int .i64 most] w (IntTo w 109 eb Z (intS l f most)) := by
  by_cases h0 : 0 ≤ most
  · have e1 : intS l f most = readS l f most.toNat := by unfold intS; rw [if_pos h0]
    rw [e1]
    have hle := readS_le l f most.toNat
    have hn := eyeRead_any eb Z A c l f most.toNat w h hz
    rw [Int.toNat_of_nonneg h0] at hn
    have HN := Lib.hid hn
    clear hn e1
    generalize readS l f most.toNat = r at *
    obtain ⟨n, l', f'⟩ := r
    dsimp only at *
    go_enter Try.func66, Try.ntmps66
    go_wp2_with fail
    refine HN.out.mono ?_
    rintro e w1 ⟨rfl, h1⟩
    go_wp2_with fail
    go_ret
    exact ⟨rfl, h1⟩
  · have e1 : intS l f most = (0, failS (readS l f 0).2.1 (readS l f 0).2.2 13) := by unfold intS; rw [if_neg h0]
    rw [e1]
    have hn := eyeRead_any eb Z A c l f 0 w h hz
    have HN := Lib.hid hn
    clear hn e1
    generalize readS l f 0 = r at *
    obtain ⟨n, l', f'⟩ := r
    dsimp only at *
    go_enter Try.func66, Try.ntmps66
    go_wp2_with fail
    refine HN.out.mono ?_
    rintro e w1 ⟨rfl, h1⟩
    obtain ⟨A1, c1, ha1⟩ := h1.at_
    dsimp only at ha1
    go_wp2_with fail
    refine (failR_any eb Z A1 c1 l' f' 13 w1 ha1).mono ?_
    rintro e w2 ⟨rfl, h2⟩
    go_wp2_with fail
    go_ret
    exact ⟨rfl, h1.trans h2⟩


/-- a text is read -/
def textS (l : List UInt8) (f most : Int) : List UInt8 × List UInt8 × Int :=
  let r := intS l f most
  if r.2.2 ≠ 0 then ([], r.2.1, r.2.2) else if r.2.1.length < r.1 then ([], [], 11) else (r.2.1.take r.1, r.2.1.drop r.1, 0)

set_option maxHeartbeats 400000 in
theorem text_any (eb : Nat) (Z : Nat → Prop) (A : Option Addr) (c : Nat) (l : List UInt8) (f most : Int) (w : World) (h : EyeAt w 132 eb Z A c l f) (hz : ¬ Z eb) (hm : most < 9223372036854775808) (hl : l.length ≤ 140737488355328) :
    Calls Try.prog 89 #[.pointer (some ⟨eb, 0, none⟩), .int .i64 most] w fun e w' => ∃ (A' : Option Addr) (c' : Nat) (l' : List UInt8), e = .returned (.slice A' l'.length c') ∧ Hid (l' = (textS l f most).1) ∧ OwB w' w.heap.size (.slice A' l'.length c') l' ∧ EyeTo w 132 eb Z (textS l f most).2.1 (textS l f most).2.2 w' := by
  have hn := int_any eb Z A c l f most w h hz hm
  have HN := Lib.hid hn
  have hil := intS_len l f most
  clear hn
  unfold textS
  generalize intS l f most = r at *
  obtain ⟨n, l1, f1⟩ := r
  dsimp only at *
  by_cases hf : f1 = 0
  · subst hf
    by_cases hlt : l1.length < n
    · rw [if_neg (by simp), if_pos hlt]
      go_enter Try.func89, Try.ntmps89
      go_wp2_with fail
      refine HN.out.mono ?_
      rintro e w1 ⟨rfl, h1⟩
      obtain ⟨A1, c1, ha1⟩ := h1.at_
      have k1 := ha1.c1
      dsimp only at ha1 k1
      go_wp2_with fail
      refine (take_out eb Z A1 c1 l1 n w1 ha1 hlt).mono ?_
      rintro e w2 ⟨rfl, h2⟩
      go_wp2_with fail
      refine (clone_any none 0 [] (fun _ => True) w2 Rd.nil (by simp)).mono ?_
      rintro e w3 ⟨A3, c3, l3, rfl, hl3, ho3, hb3⟩
      go_wp2_with fail
      go_ret
      exact ⟨A3, c3, l3, rfl, hl3, own_base ho3 (fun g hg => Nat.le_trans (Nat.le_trans h1.fr.size h2.fr.size) (ho3.lt _ hg).1), (h1.trans h2).then_ hb3⟩
    · rw [if_neg (by simp), if_neg hlt]
      go_enter Try.func89, Try.ntmps89
      go_wp2_with fail
      refine HN.out.mono ?_
      rintro e w1 ⟨rfl, h1⟩
      obtain ⟨A1, c1, ha1⟩ := h1.at_
      have k1 := ha1.c1
      dsimp only at ha1 k1
      go_wp2_with fail
      refine (take_in eb Z A1 c1 l1 0 n w1 ha1 hz (by omega)).mono ?_
      rintro e w2 ⟨c2, rfl, hc2, hm2, h2⟩
      have hD : Rd w2 Z 1 A1 n ((l1.take n).map bv) := by
        have := (Rd.take ha1.2.1 (k := n) (by omega)).fr h2.fr (by rintro b _ hb rfl; exact hz hb)
        rw [Nat.mul_one, ← List.map_take] at this
        exact this
      have hDn : n = (l1.take n).length := by rw [List.length_take]; omega
      have HDn := Lib.hid hDn
      clear hDn
      go_wp2_with fail
      refine (clone_n A1 c2 n (l1.take n) _ w2 hD HDn.out (by rw [← HDn.out]; omega)).mono ?_
      rintro e w3 ⟨A3, c3, l3, rfl, hl3, ho3, hb3⟩
      go_wp2_with fail
      go_ret
      exact ⟨A3, c3, l3, rfl, hl3, own_base ho3 (fun g hg => Nat.le_trans (Nat.le_trans h1.fr.size h2.fr.size) (ho3.lt _ hg).1), (h1.trans h2).then_ hb3⟩
  · rw [if_pos hf]
    have hfb : (f1 != 0) = true := by simpa using hf
    go_enter Try.func89, Try.ntmps89
    go_wp2_with fail
    refine HN.out.mono ?_
    rintro e w1 ⟨rfl, h1⟩
    obtain ⟨A1, c1, ha1⟩ := h1.at_
    have k1 := ha1.c1
    dsimp only at ha1 k1
    go_wp2_with fail
    go_ret
    exact ⟨none, 0, [], rfl, rfl, OwB.nil _ _, h1⟩

set_option maxHeartbeats 400000 in
theorem textR_any (eb : Nat) (Z : Nat → Prop) (A : Option Addr) (c : Nat) (l : List UInt8) (f most : Int) (w : World) (h : EyeAt w 109 eb Z A c l f) (hz : ¬ Z eb) (hm : most < 9223372036854775808) :
    Calls Try.prog 69 #[.pointer (some ⟨eb, 0, none⟩), .int .i64 most] w fun e w' => ∃ (A' : Option Addr) (n' c' : Nat), e = .returned (.slice A' n' c') ∧ Hid (n' = (textS l f most).1.length) ∧ Rd w' Z 1 A' n' ((textS l f most).1.map bv) ∧ n' ≤ c' ∧ c' ≤ maxLen ∧ EyeTo w 109 eb Z (textS l f most).2.1 (textS l f most).2.2 w' := by
  have hn := intR_any eb Z A c l f most w h hz hm
  have HN := Lib.hid hn
  clear hn
  unfold textS
  generalize intS l f most = r at *
  obtain ⟨n, l1, f1⟩ := r
  dsimp only at *
  by_cases hf : f1 = 0
  · subst hf
    by_cases hlt : l1.length < n
    · rw [if_neg (by simp), if_pos hlt]
      go_enter Try.func69, Try.ntmps69
      go_wp2_with fail
      refine HN.out.mono ?_
      rintro e w1 ⟨rfl, h1⟩
      obtain ⟨A1, c1, ha1⟩ := h1.at_
      have k1 := ha1.c1
      have k0 := ha1.c0
      dsimp only at ha1 k1 k0
      go_wp2_with fail
      refine (failR_any eb Z A1 c1 l1 0 11 w1 ha1).mono ?_
      rintro e w2 ⟨rfl, h2⟩
      go_wp2_with fail
      go_ret
      exact ⟨none, 0, 0, rfl, rfl, Rd.nil, Nat.le_refl _, by simp [maxLen], h1.trans h2⟩
    · rw [if_neg (by simp), if_neg hlt]
      go_enter Try.func69, Try.ntmps69
      go_wp2_with fail
      refine HN.out.mono ?_
      rintro e w1 ⟨rfl, h1⟩
      obtain ⟨A1, c1, ha1⟩ := h1.at_
      have k1 := ha1.c1
      have k0 := ha1.c0
      have f0 := ha1.f0
      have hbd := ha1.bounds
      dsimp only at ha1 k1 k0 hbd
      have hcut := ha1.cut (n := n) (by omega) hz
      have hD : ∀ w2, EyeTo w1 109 eb Z (l1.drop n) 0 w2 → Rd w2 Z 1 A1 n ((l1.take n).map bv) := by
        intro w2 h2
        have := (Rd.take ha1.2.1 (k := n) (by omega)).fr h2.fr (by rintro b _ hb rfl; exact hz hb)
        rw [Nat.mul_one, ← List.map_take] at this
        exact this
      have HD := Lib.hid hD
      clear hD
      have hDn : n = (l1.take n).length := by rw [List.length_take]; omega
      have HDn := Lib.hid hDn
      clear hDn
      have hm2 : maxLen = 9223372036854775807 := rfl
      have HM := Lib.hid hm2
      clear hm2
      by_cases hcc : c1 = n
      · subst hcc
        rw [if_pos rfl, Nat.sub_self, show l1.length - c1 = 0 by omega] at hcut
        go_wp2_with fail
        go_ret
        exact ⟨A1, c1, c1, rfl, HDn, HD.out _ hcut, Nat.le_refl _, by rw [HM.out]; omega, h1.trans hcut⟩
      · rw [if_neg hcc] at hcut
        go_wp2_with fail
        go_ret
        exact ⟨A1, n, c1, rfl, HDn, HD.out _ hcut, by omega, by rw [HM.out]; omega, h1.trans hcut⟩
  · rw [if_pos hf]
    have hfb : (f1 != 0) = true := by simpa using hf
    go_enter Try.func69, Try.ntmps69
    go_wp2_with fail
    refine HN.out.mono ?_
    rintro e w1 ⟨rfl, h1⟩
    obtain ⟨A1, c1, ha1⟩ := h1.at_
    have k1 := ha1.c1
    dsimp only at ha1 k1
    go_wp2_with fail
    go_ret
    exact ⟨none, 0, 0, rfl, rfl, Rd.nil, Nat.le_refl _, by simp [maxLen], h1⟩
end Go.Proofs.Ytpbgcbpofhbgbaa
