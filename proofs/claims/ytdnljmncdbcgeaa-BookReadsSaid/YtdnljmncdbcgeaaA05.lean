/- grain.Eye and tenderref01.Eye: Int, Truth, Text; an eye that is none. -/
import Derived.Test.YtdnljmncdbcgeaaA04
import Derived.Maps.RangeWalk
import Derived.Sort.KeysCollected

namespace Go.Proofs.Ytdnljmncdbcgeaa
open Go.RowKit

theorem readS_le (l : List UInt8) (f : Int) (most : Nat) : (readS l f most).1 ≤ most := by
  by_cases hf : f = 0
  · subst hf
    rcases l with _ | ⟨x, r⟩
    · rw [readS_nil]; exact Nat.zero_le _
    · by_cases h1 : 8 < x.toNat
      · rw [readS_wide h1]; exact Nat.zero_le _
      · by_cases h2 : r.length < x.toNat
        · rw [readS_short h1 h2]; exact Nat.zero_le _
        · by_cases h3 : 0 < x.toNat ∧ r.getD 0 0 = 0
          · rw [readS_zero h1 h2 h3]; exact Nat.zero_le _
          · by_cases h4 : most < val (r.take x.toNat)
            · rw [readS_long h1 h2 h3 h4]; exact Nat.zero_le _
            · rw [readS_ok h1 h2 h3 h4]; dsimp only; omega
  · rw [readS_bad hf]; exact Nat.zero_le _
theorem readS_len (l : List UInt8) (f : Int) (most : Nat) : (readS l f most).2.1.length ≤ l.length := by
  by_cases hf : f = 0
  · subst hf
    rcases l with _ | ⟨x, r⟩
    · rw [readS_nil]; exact Nat.zero_le _
    · by_cases h1 : 8 < x.toNat
      · rw [readS_wide h1]; exact Nat.zero_le _
      · by_cases h2 : r.length < x.toNat
        · rw [readS_short h1 h2]; exact Nat.zero_le _
        · by_cases h3 : 0 < x.toNat ∧ r.getD 0 0 = 0
          · rw [readS_zero h1 h2 h3]; exact Nat.zero_le _
          · by_cases h4 : most < val (r.take x.toNat)
            · rw [readS_long h1 h2 h3 h4]; exact Nat.zero_le _
            · rw [readS_ok h1 h2 h3 h4]; simp; omega
  · rw [readS_bad hf]; exact Nat.le_refl _
theorem failS_len (l : List UInt8) (f code : Int) : (failS l f code).1.length ≤ l.length := by unfold failS; split <;> simp

theorem clone_n (A : Option Addr) (c n : Nat) (l : List UInt8) (Z : Nat → Prop) (w : World) (h : Rd w Z 1 A n (l.map bv)) (hn : n = l.length) (hlen : l.length ≤ 140737488355328) :
    Calls Try.prog 133 #[.slice A n c] w fun e w' => ∃ (A' : Option Addr) (c' : Nat) (l' : List UInt8), e = .returned (.slice A' l'.length c') ∧ Hid (l' = l) ∧ OwB w' w.heap.size (.slice A' l'.length c') l' ∧ Below w.heap.size w w' := by
  subst hn
  exact clone_any A c l Z w h hlen

/-- an int is read -/
def intS (l : List UInt8) (f : Int) (most : Int) : Nat × List UInt8 × Int :=
  if 0 ≤ most then readS l f most.toNat else (0, failS (readS l f 0).2.1 (readS l f 0).2.2 13)
def IntTo (w : World) (T eb : Nat) (Z : Nat → Prop) (r : Nat × List UInt8 × Int) (e : Ending) (w' : World) : Prop := e = .returned (.int .i64 (r.1 : Int)) ∧ EyeTo w T eb Z r.2.1 r.2.2 w'
theorem intS_len (l : List UInt8) (f most : Int) : (intS l f most).2.1.length ≤ l.length := by
  unfold intS
  split
  · exact readS_len _ _ _
  · exact Nat.le_trans (failS_len _ _ _) (readS_len _ _ _)

set_option maxHeartbeats 400000 in
theorem int_any (eb : Nat) (Z : Nat → Prop) (A : Option Addr) (c : Nat) (l : List UInt8) (f most : Int) (w : World) (h : EyeAt w 200 eb Z A c l f) (hz : ¬ Z eb) (hm : most < 9223372036854775808) :
    Calls Try.prog 87 #[.pointer (some ⟨eb, 0, none⟩), .int .i64 most] w (IntTo w 200 eb Z (intS l f most)) := by
  by_cases h0 : 0 ≤ most
  · have e1 : intS l f most = readS l f most.toNat := by unfold intS; rw [if_pos h0]
    rw [e1]
    have hle := readS_le l f most.toNat
    have hn := eyeNum_any eb Z A c l f most.toNat w h hz
    rw [Int.toNat_of_nonneg h0] at hn
    have HN := Lib.hid hn
    clear hn e1
    generalize readS l f most.toNat = r at *
    obtain ⟨n, l', f'⟩ := r
    dsimp only at *
    go_enter Try.func87, Try.ntmps87
    go_wp2_with fail
    refine HN.out.mono ?_
    rintro e w1 ⟨rfl, h1⟩
    go_wp2_with fail
    go_ret
    exact ⟨rfl, h1⟩
  · have e1 : intS l f most = (0, failS (readS l f 0).2.1 (readS l f 0).2.2 13) := by unfold intS; rw [if_neg h0]
    rw [e1]
    have hn := eyeNum_any eb Z A c l f 0 w h hz
    have HN := Lib.hid hn
    clear hn e1
    generalize readS l f 0 = r at *
    obtain ⟨n, l', f'⟩ := r
    dsimp only at *
    go_enter Try.func87, Try.ntmps87
    go_wp2_with fail
    refine HN.out.mono ?_
    rintro e w1 ⟨rfl, h1⟩
    obtain ⟨A1, c1, ha1⟩ := h1.at_
    dsimp only at ha1
    go_wp2_with fail
    refine (fail_any eb Z A1 c1 l' f' 13 w1 ha1).mono ?_
    rintro e w2 ⟨rfl, h2⟩
    go_wp2_with fail
    go_ret
    exact ⟨rfl, h1.trans h2⟩

set_option maxHeartbeats 400000 in
theorem intR_any (eb : Nat) (Z : Nat → Prop) (A : Option Addr) (c : Nat) (l : List UInt8) (f most : Int) (w : World) (h : EyeAt w 166 eb Z A c l f) (hz : ¬ Z eb) (hm : most < 9223372036854775808) :
    Calls Try.prog 93 #[.pointer (some ⟨eb, 0, none⟩), .int .i64 most] w (IntTo w 166 eb Z (intS l f most)) := by
  by_cases h0 : 0 ≤ most
  · have e1 : intS l f most = readS l f most.toNat := by unfold intS; rw [if_pos h0]
    rw [e1]
    have hle := readS_le l f most.toNat
    have hn := eyeRead_any eb Z A c l f most.toNat w h hz
    rw [Int.toNat_of_nonneg h0] at hn
    have HN := Lib.hid hn
    clear hn e1
    generalize readS l f most.toNat = r at *
    obtain ⟨n, l', f'⟩ := r
    dsimp only at *
    go_enter Try.func93, Try.ntmps93
    go_wp2_with fail
    refine HN.out.mono ?_
    rintro e w1 ⟨rfl, h1⟩
    go_wp2_with fail
    go_ret
    exact ⟨rfl, h1⟩
  · have e1 : intS l f most = (0, failS (readS l f 0).2.1 (readS l f 0).2.2 13) := by unfold intS; rw [if_neg h0]
    rw [e1]
    have hn := eyeRead_any eb Z A c l f 0 w h hz
    have HN := Lib.hid hn
    clear hn e1
    generalize readS l f 0 = r at *
    obtain ⟨n, l', f'⟩ := r
    dsimp only at *
    go_enter Try.func93, Try.ntmps93
    go_wp2_with fail
    refine HN.out.mono ?_
    rintro e w1 ⟨rfl, h1⟩
    obtain ⟨A1, c1, ha1⟩ := h1.at_
    dsimp only at ha1
    go_wp2_with fail
    refine (failR_any eb Z A1 c1 l' f' 13 w1 ha1).mono ?_
    rintro e w2 ⟨rfl, h2⟩
    go_wp2_with fail
    go_ret
    exact ⟨rfl, h1.trans h2⟩


/-- a text is read -/
def textS (l : List UInt8) (f most : Int) : List UInt8 × List UInt8 × Int :=
  let r := intS l f most
  if r.2.2 ≠ 0 then ([], r.2.1, r.2.2) else if r.2.1.length < r.1 then ([], [], 11) else (r.2.1.take r.1, r.2.1.drop r.1, 0)

set_option maxHeartbeats 400000 in
theorem text_any (eb : Nat) (Z : Nat → Prop) (A : Option Addr) (c : Nat) (l : List UInt8) (f most : Int) (w : World) (h : EyeAt w 200 eb Z A c l f) (hz : ¬ Z eb) (hm : most < 9223372036854775808) (hl : l.length ≤ 140737488355328) :
    Calls Try.prog 135 #[.pointer (some ⟨eb, 0, none⟩), .int .i64 most] w fun e w' => ∃ (A' : Option Addr) (c' : Nat) (l' : List UInt8), e = .returned (.slice A' l'.length c') ∧ Hid (l' = (textS l f most).1) ∧ OwB w' w.heap.size (.slice A' l'.length c') l' ∧ EyeTo w 200 eb Z (textS l f most).2.1 (textS l f most).2.2 w' := by
  have hn := int_any eb Z A c l f most w h hz hm
  have HN := Lib.hid hn
  have hil := intS_len l f most
  clear hn
  unfold textS
  generalize intS l f most = r at *
  obtain ⟨n, l1, f1⟩ := r
  dsimp only at *
  by_cases hf : f1 = 0
  · subst hf
    by_cases hlt : l1.length < n
    · rw [if_neg (by simp), if_pos hlt]
      go_enter Try.func135, Try.ntmps135
      go_wp2_with fail
      refine HN.out.mono ?_
      rintro e w1 ⟨rfl, h1⟩
      obtain ⟨A1, c1, ha1⟩ := h1.at_
      have k1 := ha1.c1
      dsimp only at ha1 k1
      go_wp2_with fail
      refine (take_out eb Z A1 c1 l1 n w1 ha1 hlt).mono ?_
      rintro e w2 ⟨rfl, h2⟩
      go_wp2_with fail
      refine (clone_any none 0 [] (fun _ => True) w2 Rd.nil (by simp)).mono ?_
      rintro e w3 ⟨A3, c3, l3, rfl, hl3, ho3, hb3⟩
      go_wp2_with fail
      go_ret
      exact ⟨A3, c3, l3, rfl, hl3, own_base ho3 (fun g hg => Nat.le_trans (Nat.le_trans h1.fr.size h2.fr.size) (ho3.lt _ hg).1), (h1.trans h2).then_ hb3⟩
    · rw [if_neg (by simp), if_neg hlt]
      go_enter Try.func135, Try.ntmps135
      go_wp2_with fail
      refine HN.out.mono ?_
      rintro e w1 ⟨rfl, h1⟩
      obtain ⟨A1, c1, ha1⟩ := h1.at_
      have k1 := ha1.c1
      dsimp only at ha1 k1
      go_wp2_with fail
      refine (take_in eb Z A1 c1 l1 0 n w1 ha1 hz (by omega)).mono ?_
      rintro e w2 ⟨c2, rfl, hc2, hm2, h2⟩
      have hD : Rd w2 Z 1 A1 n ((l1.take n).map bv) := by
        have := (Rd.take ha1.2.1 (k := n) (by omega)).fr h2.fr (by rintro b _ hb rfl; exact hz hb)
        rw [Nat.mul_one, ← List.map_take] at this
        exact this
      have hDn : n = (l1.take n).length := by rw [List.length_take]; omega
      have HDn := Lib.hid hDn
      clear hDn
      go_wp2_with fail
      refine (clone_n A1 c2 n (l1.take n) _ w2 hD HDn.out (by rw [← HDn.out]; omega)).mono ?_
      rintro e w3 ⟨A3, c3, l3, rfl, hl3, ho3, hb3⟩
      go_wp2_with fail
      go_ret
      exact ⟨A3, c3, l3, rfl, hl3, own_base ho3 (fun g hg => Nat.le_trans (Nat.le_trans h1.fr.size h2.fr.size) (ho3.lt _ hg).1), (h1.trans h2).then_ hb3⟩
  · rw [if_pos hf]
    have hfb : (f1 != 0) = true := by simpa using hf
    go_enter Try.func135, Try.ntmps135
    go_wp2_with fail
    refine HN.out.mono ?_
    rintro e w1 ⟨rfl, h1⟩
    obtain ⟨A1, c1, ha1⟩ := h1.at_
    have k1 := ha1.c1
    dsimp only at ha1 k1
    go_wp2_with fail
    go_ret
    exact ⟨none, 0, [], rfl, rfl, OwB.nil _ _, h1⟩

set_option maxHeartbeats 400000 in
theorem textR_any (eb : Nat) (Z : Nat → Prop) (A : Option Addr) (c : Nat) (l : List UInt8) (f most : Int) (w : World) (h : EyeAt w 166 eb Z A c l f) (hz : ¬ Z eb) (hm : most < 9223372036854775808) :
    Calls Try.prog 138 #[.pointer (some ⟨eb, 0, none⟩), .int .i64 most] w fun e w' => ∃ (A' : Option Addr) (n' c' : Nat), e = .returned (.slice A' n' c') ∧ Hid (n' = (textS l f most).1.length) ∧ Rd w' Z 1 A' n' ((textS l f most).1.map bv) ∧ n' ≤ c' ∧ c' ≤ maxLen ∧ EyeTo w 166 eb Z (textS l f most).2.1 (textS l f most).2.2 w' := by
  have hn := intR_any eb Z A c l f most w h hz hm
  have HN := Lib.hid hn
  clear hn
  unfold textS
  generalize intS l f most = r at *
  obtain ⟨n, l1, f1⟩ := r
  dsimp only at *
  by_cases hf : f1 = 0
  · subst hf
    by_cases hlt : l1.length < n
    · rw [if_neg (by simp), if_pos hlt]
      go_enter Try.func138, Try.ntmps138
      go_wp2_with fail
      refine HN.out.mono ?_
      rintro e w1 ⟨rfl, h1⟩
      obtain ⟨A1, c1, ha1⟩ := h1.at_
      have k1 := ha1.c1
      have k0 := ha1.c0
      dsimp only at ha1 k1 k0
      go_wp2_with fail
      refine (failR_any eb Z A1 c1 l1 0 11 w1 ha1).mono ?_
      rintro e w2 ⟨rfl, h2⟩
      go_wp2_with fail
      go_ret
      exact ⟨none, 0, 0, rfl, rfl, Rd.nil, Nat.le_refl _, by simp [maxLen], h1.trans h2⟩
    · rw [if_neg (by simp), if_neg hlt]
      go_enter Try.func138, Try.ntmps138
      go_wp2_with fail
      refine HN.out.mono ?_
      rintro e w1 ⟨rfl, h1⟩
      obtain ⟨A1, c1, ha1⟩ := h1.at_
      have k1 := ha1.c1
      have k0 := ha1.c0
      have f0 := ha1.f0
      have hbd := ha1.bounds
      dsimp only at ha1 k1 k0 hbd
      have hcut := ha1.cut (n := n) (by omega) hz
      have hD : ∀ w2, EyeTo w1 166 eb Z (l1.drop n) 0 w2 → Rd w2 Z 1 A1 n ((l1.take n).map bv) := by
        intro w2 h2
        have := (Rd.take ha1.2.1 (k := n) (by omega)).fr h2.fr (by rintro b _ hb rfl; exact hz hb)
        rw [Nat.mul_one, ← List.map_take] at this
        exact this
      have HD := Lib.hid hD
      clear hD
      have hDn : n = (l1.take n).length := by rw [List.length_take]; omega
      have HDn := Lib.hid hDn
      clear hDn
      have hm2 : maxLen = 9223372036854775807 := rfl
      have HM := Lib.hid hm2
      clear hm2
      by_cases hcc : c1 = n
      · subst hcc
        rw [if_pos rfl, Nat.sub_self, show l1.length - c1 = 0 by omega] at hcut
        go_wp2_with fail
        go_ret
        exact ⟨A1, c1, c1, rfl, HDn, HD.out _ hcut, Nat.le_refl _, by rw [HM.out]; omega, h1.trans hcut⟩
      · rw [if_neg hcc] at hcut
        go_wp2_with fail
        go_ret
        exact ⟨A1, n, c1, rfl, HDn, HD.out _ hcut, by omega, by rw [HM.out]; omega, h1.trans hcut⟩
  · rw [if_pos hf]
    have hfb : (f1 != 0) = true := by simpa using hf
    go_enter Try.func138, Try.ntmps138
    go_wp2_with fail
    refine HN.out.mono ?_
    rintro e w1 ⟨rfl, h1⟩
    obtain ⟨A1, c1, ha1⟩ := h1.at_
    have k1 := ha1.c1
    dsimp only at ha1 k1
    go_wp2_with fail
    go_ret
    exact ⟨none, 0, 0, rfl, rfl, Rd.nil, Nat.le_refl _, by simp [maxLen], h1⟩
end Go.Proofs.Ytdnljmncdbcgeaa

/- Two eyes on the same bytes: grain's and the document's. -/
namespace Go.Proofs.Ytdnljmncdbcgeaa
open Go.RowKit

/-- two eyes on old bytes, apart; below all is as in w0 -/
structure TwoE (w0 w : World) (e1 e2 : Nat) (L1 : List UInt8) (f1 : Int) (L2 : List UInt8) (f2 : Int) : Prop where
  a : ∃ A c, EyeAt w 200 e1 (fun b => b < w0.heap.size) A c L1 f1
  b : ∃ A c, EyeAt w 166 e2 (fun b => b < w0.heap.size) A c L2 f2
  low : Below w0.heap.size w0 w
  h1 : w0.heap.size ≤ e1
  h2 : w0.heap.size ≤ e2
  ne : e1 ≠ e2
  bs : w0.heap.size ≤ w.heap.size

theorem TwoE.mem {w0 w w' : World} {e1 e2 : Nat} {L1 L2 : List UInt8} {f1 f2 : Int} (h : TwoE w0 w e1 e2 L1 f1 L2 f2) (k : Below w.heap.size w w') : TwoE w0 w' e1 e2 L1 f1 L2 f2 := by
  obtain ⟨A, c, ha⟩ := h.a
  obtain ⟨B, d, hb⟩ := h.b
  exact ⟨⟨A, c, ha.below k⟩, ⟨B, d, hb.below k⟩, h.low.trans (k.mono h.bs), h.h1, h.h2, h.ne, Nat.le_trans h.bs k.size⟩
theorem TwoE.left {w0 w w' : World} {e1 e2 : Nat} {L1 L2 L : List UInt8} {f1 f2 f : Int} (h : TwoE w0 w e1 e2 L1 f1 L2 f2) (k : EyeTo w 200 e1 (fun b => b < w0.heap.size) L f w') : TwoE w0 w' e1 e2 L f L2 f2 := by
  obtain ⟨B, d, hb⟩ := h.b
  exact ⟨k.at_, ⟨B, d, hb.fr k.fr (fun e => h.ne e.symm) (fun b _ hz e => by have := h.h1; omega)⟩, h.low.trans (k.fr.below h.bs (fun x hx e => by have := h.h1; omega)), h.h1, h.h2, h.ne, Nat.le_trans h.bs k.fr.size⟩
theorem TwoE.right {w0 w w' : World} {e1 e2 : Nat} {L1 L2 L : List UInt8} {f1 f2 f : Int} (h : TwoE w0 w e1 e2 L1 f1 L2 f2) (k : EyeTo w 166 e2 (fun b => b < w0.heap.size) L f w') : TwoE w0 w' e1 e2 L1 f1 L f := by
  obtain ⟨B, d, hb⟩ := h.a
  exact ⟨⟨B, d, hb.fr k.fr h.ne (fun b _ hz e => by have := h.h2; omega)⟩, k.at_, h.low.trans (k.fr.below h.bs (fun x hx e => by have := h.h2; omega)), h.h1, h.h2, h.ne, Nat.le_trans h.bs k.fr.size⟩
theorem TwoE.z1 {w0 w : World} {e1 e2 : Nat} {L1 L2 : List UInt8} {f1 f2 : Int} (h : TwoE w0 w e1 e2 L1 f1 L2 f2) : ¬ (fun b => b < w0.heap.size) e1 := by have := h.h1; simp; omega
theorem TwoE.z2 {w0 w : World} {e1 e2 : Nat} {L1 L2 : List UInt8} {f1 f2 : Int} (h : TwoE w0 w e1 e2 L1 f1 L2 f2) : ¬ (fun b => b < w0.heap.size) e2 := by have := h.h2; simp; omega
theorem TwoE.drew {w0 w : World} {e1 e2 : Nat} {L1 L2 : List UInt8} {f1 f2 : Int} (h : TwoE w0 w e1 e2 L1 f1 L2 f2) : TwoE w0 w.drew e1 e2 L1 f1 L2 f2 := h.mem (Below.refl _ _).drew

theorem keep1 {w' w3 : World} {T eb bx o : Nat} {Z : Nat → Prop} {l : List UInt8} {f : Int} {u : Value} (hS : w'.cell? ⟨bx, o, none⟩ = some u) (h : EyeTo w' T eb Z l f w3) (hne : bx ≠ eb) : w3.cell? ⟨bx, o, none⟩ = some u :=
  (h.fr.cell (p := ⟨bx, o, none⟩) (World.block_lt_of_cell? w' ⟨bx, o, none⟩ hS) hne).trans hS

theorem textS_len (l : List UInt8) (f most : Int) : (textS l f most).2.1.length ≤ l.length := by
  have h := intS_len l f most
  unfold textS
  dsimp only
  split
  · exact h
  · split
    · exact Nat.zero_le _
    · simp; omega

theorem hB2 {W w' : World} {a : Addr} {u : Value} (hS : w'.cell? a = some u ∧ Below W.heap.size W w') : Below W.heap.size W w' := hS.2

theorem EyeAt.mono {w : World} {T eb : Nat} {Z Z' : Nat → Prop} {A : Option Addr} {c : Nat} {l : List UInt8} {f : Int} (h : EyeAt w T eb Z A c l f) (hz : ∀ b, b < w.heap.size → Z b → Z' b) : EyeAt w T eb Z' A c l f := ⟨h.1, h.2.1.mono hz, h.2.2⟩
theorem EyeTo.mono {w w' : World} {T eb : Nat} {Z Z' : Nat → Prop} {l : List UInt8} {f : Int} (h : EyeTo w T eb Z l f w') (hz : ∀ b, Z b → Z' b) : EyeTo w T eb Z' l f w' := by
  obtain ⟨A, c, ha⟩ := h.at_
  exact ⟨⟨A, c, ha.mono (fun b _ hb => hz b hb)⟩, h.fr⟩
/-- a store into a new block beside an eye -/
theorem EyeTo.side {a b c : World} {T eb bx : Nat} {Z : Nat → Prop} {l : List UInt8} {f : Int} (h : EyeTo a T eb Z l f b) (k : Fr (fun x => x = bx) b c) (hb : a.heap.size ≤ bx) (h1 : bx ≠ eb) (hz : ∀ x, Z x → x ≠ bx) : EyeTo a T eb Z l f c := by
  obtain ⟨A, c', ha⟩ := h.at_
  exact ⟨⟨A, c', ha.fr k (fun e => h1 e.symm) (fun x _ hx => hz x hx)⟩, h.fr.trans k (fun x hx e => by omega)⟩
/-- new memory ahead of an eye's method -/
theorem EyeTo.after {a b c : World} {T eb : Nat} {Z : Nat → Prop} {l : List UInt8} {f : Int} (k : Below a.heap.size a b) (h : EyeTo b T eb Z l f c) : EyeTo a T eb Z l f c :=
  ⟨h.at_, (Fr.of_below k _).trans h.fr (fun _ _ h => h)⟩
end Go.Proofs.Ytdnljmncdbcgeaa

/- leaf.Read, tenderref07.Read, tenderref07.Bytes. -/
namespace Go.Proofs.Ytdnljmncdbcgeaa
open Go.RowKit

/-- a leaf is read: its kind, its bytes, what is left, the fault -/
def leafS (l : List UInt8) (f : Int) : Nat × List UInt8 × List UInt8 × Int :=
  let r := intS l f 2
  let s := if r.1 = 1 then textS r.2.1 r.2.2 4096 else ([], r.2.1, r.2.2)
  if s.2.2 ≠ 0 then (0, [], s.2.1, s.2.2) else (r.1, s.1, s.2.1, s.2.2)
theorem leafS_len (l : List UInt8) (f : Int) : (leafS l f).2.2.1.length ≤ l.length := by
  have h1 := intS_len l f 2
  have h2 := textS_len (intS l f 2).2.1 (intS l f 2).2.2 4096
  unfold leafS
  dsimp only
  split
  · split <;> dsimp only <;> omega
  · split <;> dsimp only <;> omega

set_option maxHeartbeats 1000000 in
theorem leafRead_any (eb : Nat) (Z : Nat → Prop) (A : Option Addr) (c : Nat) (l : List UInt8) (f : Int) (w : World) (h : EyeAt w 200 eb Z A c l f) (hz : ¬ Z eb) (hl : l.length ≤ 140737488355328) :
    Calls Try.prog 136 #[.pointer (some ⟨eb, 0, none⟩)] w fun e w' => ∃ (A' : Option Addr) (c' : Nat) (l' : List UInt8), e = .returned (.agg #[.int .i64 ((leafS l f).1 : Int), .slice A' l'.length c']) ∧ Hid (l' = (leafS l f).2.1) ∧ OwB w' w.heap.size (.slice A' l'.length c') l' ∧ EyeTo w 200 eb Z (leafS l f).2.2.1 (leafS l f).2.2.2 w' := by
  have hzz : ∀ x, (fun b => Z b ∧ b < w.heap.size) x → Z x := fun x h => h.1
  have hzw : ∀ x, (fun b => Z b ∧ b < w.heap.size) x → x ≠ w.heap.size := fun x h e => by have := h.2; omega
  have hz : ¬ (fun b => Z b ∧ b < w.heap.size) eb := fun h => hz h.1
  replace h := h.mono (Z' := fun b => Z b ∧ b < w.heap.size) (fun b h1 h2 => ⟨h2, h1⟩)
  suffices hs : Calls Try.prog 136 #[.pointer (some ⟨eb, 0, none⟩)] w fun e w' => ∃ (A' : Option Addr) (c' : Nat) (l' : List UInt8), e = .returned (.agg #[.int .i64 ((leafS l f).1 : Int), .slice A' l'.length c']) ∧ Hid (l' = (leafS l f).2.1) ∧ OwB w' w.heap.size (.slice A' l'.length c') l' ∧ EyeTo w 200 eb (fun b => Z b ∧ b < w.heap.size) (leafS l f).2.2.1 (leafS l f).2.2.2 w' by
    refine hs.mono ?_
    rintro e w' ⟨A', c', l', h1, h2, h3, h4⟩
    exact ⟨A', c', l', h1, h2, h3, h4.mono hzz⟩
  clear hzz
  generalize hZ' : (fun b => Z b ∧ b < w.heap.size) = Y at *
  clear hZ'
  have hn := fun w (h : EyeAt w 200 eb Y A c l f) => int_any eb Y A c l f 2 w h hz (by omega)
  have HN := Lib.hid hn
  have hil := intS_len l f 2
  clear hn
  unfold leafS
  generalize intS l f 2 = r at *
  obtain ⟨n, l1, f1⟩ := r
  dsimp only at *
  have hlt := h.1.lt
  by_cases hn1 : n = 1
  · rw [if_pos hn1]
    subst hn1
    have htx := fun w A2 c2 h => text_any eb Y A2 c2 l1 f1 4096 w h hz (by omega) (by omega)
    have HTX := Lib.hid htx
    clear htx
    generalize textS l1 f1 4096 = r at *
    obtain ⟨t, l2, f2⟩ := r
    dsimp only at *
    by_cases hf : f2 = 0
    · subst hf
      rw [if_neg (by simp)]
      go_enter Try.func136, Try.ntmps136
      go_wp2_with fail
      have bx0 := Blk.new w 26 #[.int .i64 0, .slice none 0 0]
      have hlow0 : Below w.heap.size w (w.alloc (.cells #[.int .i64 0, .slice none 0 0] 26)) := (Below.refl _ _).alloc (Nat.le_refl _) _
      refine (HN.out _ (h.below hlow0)).mono ?_
      rintro e w1 ⟨rfl, h1⟩
      dsimp only at h1
      have hs1 := h1.fr.size
      simp at hs1
      have bx1 : Blk w1 w.heap.size 26 #[.int .i64 0, .slice none 0 0] := bx0.fr h1.fr (by omega)
      have ht1 := EyeTo.after hlow0 h1
      have bx2 : Blk (w1.setCell ⟨w.heap.size, 0, none⟩ (.int .i64 1)) w.heap.size 26 #[.int .i64 1, .slice none 0 0] := by simpa using bx1.set_ 0 (.int .i64 1)
      have hf2 : Fr (fun x => x = w.heap.size) w1 (w1.setCell ⟨w.heap.size, 0, none⟩ (.int .i64 1)) := (Fr.refl (fun x => x = w.heap.size) w1).setAt w.heap.size 0 rfl _
      have ht2 := ht1.side hf2 (Nat.le_refl _) (by omega) hzw
      have hs2 := hf2.size
      have q0 := bx1.cell 0
      have q1 := bx1.frozen 0
      have r0 : (w1.setCell ⟨w.heap.size, 0, none⟩ (.int .i64 1)).cell? ⟨w.heap.size, 0, none⟩ = some (.int .i64 1) := bx2.cell 0
      obtain ⟨A2, c2, ha2⟩ := ht2.at_
      clear h1 ht1 hf2 bx0 hlow0 HN
      go_wp2_with fail
      clear r0 q0 q1 bx1
      generalize w1.setCell ⟨w.heap.size, 0, none⟩ (.int .i64 1) = W1 at *
      refine (HTX.out W1 A2 c2 ha2).mono ?_
      rintro e w3 ⟨A4, c4, l4, rfl, hl4, ho4, ht4⟩
      have ht3 := ht2.trans ht4
      have bx3 : Blk w3 w.heap.size 26 #[.int .i64 1, .slice none 0 0] := bx2.fr ht4.fr (by omega)
      have bxW : Blk (w3.setCell ⟨w.heap.size, 1, none⟩ (.slice A4 l4.length c4)) w.heap.size 26 #[.int .i64 1, .slice A4 l4.length c4] := by simpa using bx3.set_ 1 (.slice A4 l4.length c4)
      have hfW : Fr (fun x => x = w.heap.size) w3 (w3.setCell ⟨w.heap.size, 1, none⟩ (.slice A4 l4.length c4)) := (Fr.refl (fun x => x = w.heap.size) w3).setAt w.heap.size 1 rfl _
      have hsW := bx2.lt
      have ht := ht3.side hfW (Nat.le_refl _) (by omega) hzw
      have ho : OwB (w3.setCell ⟨w.heap.size, 1, none⟩ (.slice A4 l4.length c4)) w.heap.size (.slice A4 l4.length c4) l4 := own_base (ho4.fr hfW (fun g hg e => by have := (ho4.lt g hg).1; omega)) (fun g hg => by have := (ho4.lt g hg).1; omega)
      have q0 := bx3.cell 1
      have q1 := bx3.frozen 1
      obtain ⟨A3, c3, ha3⟩ := ht.at_
      go_wp2_with fail
      clear q0 q1 bx3
      generalize w3.setCell ⟨w.heap.size, 1, none⟩ (.slice A4 l4.length c4) = W at *
      refine (fault_any eb Y A3 c3 l2 0 _ ha3).mono ?_
      rintro e w4 ⟨rfl, rfl⟩
      have d0 : W.cell? ⟨w.heap.size, 0, none⟩ = some (.int .i64 1) := bxW.cell 0
      have d1 : W.cell? ⟨w.heap.size, 1, none⟩ = some (.slice A4 l4.length c4) := bxW.cell 1
      have g0 := bxW.frozen 0
      have g1 := bxW.frozen 1
      go_wp2_with fail
      obtain ⟨bxV, hfV⟩ := Blk.two (x' := .int .i64 1) (y' := .slice A4 l4.length c4) bxW
      have htV := ht.side hfV (Nat.le_refl _) (by omega) hzw
      have hoV := ho.past bxW (by decide) hfV
      generalize (W.setCell ⟨w.heap.size, 0, none⟩ (.int .i64 1)).setCell ⟨w.heap.size, 1, none⟩ (.slice A4 l4.length c4) = V at *
      have x0 : V.cell? ⟨w.heap.size, 0, none⟩ = some (.int .i64 1) := bxV.cell 0
      have x1 : V.cell? ⟨w.heap.size, 1, none⟩ = some (.slice A4 l4.length c4) := bxV.cell 1
      refine bodyPost_ret (v := .agg #[.int .i64 1, .slice A4 l4.length c4]) (by simp [results, Try.results136, go_sem, x0, x1]) rfl ?_
      exact ⟨A4, c4, l4, rfl, hl4, hoV, htV⟩
    · rw [if_pos hf]
      have hfb : (f2 != 0) = true := by simpa using hf
      go_enter Try.func136, Try.ntmps136
      go_wp2_with fail
      have bx0 := Blk.new w 26 #[.int .i64 0, .slice none 0 0]
      have hlow0 : Below w.heap.size w (w.alloc (.cells #[.int .i64 0, .slice none 0 0] 26)) := (Below.refl _ _).alloc (Nat.le_refl _) _
      refine (HN.out _ (h.below hlow0)).mono ?_
      rintro e w1 ⟨rfl, h1⟩
      dsimp only at h1
      have hs1 := h1.fr.size
      simp at hs1
      have bx1 : Blk w1 w.heap.size 26 #[.int .i64 0, .slice none 0 0] := bx0.fr h1.fr (by omega)
      have ht1 := EyeTo.after hlow0 h1
      have bx2 : Blk (w1.setCell ⟨w.heap.size, 0, none⟩ (.int .i64 1)) w.heap.size 26 #[.int .i64 1, .slice none 0 0] := by simpa using bx1.set_ 0 (.int .i64 1)
      have hf2 : Fr (fun x => x = w.heap.size) w1 (w1.setCell ⟨w.heap.size, 0, none⟩ (.int .i64 1)) := (Fr.refl (fun x => x = w.heap.size) w1).setAt w.heap.size 0 rfl _
      have ht2 := ht1.side hf2 (Nat.le_refl _) (by omega) hzw
      have hs2 := hf2.size
      have q0 := bx1.cell 0
      have q1 := bx1.frozen 0
      have r0 : (w1.setCell ⟨w.heap.size, 0, none⟩ (.int .i64 1)).cell? ⟨w.heap.size, 0, none⟩ = some (.int .i64 1) := bx2.cell 0
      obtain ⟨A2, c2, ha2⟩ := ht2.at_
      clear h1 ht1 hf2 bx0 hlow0 HN
      go_wp2_with fail
      clear r0 q0 q1 bx1
      generalize w1.setCell ⟨w.heap.size, 0, none⟩ (.int .i64 1) = W1 at *
      refine (HTX.out W1 A2 c2 ha2).mono ?_
      rintro e w3 ⟨A4, c4, l4, rfl, hl4, ho4, ht4⟩
      have ht3 := ht2.trans ht4
      have bx3 : Blk w3 w.heap.size 26 #[.int .i64 1, .slice none 0 0] := bx2.fr ht4.fr (by omega)
      have bxW : Blk (w3.setCell ⟨w.heap.size, 1, none⟩ (.slice A4 l4.length c4)) w.heap.size 26 #[.int .i64 1, .slice A4 l4.length c4] := by simpa using bx3.set_ 1 (.slice A4 l4.length c4)
      have hfW : Fr (fun x => x = w.heap.size) w3 (w3.setCell ⟨w.heap.size, 1, none⟩ (.slice A4 l4.length c4)) := (Fr.refl (fun x => x = w.heap.size) w3).setAt w.heap.size 1 rfl _
      have hsW := bx2.lt
      have ht := ht3.side hfW (Nat.le_refl _) (by omega) hzw
      have ho : OwB (w3.setCell ⟨w.heap.size, 1, none⟩ (.slice A4 l4.length c4)) w.heap.size (.slice A4 l4.length c4) l4 := own_base (ho4.fr hfW (fun g hg e => by have := (ho4.lt g hg).1; omega)) (fun g hg => by have := (ho4.lt g hg).1; omega)
      have q0 := bx3.cell 1
      have q1 := bx3.frozen 1
      obtain ⟨A3, c3, ha3⟩ := ht.at_
      go_wp2_with fail
      clear q0 q1 bx3
      generalize w3.setCell ⟨w.heap.size, 1, none⟩ (.slice A4 l4.length c4) = W at *
      refine (fault_any eb Y A3 c3 l2 f2 _ ha3).mono ?_
      rintro e w4 ⟨rfl, rfl⟩
      have d0 := bxW.cell 0
      have d1 := bxW.cell 1
      have g0 := bxW.frozen 0
      have g1 := bxW.frozen 1
      go_wp2_with fail
      obtain ⟨bxV, hfV⟩ := Blk.two (x' := .int .i64 0) (y' := .slice none 0 0) bxW
      have htV := ht.side hfV (Nat.le_refl _) (by omega) hzw
      generalize (W.setCell ⟨w.heap.size, 0, none⟩ (.int .i64 0)).setCell ⟨w.heap.size, 1, none⟩ (.slice none 0 0) = V at *
      have x0 : V.cell? ⟨w.heap.size, 0, none⟩ = some (.int .i64 0) := bxV.cell 0
      have x1 : V.cell? ⟨w.heap.size, 1, none⟩ = some (.slice none 0 0) := bxV.cell 1
      refine bodyPost_ret (v := .agg #[.int .i64 0, .slice none 0 0]) (by simp [results, Try.results136, go_sem, x0, x1]) rfl ?_
      exact ⟨none, 0, [], rfl, rfl, OwB.nil _ _, htV⟩
  · rw [if_neg hn1]
    have hn1b : ((n : Int) == 1) = false := by rw [beq_eq_false_iff_ne]; omega
    dsimp only
    by_cases hf : f1 = 0
    · subst hf
      rw [if_neg (by simp)]
      go_enter Try.func136, Try.ntmps136
      go_wp2_with fail
      have bx0 := Blk.new w 26 #[.int .i64 0, .slice none 0 0]
      have hlow0 : Below w.heap.size w (w.alloc (.cells #[.int .i64 0, .slice none 0 0] 26)) := (Below.refl _ _).alloc (Nat.le_refl _) _
      refine (HN.out _ (h.below hlow0)).mono ?_
      rintro e w1 ⟨rfl, h1⟩
      dsimp only at h1
      have hs1 := h1.fr.size
      simp at hs1
      have bx1 : Blk w1 w.heap.size 26 #[.int .i64 0, .slice none 0 0] := bx0.fr h1.fr (by omega)
      have ht1 := EyeTo.after hlow0 h1
      have bx2 : Blk (w1.setCell ⟨w.heap.size, 0, none⟩ (.int .i64 n)) w.heap.size 26 #[.int .i64 n, .slice none 0 0] := by simpa using bx1.set_ 0 (.int .i64 n)
      have hf2 : Fr (fun x => x = w.heap.size) w1 (w1.setCell ⟨w.heap.size, 0, none⟩ (.int .i64 n)) := (Fr.refl (fun x => x = w.heap.size) w1).setAt w.heap.size 0 rfl _
      have ht2 := ht1.side hf2 (Nat.le_refl _) (by omega) hzw
      have hs2 := hf2.size
      have q0 := bx1.cell 0
      have q1 := bx1.frozen 0
      have r0 : (w1.setCell ⟨w.heap.size, 0, none⟩ (.int .i64 n)).cell? ⟨w.heap.size, 0, none⟩ = some (.int .i64 n) := bx2.cell 0
      obtain ⟨A2, c2, ha2⟩ := ht2.at_
      clear h1 ht1 hf2 bx0 hlow0 HN
      go_wp2_with fail
      clear r0 q0 q1 bx1
      generalize w1.setCell ⟨w.heap.size, 0, none⟩ (.int .i64 n) = W at *
      have bxW := bx2
      have ht := ht2
      refine (fault_any eb Y A2 c2 l1 0 _ ha2).mono ?_
      rintro e w4 ⟨rfl, rfl⟩
      have d0 : W.cell? ⟨w.heap.size, 0, none⟩ = some (.int .i64 n) := bxW.cell 0
      have d1 : W.cell? ⟨w.heap.size, 1, none⟩ = some (.slice none 0 0) := bxW.cell 1
      have g0 := bxW.frozen 0
      have g1 := bxW.frozen 1
      go_wp2_with fail
      obtain ⟨bxV, hfV⟩ := Blk.two (x' := .int .i64 n) (y' := .slice none 0 0) bxW
      have htV := ht.side hfV (Nat.le_refl _) (by omega) hzw
      generalize (W.setCell ⟨w.heap.size, 0, none⟩ (.int .i64 n)).setCell ⟨w.heap.size, 1, none⟩ (.slice none 0 0) = V at *
      have x0 : V.cell? ⟨w.heap.size, 0, none⟩ = some (.int .i64 n) := bxV.cell 0
      have x1 : V.cell? ⟨w.heap.size, 1, none⟩ = some (.slice none 0 0) := bxV.cell 1
      refine bodyPost_ret (v := .agg #[.int .i64 n, .slice none 0 0]) (by simp [results, Try.results136, go_sem, x0, x1]) rfl ?_
      exact ⟨none, 0, [], rfl, rfl, OwB.nil _ _, htV⟩
    · rw [if_pos hf]
      have hfb : (f1 != 0) = true := by simpa using hf
      go_enter Try.func136, Try.ntmps136
      go_wp2_with fail
      have bx0 := Blk.new w 26 #[.int .i64 0, .slice none 0 0]
      have hlow0 : Below w.heap.size w (w.alloc (.cells #[.int .i64 0, .slice none 0 0] 26)) := (Below.refl _ _).alloc (Nat.le_refl _) _
      refine (HN.out _ (h.below hlow0)).mono ?_
      rintro e w1 ⟨rfl, h1⟩
      dsimp only at h1
      have hs1 := h1.fr.size
      simp at hs1
      have bx1 : Blk w1 w.heap.size 26 #[.int .i64 0, .slice none 0 0] := bx0.fr h1.fr (by omega)
      have ht1 := EyeTo.after hlow0 h1
      have bx2 : Blk (w1.setCell ⟨w.heap.size, 0, none⟩ (.int .i64 n)) w.heap.size 26 #[.int .i64 n, .slice none 0 0] := by simpa using bx1.set_ 0 (.int .i64 n)
      have hf2 : Fr (fun x => x = w.heap.size) w1 (w1.setCell ⟨w.heap.size, 0, none⟩ (.int .i64 n)) := (Fr.refl (fun x => x = w.heap.size) w1).setAt w.heap.size 0 rfl _
      have ht2 := ht1.side hf2 (Nat.le_refl _) (by omega) hzw
      have hs2 := hf2.size
      have q0 := bx1.cell 0
      have q1 := bx1.frozen 0
      have r0 : (w1.setCell ⟨w.heap.size, 0, none⟩ (.int .i64 n)).cell? ⟨w.heap.size, 0, none⟩ = some (.int .i64 n) := bx2.cell 0
      obtain ⟨A2, c2, ha2⟩ := ht2.at_
      clear h1 ht1 hf2 bx0 hlow0 HN
      go_wp2_with fail
      clear r0 q0 q1 bx1
      generalize w1.setCell ⟨w.heap.size, 0, none⟩ (.int .i64 n) = W at *
      have bxW := bx2
      have ht := ht2
      refine (fault_any eb Y A2 c2 l1 f1 _ ha2).mono ?_
      rintro e w4 ⟨rfl, rfl⟩
      have d0 := bxW.cell 0
      have d1 := bxW.cell 1
      have g0 := bxW.frozen 0
      have g1 := bxW.frozen 1
      go_wp2_with fail
      obtain ⟨bxV, hfV⟩ := Blk.two (x' := .int .i64 0) (y' := .slice none 0 0) bxW
      have htV := ht.side hfV (Nat.le_refl _) (by omega) hzw
      generalize (W.setCell ⟨w.heap.size, 0, none⟩ (.int .i64 0)).setCell ⟨w.heap.size, 1, none⟩ (.slice none 0 0) = V at *
      have x0 : V.cell? ⟨w.heap.size, 0, none⟩ = some (.int .i64 0) := bxV.cell 0
      have x1 : V.cell? ⟨w.heap.size, 1, none⟩ = some (.slice none 0 0) := bxV.cell 1
      refine bodyPost_ret (v := .agg #[.int .i64 0, .slice none 0 0]) (by simp [results, Try.results136, go_sem, x0, x1]) rfl ?_
      exact ⟨none, 0, [], rfl, rfl, OwB.nil _ _, htV⟩
end Go.Proofs.Ytdnljmncdbcgeaa

/- entry.Read. -/
namespace Go.Proofs.Ytdnljmncdbcgeaa
open Go.RowKit

/-- what is read -/
structure ER where
  p : List UInt8
  n : Nat
  k : Nat
  t : List UInt8
  L : List UInt8
  f : Int
/-- an entry is read -/
def entS (l : List UInt8) (f : Int) : ER :=
  let r1 := textS l f 96
  let r2 := readS r1.2.1 r1.2.2 18446744073709551615
  let r3 := leafS r2.2.1 r2.2.2
  let r4 := if checkE r1.1 r2.1 r3.1 r3.2.1.length = 0 then (r3.2.2.1, r3.2.2.2) else failS r3.2.2.1 r3.2.2.2 2
  if r4.2 ≠ 0 then ⟨[], 0, 0, [], r4.1, r4.2⟩ else ⟨r1.1, r2.1, r3.1, r3.2.1, r4.1, r4.2⟩
theorem textS_tlen (l : List UInt8) (f most : Int) : (textS l f most).1.length ≤ l.length := by
  have h := intS_len l f most
  unfold textS
  dsimp only
  split
  · simp
  · split
    · simp
    · simp only [List.length_take]; omega
theorem leafS_tlen (l : List UInt8) (f : Int) : (leafS l f).2.1.length ≤ l.length := by
  have h1 := intS_len l f 2
  have h2 := textS_tlen (intS l f 2).2.1 (intS l f 2).2.2 4096
  unfold leafS
  dsimp only
  split
  · split <;> simp <;> omega
  · split <;> simp
theorem entS_len (l : List UInt8) (f : Int) : (entS l f).L.length ≤ l.length := by
  have h1 := textS_len l f 96
  have h2 := readS_len (textS l f 96).2.1 (textS l f 96).2.2 18446744073709551615
  have h3 := leafS_len (readS (textS l f 96).2.1 (textS l f 96).2.2 18446744073709551615).2.1 (readS (textS l f 96).2.1 (textS l f 96).2.2 18446744073709551615).2.2
  have h4 := failS_len (leafS (readS (textS l f 96).2.1 (textS l f 96).2.2 18446744073709551615).2.1 (readS (textS l f 96).2.1 (textS l f 96).2.2 18446744073709551615).2.2).2.2.1 (leafS (readS (textS l f 96).2.1 (textS l f 96).2.2 18446744073709551615).2.1 (readS (textS l f 96).2.1 (textS l f 96).2.2 18446744073709551615).2.2).2.2.2 2
  unfold entS
  dsimp only
  split <;> split <;> dsimp only <;> omega
/-- a box of the call's own, one cell stored -/
theorem box_set {w w1 : World} {T eb bx t o : Nat} {Y : Nat → Prop} {L : List UInt8} {f : Int} {cs : Array Value} (ht : EyeTo w T eb Y L f w1) (hb : Blk w1 bx t cs) (h1 : w.heap.size ≤ bx) (h2 : bx ≠ eb) (h3 : ∀ x, Y x → x ≠ bx) (u : Value) :
    EyeTo w T eb Y L f (w1.setCell ⟨bx, o, none⟩ u) ∧ Blk (w1.setCell ⟨bx, o, none⟩ u) bx t (cs.setIfInBounds o u) ∧ Fr (fun x => x = bx) w1 (w1.setCell ⟨bx, o, none⟩ u) :=
  have k : Fr (fun x => x = bx) w1 (w1.setCell ⟨bx, o, none⟩ u) := (Fr.refl (fun x => x = bx) w1).setAt bx o rfl _
  ⟨ht.side k h1 h2 h3, hb.set_ o u, k⟩

set_option maxRecDepth 100000 in
set_option maxHeartbeats 2000000 in
theorem entryRead_any (eb : Nat) (Z : Nat → Prop) (A : Option Addr) (c : Nat) (l : List UInt8) (f : Int) (w : World) (h : EyeAt w 200 eb Z A c l f) (hz : ¬ Z eb) (hl : l.length ≤ 140737488355328) :
    Calls Try.prog 89 #[.pointer (some ⟨eb, 0, none⟩)] w fun e w' => ∃ (p : ByteArray) (A' : Option Addr) (c' : Nat) (l' : List UInt8), e = .returned (.agg #[.string p, .int .u64 ((entS l f).n : Int), .int .i64 ((entS l f).k : Int), .slice A' l'.length c']) ∧ Hid (tl p = (entS l f).p) ∧ Hid (l' = (entS l f).t) ∧ OwB w' w.heap.size (.slice A' l'.length c') l' ∧ EyeTo w 200 eb Z (entS l f).L (entS l f).f w' := by
  have hzz : ∀ x, (fun b => Z b ∧ b < w.heap.size) x → Z x := fun x h => h.1
  have hzw : ∀ x, (fun b => Z b ∧ b < w.heap.size) x → x ≠ w.heap.size := fun x h e => by have := h.2; omega
  have hz : ¬ (fun b => Z b ∧ b < w.heap.size) eb := fun h => hz h.1
  replace h := h.mono (Z' := fun b => Z b ∧ b < w.heap.size) (fun b h1 h2 => ⟨h2, h1⟩)
  suffices hs : Calls Try.prog 89 #[.pointer (some ⟨eb, 0, none⟩)] w fun e w' => ∃ (p : ByteArray) (A' : Option Addr) (c' : Nat) (l' : List UInt8), e = .returned (.agg #[.string p, .int .u64 ((entS l f).n : Int), .int .i64 ((entS l f).k : Int), .slice A' l'.length c']) ∧ Hid (tl p = (entS l f).p) ∧ Hid (l' = (entS l f).t) ∧ OwB w' w.heap.size (.slice A' l'.length c') l' ∧ EyeTo w 200 eb (fun b => Z b ∧ b < w.heap.size) (entS l f).L (entS l f).f w' by
    refine hs.mono ?_
    rintro e w' ⟨p, A', c', l', h1, h2, h3, h4, h5⟩
    exact ⟨p, A', c', l', h1, h2, h3, h4, h5.mono hzz⟩
  clear hzz
  generalize hZ' : (fun b => Z b ∧ b < w.heap.size) = Y at *
  clear hZ'
  have hlt := h.1.lt
  -- the parts of what is read
  have HTX := Lib.hid (fun w h => text_any eb Y A c l f 96 w h hz (by omega) hl)
  have l1' := textS_len l f 96
  have l1t := textS_tlen l f 96
  unfold entS
  generalize textS l f 96 = r1 at *
  obtain ⟨t1, L1, f1⟩ := r1
  dsimp only at *
  have HNM := Lib.hid (fun w A c h => eyeNum_any eb Y A c L1 f1 18446744073709551615 w h hz)
  have l2' := readS_len L1 f1 18446744073709551615
  have n2 := readS_le L1 f1 18446744073709551615
  generalize readS L1 f1 18446744073709551615 = r2 at *
  obtain ⟨n, L2, f2⟩ := r2
  dsimp only at *
  have HLF := Lib.hid (fun w A c h => leafRead_any eb Y A c L2 f2 w h hz (by omega))
  have l3' := leafS_len L2 f2
  have l3t := leafS_tlen L2 f2
  generalize leafS L2 f2 = r3 at *
  obtain ⟨k, t3, L3, f3⟩ := r3
  dsimp only at *
  obtain ⟨M, hM⟩ : ∃ M, M = (if (if checkE t1 (n : Int) (k : Int) t3.length = 0 then (L3, f3) else failS L3 f3 2).2 ≠ 0 then (⟨[], 0, 0, [], (if checkE t1 (n : Int) (k : Int) t3.length = 0 then (L3, f3) else failS L3 f3 2).1, (if checkE t1 (n : Int) (k : Int) t3.length = 0 then (L3, f3) else failS L3 f3 2).2⟩ : ER) else ⟨t1, n, k, t3, (if checkE t1 (n : Int) (k : Int) t3.length = 0 then (L3, f3) else failS L3 f3 2).1, (if checkE t1 (n : Int) (k : Int) t3.length = 0 then (L3, f3) else failS L3 f3 2).2⟩) := ⟨_, rfl⟩
  rw [← hM]
  have HM := Lib.hid hM
  clear hM
  have bx0 := Blk.new w 28 #[.string ⟨#[]⟩, .int .u64 0, .int .i64 0, .slice none 0 0]
  have hlow0 : Below w.heap.size w (w.alloc (.cells #[.string ⟨#[]⟩, .int .u64 0, .int .i64 0, .slice none 0 0] 28)) := (Below.refl _ _).alloc (Nat.le_refl _) _
  have hz0 : (w.alloc (.cells #[.string ⟨#[]⟩, .int .u64 0, .int .i64 0, .slice none 0 0] 28)).heap.size = w.heap.size + 1 := by simp
  go_enter Try.func89, Try.ntmps89
  go_wp2_with fail
  generalize w.alloc (.cells #[.string ⟨#[]⟩, .int .u64 0, .int .i64 0, .slice none 0 0] 28) = W0 at *
  refine (HTX.out _ (h.below hlow0)).mono ?_
  rintro e w1 ⟨A1, c1, l1, rfl, hl1, ho1, h1⟩
  obtain rfl := hl1.out
  have hs1 := h1.fr.size
  have bx1 : Blk w1 w.heap.size 28 #[.string ⟨#[]⟩, .int .u64 0, .int .i64 0, .slice none 0 0] := bx0.fr h1.fr (by omega)
  have ht1 := EyeTo.after hlow0 h1
  have k1 := conv_by ho1.rd c1
  have hl1s : l1.length ≤ 140737488355328 := by omega
  have q0 : w1.cell? ⟨w.heap.size, 0, none⟩ = some (.string ⟨#[]⟩) := bx1.cell 0
  have q1 := bx1.frozen 0
  go_wp2_with fail
  obtain ⟨ht2, bx2, hf2⟩ := box_set (o := 0) ht1 bx1 (Nat.le_refl _) (by omega) hzw (.string ⟨l1.toArray⟩)
  have hs2 := hf2.size
  clear q0 q1 k1 bx0 hlow0 h1 ht1 HTX ho1
  generalize w1.setCell ⟨w.heap.size, 0, none⟩ (.string ⟨l1.toArray⟩) = W2 at *
  obtain ⟨A2, c2, ha2⟩ := ht2.at_
  refine (HNM.out _ A2 c2 ha2).mono ?_
  rintro e w3 ⟨rfl, h3⟩
  dsimp only at h3
  have ht3 := ht2.trans h3
  have bx3 := bx2.fr h3.fr (by omega)
  have hs3 := h3.fr.size
  have q0 := bx3.cell 1
  have q1 := bx3.frozen 1
  simp at q0
  go_wp2_with fail
  obtain ⟨ht4, bx4, hf4⟩ := box_set (o := 1) ht3 bx3 (Nat.le_refl _) (by omega) hzw (.int .u64 (n : Int))
  have hs4 := hf4.size
  clear q0 q1 bx2 h3 ht3 ht2 HNM hf2 ha2
  generalize w3.setCell ⟨w.heap.size, 1, none⟩ (.int .u64 (n : Int)) = W4 at *
  obtain ⟨A4, c4, ha4⟩ := ht4.at_
  refine (HLF.out _ A4 c4 ha4).mono ?_
  rintro e w5 ⟨A5, c5, l5, rfl, hl5, ho5, h5⟩
  obtain rfl := hl5.out
  have ht5 := ht4.trans h5
  have bx5 := bx4.fr h5.fr (by omega)
  have hs5 := h5.fr.size
  have hl5s : l5.length ≤ 140737488355328 := by omega
  have q2 := bx5.cell 2
  have q3 := bx5.cell 3
  have g2 := bx5.frozen 2
  have g3 := bx5.frozen 3
  simp at q2 q3
  obtain ⟨ht6, bx6, hf6⟩ := box_set (o := 2) ht5 bx5 (Nat.le_refl _) (by omega) hzw (.int .i64 (k : Int))
  obtain ⟨ht7, bx7, hf7⟩ := box_set (o := 3) ht6 bx6 (Nat.le_refl _) (by omega) hzw (.slice A5 l5.length c5)
  have ho7 := (ho5.fr hf6 (fun g hg e => by have := (ho5.lt g hg).1; omega)).fr hf7 (fun g hg e => by have := (ho5.lt g hg).1; omega)
  replace ho7 := own_base (base' := w.heap.size) ho7 (fun g hg => by have := (ho5.lt g hg).1; omega)
  have r0 := bx7.cell 0
  have r1 := bx7.cell 1
  have r2 := bx7.cell 2
  have r3 := bx7.cell 3
  simp at r0 r1 r2 r3
  go_wp2_with fail
  simp only [List.setIfInBounds_toArray] at bx7
  replace bx7 : Blk ((w5.setCell ⟨w.heap.size, 2, none⟩ (.int .i64 (k : Int))).setCell ⟨w.heap.size, 3, none⟩ (.slice A5 l5.length c5)) w.heap.size 28 #[.string ⟨l1.toArray⟩, .int .u64 (n : Int), .int .i64 (k : Int), .slice A5 l5.length c5] := bx7
  clear q2 q3 g2 g3 bx6 bx5 ht5 ht6 ht4 h5 HLF hf4 hf6 hf7 ha4 r0 r1 r2 r3 bx4 bx3
  generalize (w5.setCell ⟨w.heap.size, 2, none⟩ (.int .i64 (k : Int))).setCell ⟨w.heap.size, 3, none⟩ (.slice A5 l5.length c5) = W7 at *
  have HCK := Lib.hid (fun w => entryCheck_any ⟨l1.toArray⟩ (n : Int) (k : Int) A5 l5.length c5 w (by show l1.length ≤ _; omega) (by omega) hl5s)
  rw [show tl ⟨l1.toArray⟩ = l1 from rfl] at HCK
  by_cases hC : checkE l1 (n : Int) (k : Int) l5.length = 0
  · have hM1 : M = (if f3 ≠ 0 then ⟨[], 0, 0, [], L3, f3⟩ else ⟨l1, n, k, l5, L3, f3⟩) := by
      have h := HM.out
      rw [if_pos hC] at h
      exact h
    clear HM
    have HM := Lib.hid hM1
    clear hM1
    rw [hC] at HCK
    clear hC
    refine (HCK.out _).mono ?_
    rintro e w8 ⟨rfl, hb8⟩
    have ht8 := ht7.then_ hb8
    have bx8 := bx7.below hb8
    have ho8 := OwB.below ho7 hb8
    have hs8 := hb8.size
    obtain ⟨A8, c8, ha8⟩ := ht8.at_
    clear HCK ht7 bx7 ho7 hb8
    go_wp2_with fail
    refine (fault_any eb Y A8 c8 L3 f3 _ ha8).mono ?_
    rintro e w9 ⟨rfl, rfl⟩
    have r0 : w8.cell? ⟨w.heap.size, 0, none⟩ = some (.string ⟨l1.toArray⟩) := bx8.cell 0
    have r1 : w8.cell? ⟨w.heap.size, 1, none⟩ = some (.int .u64 (n : Int)) := bx8.cell 1
    have r2 : w8.cell? ⟨w.heap.size, 2, none⟩ = some (.int .i64 (k : Int)) := bx8.cell 2
    have r3 : w8.cell? ⟨w.heap.size, 3, none⟩ = some (.slice A5 l5.length c5) := bx8.cell 3
    have g0 := bx8.frozen 0
    have g1 := bx8.frozen 1
    have g2 := bx8.frozen 2
    have g3 := bx8.frozen 3
    have hbw := bx8.lt
    by_cases hf : f3 = 0
    · subst hf
      have HM2 := Lib.hid (HM.out.trans (if_neg (by simp)))
      clear HM
      go_wp2_with fail
      obtain ⟨v1, b1, f1'⟩ := box_set (o := 0) ht8 bx8 (Nat.le_refl _) (by omega) hzw (.string ⟨l1.toArray⟩)
      obtain ⟨v2, b2, f2'⟩ := box_set (o := 1) v1 b1 (Nat.le_refl _) (by omega) hzw (.int .u64 (n : Int))
      obtain ⟨v3, b3, f3'⟩ := box_set (o := 2) v2 b2 (Nat.le_refl _) (by omega) hzw (.int .i64 (k : Int))
      obtain ⟨v4, b4, f4'⟩ := box_set (o := 3) v3 b3 (Nat.le_refl _) (by omega) hzw (.slice A5 l5.length c5)
      have ho9 := (((ho8.past bx8 (by decide) f1').past b1 (by decide) f2').past b2 (by decide) f3').past b3 (by decide) f4'
      have d0 := b4.cell 0
      have d1 := b4.cell 1
      have d2 := b4.cell 2
      have d3 := b4.cell 3
      simp at d0 d1 d2 d3
      clear b1 b2 b3 b4 v1 v2 v3 f1' f2' f3' f4' r0 r1 r2 r3 g0 g1 g2 g3
      generalize (((w8.setCell ⟨w.heap.size, 0, none⟩ (.string ⟨l1.toArray⟩)).setCell ⟨w.heap.size, 1, none⟩ (.int .u64 (n : Int))).setCell ⟨w.heap.size, 2, none⟩ (.int .i64 (k : Int))).setCell ⟨w.heap.size, 3, none⟩ (.slice A5 l5.length c5) = V at *
      refine bodyPost_ret (v := .agg #[.string ⟨l1.toArray⟩, .int .u64 (n : Int), .int .i64 (k : Int), .slice A5 l5.length c5]) (by simp [results, Try.results89, go_sem, d0, d1, d2, d3]) rfl ?_
      rw [HM2.out]
      exact ⟨_, A5, c5, l5, rfl, Lib.hid rfl, Lib.hid rfl, ho9, v4⟩
    · have HM2 := Lib.hid (HM.out.trans (if_pos hf))
      clear HM
      have hfb : (f3 != 0) = true := by simpa using hf
      go_wp2_with fail
      obtain ⟨v1, b1, f1'⟩ := box_set (o := 0) ht8 bx8 (Nat.le_refl _) (by omega) hzw (.string ⟨#[]⟩)
      obtain ⟨v2, b2, f2'⟩ := box_set (o := 1) v1 b1 (Nat.le_refl _) (by omega) hzw (.int .u64 0)
      obtain ⟨v3, b3, f3'⟩ := box_set (o := 2) v2 b2 (Nat.le_refl _) (by omega) hzw (.int .i64 0)
      obtain ⟨v4, b4, f4'⟩ := box_set (o := 3) v3 b3 (Nat.le_refl _) (by omega) hzw (.slice none 0 0)
      have d0 := b4.cell 0
      have d1 := b4.cell 1
      have d2 := b4.cell 2
      have d3 := b4.cell 3
      simp at d0 d1 d2 d3
      clear b1 b2 b3 b4 v1 v2 v3 f1' f2' f3' f4' r0 r1 r2 r3 g0 g1 g2 g3
      generalize (((w8.setCell ⟨w.heap.size, 0, none⟩ (.string ⟨#[]⟩)).setCell ⟨w.heap.size, 1, none⟩ (.int .u64 0)).setCell ⟨w.heap.size, 2, none⟩ (.int .i64 0)).setCell ⟨w.heap.size, 3, none⟩ (.slice none 0 0) = V at *
      refine bodyPost_ret (v := .agg #[.string ⟨#[]⟩, .int .u64 0, .int .i64 0, .slice none 0 0]) (by simp [results, Try.results89, go_sem, d0, d1, d2, d3]) rfl ?_
      rw [HM2.out]
      exact ⟨_, none, 0, [], rfl, Lib.hid rfl, Lib.hid rfl, OwB.nil _ _, v4⟩
  · have hCb : (checkE l1 (n : Int) (k : Int) l5.length != 0) = true := by simpa using hC
    have hCe : (checkE l1 (n : Int) (k : Int) l5.length == 0) = false := by simpa using hC
    have hfl : (failS L3 f3 2).2 ≠ 0 := by unfold failS; split <;> simp_all
    have hM1 : M = ⟨[], 0, 0, [], (failS L3 f3 2).1, (failS L3 f3 2).2⟩ := by
      have h := HM.out
      rw [if_neg hC, if_pos hfl] at h
      exact h
    clear HM
    have HM2 := Lib.hid hM1
    clear hM1
    clear hC
    generalize checkE l1 (n : Int) (k : Int) l5.length = C at *
    refine (HCK.out _).mono ?_
    rintro e w8 ⟨rfl, hb8⟩
    have ht8 := ht7.then_ hb8
    have bx8 := bx7.below hb8
    have hs8 := hb8.size
    obtain ⟨A8, c8, ha8⟩ := ht8.at_
    clear HCK ht7 bx7 ho7 hb8
    go_wp2_with fail
    refine (fail_any eb Y A8 c8 L3 f3 2 _ ha8).mono ?_
    rintro e w9 ⟨rfl, h9⟩
    have ht9 := ht8.trans h9
    have bx9 := bx8.fr h9.fr (by have := bx8.lt; omega)
    have hs9 := h9.fr.size
    generalize failS L3 f3 2 = r4 at *
    obtain ⟨L4, f4⟩ := r4
    dsimp only at *
    obtain ⟨A9, c9, ha9⟩ := ht9.at_
    clear h9 ht8 bx8 ha8
    go_wp2_with fail
    refine (fault_any eb Y A9 c9 L4 f4 _ ha9).mono ?_
    rintro e w10 ⟨rfl, rfl⟩
    have r0 : w9.cell? ⟨w.heap.size, 0, none⟩ = some (.string ⟨l1.toArray⟩) := bx9.cell 0
    have r1 : w9.cell? ⟨w.heap.size, 1, none⟩ = some (.int .u64 (n : Int)) := bx9.cell 1
    have r2 : w9.cell? ⟨w.heap.size, 2, none⟩ = some (.int .i64 (k : Int)) := bx9.cell 2
    have r3 : w9.cell? ⟨w.heap.size, 3, none⟩ = some (.slice A5 l5.length c5) := bx9.cell 3
    have g0 := bx9.frozen 0
    have g1 := bx9.frozen 1
    have g2 := bx9.frozen 2
    have g3 := bx9.frozen 3
    have hfb : (f4 != 0) = true := by simpa using hfl
    go_wp2_with fail
    obtain ⟨v1, b1, f1'⟩ := box_set (o := 0) ht9 bx9 (Nat.le_refl _) (by omega) hzw (.string ⟨#[]⟩)
    obtain ⟨v2, b2, f2'⟩ := box_set (o := 1) v1 b1 (Nat.le_refl _) (by omega) hzw (.int .u64 0)
    obtain ⟨v3, b3, f3'⟩ := box_set (o := 2) v2 b2 (Nat.le_refl _) (by omega) hzw (.int .i64 0)
    obtain ⟨v4, b4, f4'⟩ := box_set (o := 3) v3 b3 (Nat.le_refl _) (by omega) hzw (.slice none 0 0)
    have d0 := b4.cell 0
    have d1 := b4.cell 1
    have d2 := b4.cell 2
    have d3 := b4.cell 3
    simp at d0 d1 d2 d3
    clear b1 b2 b3 b4 v1 v2 v3 f1' f2' f3' f4' r0 r1 r2 r3 g0 g1 g2 g3
    generalize (((w9.setCell ⟨w.heap.size, 0, none⟩ (.string ⟨#[]⟩)).setCell ⟨w.heap.size, 1, none⟩ (.int .u64 0)).setCell ⟨w.heap.size, 2, none⟩ (.int .i64 0)).setCell ⟨w.heap.size, 3, none⟩ (.slice none 0 0) = V at *
    refine bodyPost_ret (v := .agg #[.string ⟨#[]⟩, .int .u64 0, .int .i64 0, .slice none 0 0]) (by simp [results, Try.results89, go_sem, d0, d1, d2, d3]) rfl ?_
    rw [HM2.out]
    exact ⟨_, none, 0, [], rfl, Lib.hid rfl, Lib.hid rfl, OwB.nil _ _, v4⟩
end Go.Proofs.Ytdnljmncdbcgeaa

/- Rows of what stands at paths, in the paths' order: plain. No program. -/
namespace Go.Proofs.Ytdnljmncdbcgeaa

theorem ordT : Ord3 cmpT where
  rng _ _ := ordP.rng _ _
  flip _ _ := ordP.flip _ _
  eq := cmpT_eq
  trans _ _ _ h k := ordP.trans _ _ _ h k
theorem cmpT_self (a : List UInt8) : cmpT a a = 0 := (cmpT_eq a a).2 rfl
/-- not behind -/
def leT (x y : List UInt8) : Bool := !decide (cmpT y x < 0)
theorem leT_trans (a b c : List UInt8) (h : leT a b = true) (k : leT b c = true) : leT a c = true := by
  simp only [leT, Bool.not_eq_true', decide_eq_false_iff_not] at *
  intro hc
  have h1 := ordT.flip a b
  have h2 := ordT.flip b c
  have h3 := ordT.flip a c
  by_cases e : cmpT a b = 0
  · have := (cmpT_eq a b).1 e
    subst this
    omega
  · by_cases e2 : cmpT b c = 0
    · have := (cmpT_eq b c).1 e2
      subst this
      omega
    · have := ordT.trans a b c (by omega) (by omega)
      omega
theorem leT_total (a b : List UInt8) : (leT a b || leT b a) = true := by
  simp only [leT, Bool.or_eq_true, Bool.not_eq_true', decide_eq_false_iff_not]
  have h1 := ordT.flip a b
  omega
theorem leT_anti (a b : List UInt8) (h : leT a b = true) (k : leT b a = true) : a = b := by
  simp only [leT, Bool.not_eq_true', decide_eq_false_iff_not] at *
  have h1 := ordT.flip a b
  exact (cmpT_eq a b).1 (by omega)

theorem nodup_len : ∀ (a b : List (List UInt8)), a.Nodup → a ⊆ b → a.length ≤ b.length
  | [], _, _, _ => Nat.zero_le _
  | x :: a, b, h, hs => by
    have hx : x ∈ b := hs (by simp)
    have hc := List.nodup_cons.1 h
    have h1 := nodup_len a (b.erase x) hc.2 (fun y hy => (List.mem_erase_of_ne (fun (e : y = x) => hc.1 (by rw [← e]; exact hy))).2 (hs (by simp [hy])))
    have h2 := List.length_pos_of_mem hx
    rw [List.length_erase_of_mem hx] at h1
    simp only [List.length_cons]
    omega
section
variable {α : Type}
/-- what stands at a path -/
def getR (L : List (List UInt8 × α)) (p : List UInt8) : Option α := (L.find? fun x => x.1 == p).map (·.2)
def withoutR (L : List (List UInt8 × α)) (p : List UInt8) : List (List UInt8 × α) := L.filter fun x => !(x.1 == p)
def insR (p : List UInt8) (v : α) : List (List UInt8 × α) → List (List UInt8 × α)
  | [] => [(p, v)]
  | x :: L => if 0 < cmpT x.1 p then (p, v) :: x :: L else x :: insR p v L
def putR (L : List (List UInt8 × α)) (p : List UInt8) (v : α) : List (List UInt8 × α) := insR p v (withoutR L p)
def keysR (L : List (List UInt8 × α)) : List (List UInt8) := L.map (·.1)
/-- in the paths' order, no path twice -/
def SortR (L : List (List UInt8 × α)) : Prop := L.Pairwise fun a b => cmpT a.1 b.1 < 0

theorem getR_nil (p : List UInt8) : getR ([] : List (List UInt8 × α)) p = none := rfl
theorem getR_cons (x : List UInt8 × α) (L : List (List UInt8 × α)) (p : List UInt8) : getR (x :: L) p = if x.1 = p then some x.2 else getR L p := by
  unfold getR
  rw [List.find?_cons]
  by_cases h : x.1 = p
  · simp [h]
  · rw [show (x.1 == p) = false by simpa using h, if_neg h]
theorem getR_none {L : List (List UInt8 × α)} {p : List UInt8} : getR L p = none ↔ ∀ x ∈ L, x.1 ≠ p := by
  induction L with
  | nil => simp [getR_nil]
  | cons y L ih =>
    rw [getR_cons]
    split
    · rename_i h; simp [h]
    · rename_i h; simp [h, ih]
theorem getR_mem {L : List (List UInt8 × α)} {p : List UInt8} {v : α} (h : getR L p = some v) : (p, v) ∈ L := by
  induction L with
  | nil => simp [getR_nil] at h
  | cons y L ih =>
    rw [getR_cons] at h
    split at h
    · rename_i e; cases h; subst e; simp
    · exact List.mem_cons_of_mem _ (ih h)
theorem getR_isSome {L : List (List UInt8 × α)} {p : List UInt8} : (getR L p).isSome = true ↔ p ∈ keysR L := by
  constructor
  · intro h
    obtain ⟨v, hv⟩ := Option.isSome_iff_exists.1 h
    exact List.mem_map.2 ⟨(p, v), getR_mem hv, rfl⟩
  · intro h
    obtain ⟨x, hx, rfl⟩ := List.mem_map.1 h
    rcases hg : getR L x.1 with _ | v
    · exact absurd rfl (getR_none.1 hg x hx)
    · rfl
theorem SortR.get {L : List (List UInt8 × α)} (h : SortR L) {x : List UInt8 × α} (hx : x ∈ L) : getR L x.1 = some x.2 := by
  induction L with
  | nil => cases hx
  | cons y L ih =>
    rw [getR_cons]
    have hc := List.pairwise_cons.1 h
    rcases List.mem_cons.1 hx with rfl | hx
    · rw [if_pos rfl]
    · rw [if_neg, ih hc.2 hx]
      intro e
      have := hc.1 x hx
      rw [e, cmpT_self] at this
      omega
theorem SortR.nodup {L : List (List UInt8 × α)} (h : SortR L) : (keysR L).Nodup := by
  unfold keysR
  rw [List.nodup_iff_pairwise_ne, List.pairwise_map]
  exact h.imp fun hab e => by rw [e, cmpT_self] at hab; omega
theorem SortR.keys {L : List (List UInt8 × α)} (h : SortR L) : (keysR L).Pairwise fun a b => leT a b = true := by
  unfold keysR
  rw [List.pairwise_map]
  refine h.imp fun {a b} hab => ?_
  simp only [leT, Bool.not_eq_true', decide_eq_false_iff_not]
  have := ordT.flip a.1 b.1
  omega
/-- the paths, collected in whatever order, sorted -/
theorem sort_keys {L : List (List UInt8 × α)} (h : SortR L) (f : List UInt8 → Bool) {ss : List (List UInt8)} (hn : ss.Nodup) (hm : ∀ k, k ∈ ss ↔ (k ∈ keysR L ∧ f k = true)) : ss.mergeSort leT = (keysR L).filter f := by
  have hp : ss.Perm ((keysR L).filter f) := (List.perm_ext_iff_of_nodup hn (h.nodup.filter _)).2 fun k => by rw [hm, List.mem_filter]
  refine List.Perm.eq_of_pairwise (le := fun a b => leT a b = true) (fun a b _ _ h1 h2 => leT_anti a b h1 h2) (List.pairwise_mergeSort leT_trans leT_total ss) (h.keys.filter _) ((List.mergeSort_perm ss leT).trans hp)
theorem SortR.ext {L M : List (List UInt8 × α)} (h : SortR L) (k : SortR M) (e : ∀ p, getR L p = getR M p) : L = M := by
  have hp : (keysR L).Perm (keysR M) := (List.perm_ext_iff_of_nodup h.nodup k.nodup).2 fun p => by rw [← getR_isSome, ← getR_isSome, e]
  have hk : keysR L = keysR M := List.Perm.eq_of_pairwise (le := fun a b => leT a b = true) (fun a b _ _ h1 h2 => leT_anti a b h1 h2) h.keys k.keys hp
  have hl : L.length = M.length := by simpa [keysR] using congrArg List.length hk
  refine List.ext_getElem hl fun i h1 h2 => ?_
  have e1 : (L[i]).1 = (M[i]).1 := by
    have := congrArg (fun l => l[i]?) hk
    simpa [keysR, List.getElem?_map, List.getElem?_eq_getElem h1, List.getElem?_eq_getElem h2] using this
  have g1 := h.get (List.getElem_mem h1)
  have g2 := k.get (List.getElem_mem h2)
  rw [e, e1, g2] at g1
  exact Prod.ext e1 (by simpa using g1.symm)

theorem getR_without (L : List (List UInt8 × α)) (p k : List UInt8) : getR (withoutR L p) k = if k = p then none else getR L k := by
  induction L with
  | nil => simp [withoutR, getR_nil]
  | cons x L ih =>
    unfold withoutR at ih ⊢
    rw [List.filter_cons]
    by_cases h : x.1 = p
    · rw [if_neg (by simp [h]), ih, getR_cons]
      by_cases hk : k = p
      · rw [if_pos hk, if_pos hk]
      · rw [if_neg hk, if_neg hk, if_neg (by rw [h]; exact fun e => hk e.symm)]
    · rw [if_pos (by simp [h]), getR_cons, getR_cons, ih]
      by_cases hk : k = p
      · rw [if_pos hk, if_pos hk, if_neg (by rw [hk]; exact h)]
      · rw [if_neg hk, if_neg hk]
theorem SortR.without {L : List (List UInt8 × α)} (h : SortR L) (p : List UInt8) : SortR (withoutR L p) := List.Pairwise.filter _ h
theorem without_ne (L : List (List UInt8 × α)) (p : List UInt8) : ∀ x ∈ withoutR L p, x.1 ≠ p := by
  intro x hx
  have := (List.mem_filter.1 hx).2
  simpa using this
theorem mem_ins {p : List UInt8} {v : α} {L : List (List UInt8 × α)} {x : List UInt8 × α} : x ∈ insR p v L ↔ x = (p, v) ∨ x ∈ L := by
  induction L with
  | nil => simp [insR]
  | cons y L ih =>
    unfold insR
    split
    · simp
    · simp only [List.mem_cons, ih]
      exact ⟨fun h => by rcases h with h | h | h <;> simp [h], fun h => by rcases h with h | h | h <;> simp [h]⟩
theorem SortR.ins {p : List UInt8} {v : α} {L : List (List UInt8 × α)} (h : SortR L) (hn : ∀ x ∈ L, x.1 ≠ p) : SortR (insR p v L) := by
  induction L with
  | nil => simp [insR, SortR]
  | cons y L ih =>
    have hc := List.pairwise_cons.1 h
    have hf := ordT.flip y.1 p
    have hne : cmpT y.1 p ≠ 0 := fun e => hn y (by simp) ((cmpT_eq _ _).1 e)
    unfold insR
    split
    · rename_i h0
      refine List.pairwise_cons.2 ⟨fun x hx => ?_, h⟩
      rcases List.mem_cons.1 hx with rfl | hx
      · show cmpT p x.1 < 0
        omega
      · exact ordT.trans p y.1 x.1 (by omega) (hc.1 x hx)
    · rename_i h0
      refine List.pairwise_cons.2 ⟨fun x hx => ?_, ih hc.2 (fun x hx => hn x (by simp [hx]))⟩
      rcases mem_ins.1 hx with rfl | hx
      · show cmpT y.1 p < 0
        omega
      · exact hc.1 x hx
theorem getR_ins {p k : List UInt8} {v : α} {L : List (List UInt8 × α)} (hn : ∀ x ∈ L, x.1 ≠ p) : getR (insR p v L) k = if k = p then some v else getR L k := by
  induction L with
  | nil =>
    rw [insR, getR_cons]
    by_cases h : k = p
    · rw [if_pos h, if_pos h.symm]
    · rw [if_neg h, if_neg (fun e => h e.symm)]
  | cons y L ih =>
    unfold insR
    split
    · rw [getR_cons]
      by_cases h : k = p
      · rw [if_pos h, if_pos h.symm]
      · rw [if_neg h, if_neg (fun e => h e.symm)]
    · rw [getR_cons, getR_cons, ih (fun x hx => hn x (by simp [hx]))]
      by_cases h : k = p
      · rw [if_pos h, if_pos h, if_neg (by rw [h]; exact hn y (by simp))]
      · rw [if_neg h, if_neg h]
theorem getR_put (L : List (List UInt8 × α)) (p k : List UInt8) (v : α) : getR (putR L p v) k = if k = p then some v else getR L k := by
  unfold putR
  rw [getR_ins (without_ne L p), getR_without]
  by_cases h : k = p
  · rw [if_pos h, if_pos h]
  · rw [if_neg h, if_neg h, if_neg h]
theorem SortR.put {L : List (List UInt8 × α)} (h : SortR L) (p : List UInt8) (v : α) : SortR (putR L p v) := (h.without p).ins (without_ne L p)
theorem sortR_nil : SortR ([] : List (List UInt8 × α)) := List.Pairwise.nil
theorem ins_len (p : List UInt8) (v : α) : ∀ (L : List (List UInt8 × α)), (insR p v L).length = L.length + 1
  | [] => rfl
  | y :: L => by
    unfold insR
    split
    · rfl
    · simp [ins_len p v L]
theorem without_self {L : List (List UInt8 × α)} {p : List UInt8} (h : getR L p = none) : withoutR L p = L := by
  unfold withoutR
  rw [List.filter_eq_self]
  intro x hx
  have := getR_none.1 h x hx
  simp [this]
theorem without_len_le (L : List (List UInt8 × α)) (p : List UInt8) : (withoutR L p).length ≤ L.length := List.length_filter_le _ _
theorem SortR.without_len {L : List (List UInt8 × α)} (h : SortR L) {p : List UInt8} {v : α} (hg : getR L p = some v) : (withoutR L p).length + 1 = L.length := by
  have e : L = insR p v (withoutR L p) := h.ext ((h.without p).ins (without_ne L p)) fun k => by
    rw [getR_ins (without_ne L p), getR_without]
    by_cases hk : k = p
    · rw [if_pos hk, hk, hg]
    · rw [if_neg hk, if_neg hk]
  have := ins_len p v (withoutR L p)
  rw [← e] at this
  omega
theorem keys_len (L : List (List UInt8 × α)) : (keysR L).length = L.length := by simp [keysR]
/-- what is told of each is told of each -/
theorem getR_map {β : Type} (f : α → β) (L : List (List UInt8 × α)) (p : List UInt8) : getR (L.map fun x => (x.1, f x.2)) p = (getR L p).map f := by
  induction L with
  | nil => rfl
  | cons x L ih =>
    rw [List.map_cons, getR_cons, getR_cons, ih]
    by_cases h : x.1 = p
    · rw [if_pos h, if_pos h]; rfl
    · rw [if_neg h, if_neg h]
theorem without_map {β : Type} (f : α → β) (L : List (List UInt8 × α)) (p : List UInt8) : withoutR (L.map fun x => (x.1, f x.2)) p = (withoutR L p).map fun x => (x.1, f x.2) := by
  unfold withoutR
  rw [List.filter_map]
  rfl
theorem ins_map {β : Type} (f : α → β) (p : List UInt8) (v : α) : ∀ (L : List (List UInt8 × α)), insR p (f v) (L.map fun x => (x.1, f x.2)) = (insR p v L).map fun x => (x.1, f x.2)
  | [] => rfl
  | x :: L => by
    rw [List.map_cons, insR, insR]
    split
    · rfl
    · rw [ins_map f p v L]; rfl
theorem put_map {β : Type} (f : α → β) (L : List (List UInt8 × α)) (p : List UInt8) (v : α) : putR (L.map fun x => (x.1, f x.2)) p (f v) = (putR L p v).map fun x => (x.1, f x.2) := by
  unfold putR
  rw [without_map, ins_map]
theorem keys_map {β : Type} (f : α → β) (L : List (List UInt8 × α)) : keysR (L.map fun x => (x.1, f x.2)) = keysR L := by simp [keysR]
theorem sort_map {β : Type} (f : α → β) {L : List (List UInt8 × α)} : SortR (L.map fun x => (x.1, f x.2)) ↔ SortR L := by
  unfold SortR
  rw [List.pairwise_map]
end
end Go.Proofs.Ytdnljmncdbcgeaa

/- Maps keyed by texts, as rows in the paths' order: whatever the elements are. No program. -/
namespace Go.Proofs.Ytdnljmncdbcgeaa
open Go.Maps (Keyed string_keyed)
open Go.WideShapes Go.MapKept Go.ChangeMaps

/-- an element as it is -/
def heldR : Value → Option (DataW Value × List MemPlace) := fun v => some (.held v, [])
/-- what a map's datum tells at each text is what the row tells -/
def Tells (D : DataW Value) (L : List (List UInt8 × Value)) : Prop := ∀ p z, D.atKey (.string p) z = ((getR L p).map DataW.held).getD z
theorem Tells.has {D : DataW Value} {L : List (List UInt8 × Value)} (h : Tells D L) (p : List UInt8) : Go.Maps.has D (.string p) = (getR L p).isSome := by
  rcases hg : getR L p with _ | v
  · exact Go.Maps.has_false_of_atKey fun z => by rw [h, hg]; rfl
  · exact Go.Maps.has_true_of_atKey (y := .held v) fun z => by rw [h, hg]; rfl
theorem Tells.nil : Tells (.map []) [] := fun _ _ => rfl
theorem Tells.put {D : DataW Value} {L : List (List UInt8 × Value)} (h : Tells D L) (hD : Go.Maps.IsMap D) (p : List UInt8) (v : Value) : Tells (D.put (.string p) (.held v)) (putR L p v) := fun q z => by
  rw [getR_put]
  by_cases hq : q = p
  · subst hq
    rw [if_pos rfl, Go.Maps.atKey_put_same hD (k := .string q) (show WideAt.IsKeyLit (.string q) from trivial)]
    rfl
  · rw [if_neg hq, Go.Maps.atKey_put_other (by simpa using hq), h]
theorem Tells.del {D : DataW Value} {L : List (List UInt8 × Value)} (h : Tells D L) (p : List UInt8) : Tells (D.del (.string p)) (withoutR L p) := fun q z => by
  rw [getR_without]
  by_cases hq : q = p
  · subst hq
    rw [if_pos rfl, Go.Maps.atKey_del_same]
    rfl
  · rw [if_neg hq, Go.Maps.atKey_del_other (by simpa using hq), h]

section
variable {P : Program} {K : TypeId} {w w' : World} {b : Nat} {L : List (List UInt8 × Value)}
/-- block b is a map of type K's keys that has what the row has -/
structure MapAt (w : World) (P : Program) (K : TypeId) (b : Nat) (L : List (List UInt8 × Value)) : Prop where
  sort : SortR L
  own : ∃ D, w.ownsMap P K heldR b L.length D ∧ Tells D L
  len : ∀ x ∈ L, x.1.length ≤ maxLen

theorem own_shrink {H : Type} {R : Value → Option (DataW H × List MemPlace)} {n : Nat} {D : DataW H} (h : w.ownsMap P K R b n D) : w.ownsMap P K R b (Go.Maps.size D) D := by
  obtain ⟨es, clock, hb, F, _, rfl⟩ := h
  exact ⟨es, clock, hb, F, by rw [Go.Maps.size_eq, length_sorted]; simp, rfl⟩
/-- what the datum has are the row's paths -/
theorem own_keys {n : Nat} {D : DataW Value} (h : w.ownsMap P K heldR b n D) (hk : P.underlying K = some .string) (ht : Tells D L) (hs : SortR L) : (keysR L).Perm (strKeys D) ∧ Go.Maps.size D = L.length := by
  have law : Keyed P K := string_keyed hk
  obtain ⟨es, hD, hpw, _⟩ := h.entries law
  obtain ⟨es', hD', hko⟩ := h.keysOf
  obtain rfl : es = es' := by rw [hD] at hD'; simpa using hD'
  have hp : (keysR L).Perm (strKeys D) := by
    rw [hD]
    refine perm_strKeys hpw (fun p hp => by obtain ⟨v, hv⟩ := hko p hp; obtain ⟨x, _, hx, _⟩ := Maps.keyOf_str hk hv; exact ⟨x, hx⟩) hs.nodup fun x => ?_
    rw [← hD, ht.has, getR_isSome]
  refine ⟨hp, ?_⟩
  have := hp.length_eq
  rw [keys_len] at this
  rw [this, hD]
  simp [Go.Maps.size, strKeys]
theorem MapAt.of {n : Nat} {D : DataW Value} (h : w.ownsMap P K heldR b n D) (hk : P.underlying K = some .string) (ht : Tells D L) (hs : SortR L) : MapAt w P K b L := by
  obtain ⟨hp, hz⟩ := own_keys h hk ht hs
  refine ⟨hs, ⟨D, by rw [← hz]; exact own_shrink h, ht⟩, fun x hx => strKeys_le h hk _ (hp.mem_iff.1 (List.mem_map.2 ⟨x, hx, rfl⟩))⟩
theorem MapAt.lt (h : MapAt w P K b L) : b < w.heap.size := by
  obtain ⟨D, h1, _⟩ := h.own
  exact h1.lt
theorem MapAt.kept {row : Option Nat} (h : MapAt w P K b L) (hg : w.grownBy w' row) (hne : some b ≠ row) : MapAt w' P K b L := by
  obtain ⟨D, h1, h2⟩ := h.own
  exact ⟨h.sort, ⟨D, h1.kept hg hne, h2⟩, h.len⟩
theorem MapAt.block (h : MapAt w P K b L) (hb : w'.heap[b]? = w.heap[b]?) : MapAt w' P K b L := by
  obtain ⟨D, ⟨es, clock, h1, r⟩, h2⟩ := h.own
  exact ⟨h.sort, ⟨D, ⟨es, clock, hb.trans h1, r⟩, h2⟩, h.len⟩
/-- a new one -/
theorem MapAt.made (w : World) (P : Program) (K : TypeId) : MapAt (w.alloc (.map #[] 0)) P K w.heap.size [] := ⟨sortR_nil, ⟨_, World.ownsMap_made w P K heldR, Tells.nil⟩, by simp⟩
theorem MapAt.not_cells (h : MapAt w P K b L) {cs : Array Value} {t : TypeId} {f : Nat × Nat} : w.heap[b]? ≠ some (.cells cs t f) := by
  obtain ⟨D, ⟨es, clock, h1, _⟩, _⟩ := h.own
  rw [h1]
  simp

/-- m[k] -/
theorem MapAt.look (h : MapAt w P K b L) (hk : P.underlying K = some .string) {t e : TypeId} (ht : P.underlying t = some (.map K e)) {z : Value} (hz : (zeroValue e).run P w = .ok z w) (p : List UInt8) (hp : p.length ≤ maxLen) :
    (Instr.lookup t (.map (some b)) (.string ⟨⟨p⟩⟩) false).run P w = .ok ((getR L p).getD z) w := by
  obtain ⟨D, h1, h2⟩ := h.own
  obtain ⟨v, ps, hrun, hv⟩ := h1.lookup (string_keyed hk) ht hz (zd := .held z) (zp := []) rfl (Go.WideMaps.keyOf_string_mk hk (s := ⟨⟨p⟩⟩) hp)
  rw [hrun]
  have : DataW.held v = D.atKey (.string p) (.held z) := by simpa [heldR] using congrArg (fun o => o.map Prod.fst) hv
  rw [h2] at this
  congr 1
  rcases hg : getR L p with _ | u
  · rw [hg] at this; simpa using this
  · rw [hg] at this; simpa using this
theorem MapAt.look_ok (h : MapAt w P K b L) (hk : P.underlying K = some .string) {t e : TypeId} (ht : P.underlying t = some (.map K e)) {z : Value} (hz : (zeroValue e).run P w = .ok z w) (p : List UInt8) (hp : p.length ≤ maxLen) :
    (Instr.lookup t (.map (some b)) (.string ⟨⟨p⟩⟩) true).run P w = .ok (.tuple #[(getR L p).getD z, .bool (getR L p).isSome]) w := by
  obtain ⟨D, h1, h2⟩ := h.own
  obtain ⟨v, ps, hrun, hv⟩ := h1.look_ok (string_keyed hk) ht hz (zd := .held z) (zp := []) rfl (Go.WideMaps.keyOf_string_mk hk (s := ⟨⟨p⟩⟩) hp)
  rw [h2.has p] at hrun
  rw [hrun]
  have : DataW.held v = D.atKey (.string p) (.held z) := by simpa [heldR] using congrArg (fun o => o.map Prod.fst) hv
  rw [h2] at this
  have e : v = (getR L p).getD z := by
    rcases hg : getR L p with _ | u
    · rw [hg] at this; simpa using this
    · rw [hg] at this; simpa using this
  rw [e]
/-- m[k] = v -/
theorem MapAt.store (h : MapAt w P K b L) (hk : P.underlying K = some .string) {t e : TypeId} (ht : P.underlying t = some (.map K e)) (p : List UInt8) (hp : p.length ≤ maxLen) (v : Value) (hn : L.length < maxLen) :
    ∃ w', (Instr.mapUpdate t (.map (some b)) (.string ⟨⟨p⟩⟩) v).run P w = .ok () w' ∧ MapAt w' P K b (putR L p v) ∧ w.grownBy w' (some b) ∧ w'.heap.size = w.heap.size := by
  obtain ⟨D, h1, h2⟩ := h.own
  obtain ⟨w', hrun, r1, r2⟩ := h1.store (string_keyed hk) ht hn (Go.WideMaps.keyOf_string_mk hk (s := ⟨⟨p⟩⟩) hp) (val := v) (d := .held v) (ps := []) rfl
  refine ⟨w', hrun, MapAt.of r1 hk (h2.put h1.isMap p v) (h.sort.put p v), r2.grown, ?_⟩
  obtain ⟨_, _, es', clock', _, rfl⟩ := r2
  simp [setBlock]
/-- delete(m, k) -/
theorem MapAt.drop (h : MapAt w P K b L) (hk : P.underlying K = some .string) {t e : TypeId} (ht : P.underlying t = some (.map K e)) (p : List UInt8) (hp : p.length ≤ maxLen) (ty : TypeId) :
    ∃ w', (Builtin.delete_ #[t, K] ty #[.map (some b), .string ⟨⟨p⟩⟩]).run P w = .ok (.tuple #[]) w' ∧ MapAt w' P K b (withoutR L p) ∧ w.grownBy w' (some b) ∧ w'.heap.size = w.heap.size := by
  obtain ⟨D, h1, h2⟩ := h.own
  obtain ⟨w', hrun, r1, r2⟩ := h1.drop (string_keyed hk) ht (Go.WideMaps.keyOf_string_mk hk (s := ⟨⟨p⟩⟩) hp) ty
  refine ⟨w', hrun, MapAt.of r1 hk (h2.del p) (h.sort.without p), r2.grown, ?_⟩
  obtain ⟨_, _, es', clock', _, rfl⟩ := r2
  simp [setBlock]
/-- len(m) -/
theorem MapAt.count (h : MapAt w P K b L) (hk : P.underlying K = some .string) {t e : TypeId} (ht : P.underlying t = some (.map K e)) (ty : TypeId) : (Builtin.len_ #[t] ty #[.map (some b)]).run P w = .ok (.int .i64 L.length) w := by
  obtain ⟨D, h1, h2⟩ := h.own
  rw [h1.len ht ty, (own_keys h1 hk h2 h.sort).2]

/-- 'for k, v := range m' under way: what has come, in the order in which it came; nothing of the row comes twice -/
structure Rng (w : World) (P : Program) (K : TypeId) (b r : Nat) (L : List (List UInt8 × Value)) (seen : List (List UInt8)) (cnt : Nat) : Prop where
  sort : SortR L
  rng : ∃ D left, w.ranges P K heldR b r L.length D left cnt ∧ Tells D L ∧ Collected D left seen
  len : ∀ x ∈ L, x.1.length ≤ maxLen
theorem Rng.at_ {r cnt : Nat} {seen : List (List UInt8)} (h : Rng w P K b r L seen cnt) : MapAt w P K b L := by
  obtain ⟨D, left, h1, h2, _⟩ := h.rng
  exact ⟨h.sort, ⟨D, h1.owns, h2⟩, h.len⟩
theorem Rng.left_eq {r cnt : Nat} {seen : List (List UInt8)} (h : Rng w P K b r L seen cnt) : w.rangeLeft b r = cnt := by
  obtain ⟨D, left, h1, _⟩ := h.rng
  exact h1.left_eq
theorem Rng.lt {r cnt : Nat} {seen : List (List UInt8)} (h : Rng w P K b r L seen cnt) : r < w.heap.size := by
  obtain ⟨D, left, h1, _⟩ := h.rng
  exact h1.lt
theorem Rng.kept {r cnt : Nat} {seen : List (List UInt8)} {row : Option Nat} (h : Rng w P K b r L seen cnt) (hg : w.grownBy w' row) (hb : some b ≠ row) (hr : some r ≠ row) : Rng w' P K b r L seen cnt := by
  obtain ⟨D, left, h1, h2, h3⟩ := h.rng
  exact ⟨h.sort, ⟨D, left, h1.kept hg hb hr, h2, h3⟩, h.len⟩
theorem MapAt.range (h : MapAt w P K b L) (hk : P.underlying K = some .string) {t e : TypeId} (ht : P.underlying t = some (.map K e)) :
    ∃ w', (Instr.range t (.map (some b))).run P w = .ok (.pointer (some ⟨w.heap.size, 0, none⟩)) w' ∧ Rng w' P K b w.heap.size L [] L.length ∧ w.grownBy w' none ∧ w'.heap.size = w.heap.size + 1 := by
  obtain ⟨D, h1, h2⟩ := h.own
  obtain ⟨w', hrun, r1, r2, r3⟩ := h1.range (string_keyed hk) ht
  rw [(own_keys h1 hk h2 h.sort).2] at r1
  exact ⟨w', hrun, ⟨h.sort, ⟨D, _, r1, h2, Collected.start D⟩, h.len⟩, r2, r3⟩
/-- the step: nothing is left, and all has come; or something comes -/
theorem Rng.next {r cnt : Nat} {seen : List (List UInt8)} (h : Rng w P K b r L seen cnt) (hk : P.underlying K = some .string) (ty : TypeId) :
    ((Instr.next (.pointer (some ⟨r, 0, none⟩)) false ty).run P w = .ok (.tuple #[.bool false]) w ∧ cnt = 0 ∧ seen.Nodup ∧ ∀ k, k ∈ seen ↔ k ∈ keysR L) ∨
    ∃ (p : List UInt8) (v : Value) (w' : World) (cnt' : Nat), (p, v) ∈ L ∧ p ∉ seen ∧ (Instr.next (.pointer (some ⟨r, 0, none⟩)) false ty).run P w = .ok (.tuple #[.bool true, .string ⟨⟨p⟩⟩, v]) w' ∧ Rng w' P K b r L (seen ++ [p]) cnt' ∧ cnt' < cnt ∧ w.grownBy w' (some r) ∧ w'.heap.size = w.heap.size ∧
      (Instr.entry (.pointer (some ⟨r, 0, none⟩))).run P w' = .ok (.tuple #[.string ⟨⟨p⟩⟩, v]) w' := by
  obtain ⟨D, left, h1, h2, h3⟩ := h.rng
  rcases h1.next (string_keyed hk) ty with ⟨h0, hl, hrun⟩ | ⟨key, v, kl, y, w', cnt', hkey, hlk, hv, hat, hrun, hrg, hlt, hgr, hsz, hen⟩
  · refine .inl ⟨hrun, h0, h3.1, fun k => ?_⟩
    rw [h3.2 k, h2.has, getR_isSome, hl]
    simp
  · obtain ⟨p, rfl, rfl, hp⟩ := Maps.keyOf_str hk hkey
    obtain rfl : (DataW.held v, []) = y := by simpa [heldR] using hv
    have hg : getR L p = some v := by
      have := hat .nil
      rw [h2] at this
      rcases hq : getR L p with _ | u
      · rw [hq] at this; simp at this
      · rw [hq] at this; simpa using this
    refine .inr ⟨p, v, w', cnt', getR_mem hg, fun hx => ?_, hrun, ⟨h.sort, ⟨D, _, hrg, h2, h3.step hlk hat⟩, h.len⟩, hlt, hgr, hsz, hen⟩
    have := ((h3.2 p).1 hx).2
    rw [hlk] at this
    cases this
end
end Go.Proofs.Ytdnljmncdbcgeaa

/- A book, plainly: which entry is spare, what Put answers and leaves. No program. -/
namespace Go.Proofs.Ytdnljmncdbcgeaa

/-- an entry, plainly: version, kind, bytes -/
abbrev EP := Int × Int × List UInt8
/-- the entry of nothing of the least version, the first of them -/
def spareB : List (List UInt8 × EP) → Option (List UInt8 × EP)
  | [] => none
  | x :: l => match spareB l with
    | none => if x.2.2.1 = 0 then some x else none
    | some y => if x.2.2.1 = 0 ∧ x.2.1 ≤ y.2.1 then some x else some y
/-- one is ahead of the other -/
def aheadB (x y : List UInt8 × EP) : Prop := x.2.1 < y.2.1 ∨ (x.2.1 = y.2.1 ∧ cmpT x.1 y.1 < 0)
theorem spareB_none : ∀ {T : List (List UInt8 × EP)}, spareB T = none → ∀ y ∈ T, y.2.2.1 ≠ 0
  | [], _, y, hy => by cases hy
  | x :: l, h, y, hy => by
    unfold spareB at h
    rcases hs : spareB l with _ | z
    · rw [hs] at h
      dsimp only at h
      split at h
      · cases h
      · rename_i hx
        rcases List.mem_cons.1 hy with rfl | hy
        · exact hx
        · exact spareB_none hs y hy
    · rw [hs] at h
      dsimp only at h
      split at h <;> cases h
theorem spareB_mem : ∀ {T : List (List UInt8 × EP)} {x : List UInt8 × EP}, spareB T = some x → x ∈ T ∧ x.2.2.1 = 0
  | [], _, h => by cases h
  | y :: l, x, h => by
    unfold spareB at h
    rcases hs : spareB l with _ | z
    · rw [hs] at h
      dsimp only at h
      split at h
      · rename_i hx
        injection h with h
        subst h
        exact ⟨List.mem_cons_self, hx⟩
      · cases h
    · rw [hs] at h
      dsimp only at h
      split at h
      · rename_i hx
        injection h with h
        subst h
        exact ⟨List.mem_cons_self, hx.1⟩
      · injection h with h
        subst h
        obtain ⟨h1, h2⟩ := spareB_mem hs
        exact ⟨List.mem_cons_of_mem _ h1, h2⟩
theorem spareB_least : ∀ {T : List (List UInt8 × EP)} {x : List UInt8 × EP}, SortR T → spareB T = some x → ∀ y ∈ T, y.2.2.1 = 0 → y = x ∨ aheadB x y
  | [], _, _, h, _, _, _ => by cases h
  | z :: l, x, hT, h, y, hy, h0 => by
    unfold SortR at hT
    rw [List.pairwise_cons] at hT
    unfold spareB at h
    rcases hs : spareB l with _ | q
    · rw [hs] at h
      dsimp only at h
      split at h
      · injection h with h
        subst h
        rcases List.mem_cons.1 hy with rfl | hy
        · exact .inl rfl
        · exact absurd h0 (spareB_none hs y hy)
      · cases h
    · rw [hs] at h
      dsimp only at h
      obtain ⟨hq, _⟩ := spareB_mem hs
      have ih := fun y hy h0 => spareB_least (x := q) hT.2 hs y hy h0
      split at h
      · rename_i hz
        injection h with h
        subst h
        rcases List.mem_cons.1 hy with rfl | hy
        · exact .inl rfl
        · refine .inr ?_
          have hzy := hT.1 y hy
          rcases ih y hy h0 with rfl | hh | ⟨e, _⟩
          · unfold aheadB
            by_cases e : z.2.1 = y.2.1
            · exact .inr ⟨e, hzy⟩
            · exact .inl (by omega)
          · exact .inl (by omega)
          · unfold aheadB
            by_cases e2 : z.2.1 = y.2.1
            · exact .inr ⟨e2, hzy⟩
            · exact .inl (by omega)
      · rename_i hz
        injection h with h
        subst h
        rcases List.mem_cons.1 hy with rfl | hy
        · refine .inr (.inl ?_)
          have : ¬ (y.2.1 ≤ q.2.1) := fun e => hz ⟨h0, e⟩
          omega
        · exact ih y hy h0
theorem spareB_snoc (x : List UInt8 × EP) : ∀ T : List (List UInt8 × EP), spareB (T ++ [x]) = match spareB T with
    | none => if x.2.2.1 = 0 then some x else none
    | some y => if x.2.2.1 = 0 ∧ x.2.1 < y.2.1 then some x else some y
  | [] => rfl
  | z :: T => by
    have ih := spareB_snoc x T
    rw [List.cons_append, spareB, spareB, ih]
    rcases spareB T with _ | q
    · dsimp only
      by_cases h1 : x.2.2.1 = 0
      · by_cases h2 : z.2.2.1 = 0
        · by_cases h3 : z.2.1 ≤ x.2.1
          · simp [h1, h2, h3, Int.not_lt.2 h3]
          · simp [h1, h2, h3, Int.not_le.1 h3]
        · simp [h1, h2]
      · by_cases h2 : z.2.2.1 = 0 <;> simp [h1, h2]
    · dsimp only
      by_cases h1 : x.2.2.1 = 0 ∧ x.2.1 < q.2.1
      · by_cases h2 : z.2.2.1 = 0
        · by_cases h3 : z.2.1 ≤ x.2.1
          · have h4 : z.2.1 ≤ q.2.1 := by omega
            simp [h1, h2, h3, h4, Int.not_lt.2 h3]
          · by_cases h4 : z.2.1 ≤ q.2.1
            · simp [h1, h2, h3, h4, Int.not_le.1 h3]
            · simp [h1, h2, h3, h4]
        · simp [h1, h2]
      · rw [if_neg h1]
        by_cases h2 : z.2.2.1 = 0 ∧ z.2.1 ≤ q.2.1
        · simp only [if_pos h2]
          have : ¬ (x.2.2.1 = 0 ∧ x.2.1 < z.2.1) := fun ⟨e1, e2⟩ => h1 ⟨e1, by omega⟩
          rw [if_neg this]
        · simp only [if_neg h2, if_neg h1]
theorem aheadB_asymm {x y : List UInt8 × EP} (h : aheadB x y) (k : aheadB y x) : False := by
  unfold aheadB at h k
  have := ordT.flip x.1 y.1
  omega
theorem aheadB_trans {x y z : List UInt8 × EP} (h : aheadB x y) (k : aheadB y z) : aheadB x z := by
  unfold aheadB at *
  rcases h with h | ⟨h1, h2⟩
  · rcases k with k | ⟨k1, _⟩
    · exact .inl (by omega)
    · exact .inl (by omega)
  · rcases k with k | ⟨k1, k2⟩
    · exact .inl (by omega)
    · exact .inr ⟨by omega, ordT.trans _ _ _ h2 k2⟩
theorem aheadB_total (x y : List UInt8 × EP) (h : x.1 ≠ y.1) : aheadB x y ∨ aheadB y x := by
  unfold aheadB
  have h1 := ordT.flip x.1 y.1
  have h2 := cmpT_eq x.1 y.1
  by_cases e : x.2.1 = y.2.1
  · by_cases e2 : cmpT x.1 y.1 < 0
    · exact .inl (.inr ⟨e, e2⟩)
    · have e3 : cmpT x.1 y.1 ≠ 0 := fun e => h (h2.1 e)
      exact .inr (.inr ⟨e.symm, by omega⟩)
  · by_cases e2 : x.2.1 < y.2.1
    · exact .inl (.inl e2)
    · exact .inr (.inl (by omega))
/-- the least one is the spare one -/
theorem spareB_of {T : List (List UInt8 × EP)} {x : List UInt8 × EP} (hT : SortR T) (hx : x ∈ T) (h0 : x.2.2.1 = 0) (hl : ∀ y ∈ T, y.2.2.1 = 0 → y = x ∨ aheadB x y) : spareB T = some x := by
  rcases hs : spareB T with _ | z
  · exact absurd h0 (spareB_none hs x hx)
  · obtain ⟨hz, hz0⟩ := spareB_mem hs
    rcases hl z hz hz0 with rfl | h1
    · rfl
    · rcases spareB_least hT hs x hx h0 with rfl | h2
      · rfl
      · exact (aheadB_asymm h1 h2).elim
/-- what Put answers, and what it leaves; chk: what Check says of the entry -/
def putB (T : List (List UInt8 × EP)) (p : List UInt8) (x : EP) (chk : Int) : List (List UInt8 × EP) × Int :=
  if chk ≠ 0 then (T, chk)
  else if x.1 ≤ ((getR T p).map (·.1)).getD 0 then (T, 31)
  else if (getR T p).isNone = true ∧ 256 ≤ T.length then
    (spareB T).elim (T, 24) fun y => (putR (withoutR T y.1) p x, 0)
  else (putR T p x, 0)
end Go.Proofs.Ytdnljmncdbcgeaa
