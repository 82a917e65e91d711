/- grain.Eye: Fail, take. -/
import Derived.Test.YtdnljmncdbcgeaaGreatA04

namespace Go.Proofs.YtdnljmncdbcgeaaGreat
open Go.RowKit

/-- The eye at block eb (of struct type T) has the bytes l and the fault f; the bytes lie in Z. -/
def EyeAt (w : World) (T eb : Nat) (Z : Nat → Prop) (A : Option Addr) (c : Nat) (l : List UInt8) (f : Int) : Prop :=
  Blk w eb T #[.slice A l.length c, .int .i64 f] ∧ By w Z A l ∧ l.length ≤ c ∧ c ≤ maxLen
/-- what a method leaves: only the eye has turned -/
structure EyeTo (w : World) (T eb : Nat) (Z : Nat → Prop) (l : List UInt8) (f : Int) (w' : World) : Prop where
  at_ : ∃ A c, EyeAt w' T eb Z A c l f
  fr : Fr (fun k => k = eb) w w'

theorem EyeAt.c0 {w : World} {T eb : Nat} {Z : Nat → Prop} {A : Option Addr} {c : Nat} {l : List UInt8} {f : Int} (h : EyeAt w T eb Z A c l f) : w.cell? ⟨eb, 0, none⟩ = some (.slice A l.length c) := h.1.cell 0
theorem EyeAt.c1 {w : World} {T eb : Nat} {Z : Nat → Prop} {A : Option Addr} {c : Nat} {l : List UInt8} {f : Int} (h : EyeAt w T eb Z A c l f) : w.cell? ⟨eb, 1, none⟩ = some (.int .i64 f) := h.1.cell 1
theorem EyeAt.f0 {w : World} {T eb : Nat} {Z : Nat → Prop} {A : Option Addr} {c : Nat} {l : List UInt8} {f : Int} (h : EyeAt w T eb Z A c l f) : w.frozen? ⟨eb, 0, none⟩ = false := h.1.frozen 0
theorem EyeAt.f1 {w : World} {T eb : Nat} {Z : Nat → Prop} {A : Option Addr} {c : Nat} {l : List UInt8} {f : Int} (h : EyeAt w T eb Z A c l f) : w.frozen? ⟨eb, 1, none⟩ = false := h.1.frozen 1
theorem EyeAt.to {w : World} {T eb : Nat} {Z : Nat → Prop} {A : Option Addr} {c : Nat} {l : List UInt8} {f : Int} (h : EyeAt w T eb Z A c l f) : EyeTo w T eb Z l f w := ⟨⟨A, c, h⟩, Fr.refl _ _⟩
theorem EyeAt.below {w w' : World} {T eb : Nat} {Z : Nat → Prop} {A : Option Addr} {c : Nat} {l : List UInt8} {f : Int} (h : EyeAt w T eb Z A c l f) (k : Below w.heap.size w w') : EyeAt w' T eb Z A c l f := ⟨h.1.below k, h.2.1.below k, h.2.2⟩
theorem EyeAt.fr {w w' : World} {T eb : Nat} {Z S : Nat → Prop} {A : Option Addr} {c : Nat} {l : List UInt8} {f : Int} (h : EyeAt w T eb Z A c l f) (k : Fr S w w') (h1 : ¬ S eb) (h2 : ∀ b, b < w.heap.size → Z b → ¬ S b) : EyeAt w' T eb Z A c l f := ⟨h.1.fr k h1, h.2.1.fr k h2, h.2.2⟩
theorem EyeTo.trans {a b c : World} {T eb : Nat} {Z : Nat → Prop} {l l' : List UInt8} {f f' : Int} (h : EyeTo a T eb Z l f b) (k : EyeTo b T eb Z l' f' c) : EyeTo a T eb Z l' f' c := ⟨k.at_, h.fr.trans k.fr (fun _ _ h => h)⟩
theorem EyeTo.then_ {a b c : World} {T eb : Nat} {Z : Nat → Prop} {l : List UInt8} {f : Int} (h : EyeTo a T eb Z l f b) (k : Below b.heap.size b c) : EyeTo a T eb Z l f c := by
  obtain ⟨A, c', h1⟩ := h.at_
  exact ⟨⟨A, c', h1.below k⟩, h.fr.then_below k⟩
/-- both cells set anew -/
theorem EyeAt.failed {w : World} {T eb : Nat} {Z : Nat → Prop} {A : Option Addr} {c : Nat} {l : List UInt8} {f : Int} (h : EyeAt w T eb Z A c l f) (code : Int) :
    EyeTo w T eb Z [] code ((w.setCell ⟨eb, 0, none⟩ (.slice none 0 0)).setCell ⟨eb, 1, none⟩ (.int .i64 code)) ∧ EyeTo w T eb Z [] code ((w.setCell ⟨eb, 1, none⟩ (.int .i64 code)).setCell ⟨eb, 0, none⟩ (.slice none 0 0)) := by
  constructor
  · refine ⟨⟨none, 0, ?_, Rd.nil, by simp, by simp [maxLen]⟩, ((Fr.refl (fun k => k = eb) w).setAt eb _ rfl _).setAt eb _ rfl _⟩
    have := (h.1.set_ 0 (.slice none 0 0)).set_ 1 (.int .i64 code)
    simpa using this
  · refine ⟨⟨none, 0, ?_, Rd.nil, by simp, by simp [maxLen]⟩, ((Fr.refl (fun k => k = eb) w).setAt eb _ rfl _).setAt eb _ rfl _⟩
    have := (h.1.set_ 1 (.int .i64 code)).set_ 0 (.slice none 0 0)
    simpa using this

set_option maxHeartbeats 400000 in
theorem fail_any (eb : Nat) (Z : Nat → Prop) (A : Option Addr) (c : Nat) (l : List UInt8) (f code : Int) (w : World) (h : EyeAt w 164 eb Z A c l f) :
    Calls Tryz.prog 71 #[.pointer (some ⟨eb, 0, none⟩), .int .i64 code] w fun e w' => e = .returned (.tuple #[]) ∧ EyeTo w 164 eb Z (failS l f code).1 (failS l f code).2 w' := by
  have c0 := h.c0
  have c1 := h.c1
  have f0 := h.f0
  have f1 := h.f1
  by_cases h1 : f = 0
  · by_cases h2 : code = 0
    · have e1 := Lib.hid (show failS l f code = (l, f) by unfold failS; rw [if_neg (by omega)])
      subst h1 h2
      go_enter Tryz.func71, Tryz.ntmps71
      go_wp2_with fail
      go_end0
      rw [e1.out]
      exact ⟨rfl, h.to⟩
    · have e1 := Lib.hid (show failS l f code = ([], code) by unfold failS; rw [if_pos ⟨h1, h2⟩])
      have h2b : (code != 0) = true := by simpa using h2
      subst h1
      go_enter Tryz.func71, Tryz.ntmps71
      go_wp2_with fail
      go_end0
      rw [e1.out]
      exact ⟨rfl, (h.failed code).1⟩
  · have e1 := Lib.hid (show failS l f code = (l, f) by unfold failS; rw [if_neg (by omega)])
    have h1b : (f == 0) = false := by simpa using h1
    go_enter Tryz.func71, Tryz.ntmps71
    go_wp2_with fail
    go_end0
    rw [e1.out]
    exact ⟨rfl, h.to⟩

theorem EyeAt.bounds {w : World} {T eb : Nat} {Z : Nat → Prop} {A : Option Addr} {c : Nat} {l : List UInt8} {f : Int} (h : EyeAt w T eb Z A c l f) : l.length ≤ c ∧ c ≤ 9223372036854775807 := ⟨h.2.2.1, h.2.2.2⟩

theorem EyeAt.cut {w : World} {T eb : Nat} {Z : Nat → Prop} {A : Option Addr} {c : Nat} {l : List UInt8} {f : Int} (h : EyeAt w T eb Z A c l f) {n : Nat} (hn : n ≤ l.length) (hz : ¬ Z eb) :
    EyeTo w T eb Z (l.drop n) f (w.setCell ⟨eb, 0, none⟩ (.slice (if c = n then A else A.map fun x => x.add n) (l.length - n) (c - n))) := by
  have hf : Fr (fun k => k = eb) w (w.setCell ⟨eb, 0, none⟩ (.slice (if c = n then A else A.map fun x => x.add n) (l.length - n) (c - n))) := (Fr.refl (fun k => k = eb) w).setAt eb _ rfl _
  have hd := Rd.drop h.2.1 hn h.2.2.1
  rw [← List.map_drop, Nat.mul_one, ← List.length_drop] at hd
  refine ⟨⟨_, c - n, ?_, hd.fr hf (by rintro b _ hb rfl; exact hz hb), by rw [List.length_drop]; have := h.2.2.1; omega, by have := h.2.2.2; omega⟩, hf⟩
  have := h.1.set_ 0 (.slice (if c = n then A else A.map fun x => x.add n) (l.length - n) (c - n))
  rw [List.length_drop]
  simpa using this

set_option maxHeartbeats 400000 in
theorem take_in (eb : Nat) (Z : Nat → Prop) (A : Option Addr) (c : Nat) (l : List UInt8) (f : Int) (n : Nat) (w : World) (h : EyeAt w 164 eb Z A c l f) (hz : ¬ Z eb) (hn : n ≤ l.length) :
    Calls Tryz.prog 100 #[.pointer (some ⟨eb, 0, none⟩), .int .i64 n] w fun e w' => ∃ c', e = .returned (.slice A n c') ∧ n ≤ c' ∧ c' ≤ maxLen ∧ EyeTo w 164 eb Z (l.drop n) f w' := by
  have c0 := h.c0
  have f0 := h.f0
  have hb := h.bounds
  have hm : maxLen = 9223372036854775807 := rfl
  have HM := Lib.hid hm
  clear hm
  have H := Lib.hid h
  clear h
  by_cases hcn : c = n
  · subst hcn
    go_enter Tryz.func100, Tryz.ntmps100
    go_wp2_with fail
    go_ret
    have hc := H.out.cut hn hz
    rw [if_pos rfl, Nat.sub_self, show l.length - c = 0 by omega] at hc
    exact ⟨c, rfl, Nat.le_refl _, by rw [HM.out]; omega, hc⟩
  · go_enter Tryz.func100, Tryz.ntmps100
    go_wp2_with fail
    go_ret
    have hc := H.out.cut hn hz
    rw [if_neg hcn] at hc
    exact ⟨c, rfl, by omega, by rw [HM.out]; omega, hc⟩

set_option maxHeartbeats 400000 in
theorem take_out (eb : Nat) (Z : Nat → Prop) (A : Option Addr) (c : Nat) (l : List UInt8) (n : Nat) (w : World) (h : EyeAt w 164 eb Z A c l 0) (hn : l.length < n) :
    Calls Tryz.prog 100 #[.pointer (some ⟨eb, 0, none⟩), .int .i64 n] w fun e w' => e = .returned (.slice none 0 0) ∧ EyeTo w 164 eb Z [] 11 w' := by
  have c0 := h.c0
  go_enter Tryz.func100, Tryz.ntmps100
  go_wp2_with fail
  refine (fail_any eb Z A c l 0 11 w h).mono ?_
  rintro e w1 ⟨rfl, h1⟩
  go_wp2_with fail
  go_ret
  exact ⟨rfl, h1⟩
end Go.Proofs.YtdnljmncdbcgeaaGreat

/- grain.Eye.Num. -/
namespace Go.Proofs.YtdnljmncdbcgeaaGreat
open Go.RowKit

theorem readS_bad {l : List UInt8} {f : Int} {most : Nat} (h : f ≠ 0) : readS l f most = (0, l, f) := by unfold readS; rw [if_pos h]
theorem readS_nil {most : Nat} : readS [] 0 most = (0, [], 11) := rfl
theorem readS_wide {x : UInt8} {r : List UInt8} {most : Nat} (h : 8 < x.toNat) : readS (x :: r) 0 most = (0, [], 10) := by unfold readS; rw [if_neg (by simp)]; dsimp only; rw [if_pos h]
theorem readS_short {x : UInt8} {r : List UInt8} {most : Nat} (h : ¬ 8 < x.toNat) (h2 : r.length < x.toNat) : readS (x :: r) 0 most = (0, [], 11) := by
  unfold readS; rw [if_neg (by simp)]; dsimp only; rw [if_neg h, if_pos h2]
theorem readS_zero {x : UInt8} {r : List UInt8} {most : Nat} (h : ¬ 8 < x.toNat) (h2 : ¬ r.length < x.toNat) (h3 : 0 < x.toNat ∧ r.getD 0 0 = 0) : readS (x :: r) 0 most = (0, [], 10) := by
  unfold readS; rw [if_neg (by simp)]; dsimp only; rw [if_neg h, if_neg h2, if_pos h3]
theorem readS_long {x : UInt8} {r : List UInt8} {most : Nat} (h : ¬ 8 < x.toNat) (h2 : ¬ r.length < x.toNat) (h3 : ¬ (0 < x.toNat ∧ r.getD 0 0 = 0)) (h4 : most < val (r.take x.toNat)) : readS (x :: r) 0 most = (0, [], 13) := by
  unfold readS; rw [if_neg (by simp)]; dsimp only; rw [if_neg h, if_neg h2, if_neg h3, if_pos h4]
theorem readS_ok {x : UInt8} {r : List UInt8} {most : Nat} (h : ¬ 8 < x.toNat) (h2 : ¬ r.length < x.toNat) (h3 : ¬ (0 < x.toNat ∧ r.getD 0 0 = 0)) (h4 : ¬ most < val (r.take x.toNat)) : readS (x :: r) 0 most = (val (r.take x.toNat), r.drop x.toNat, 0) := by
  unfold readS; rw [if_neg (by simp)]; dsimp only; rw [if_neg h, if_neg h2, if_neg h3, if_neg h4]

/-- what a read leaves -/
def NumTo (w : World) (T eb : Nat) (Z : Nat → Prop) (r : Nat × List UInt8 × Int) (e : Ending) (w' : World) : Prop := e = .returned (.int .u64 (r.1 : Int)) ∧ EyeTo w T eb Z r.2.1 r.2.2 w'

theorem byte_at {w w1 : World} {T eb : Nat} {Z : Nat → Prop} {A : Option Addr} {c : Nat} {x : UInt8} {r l1 : List UInt8} {f f1 : Int} (h : EyeAt w T eb Z A c (x :: r) f) (hz : ¬ Z eb) (h1 : EyeTo w T eb Z l1 f1 w1) :
    ∃ b off, A = some ⟨b, off, none⟩ ∧ w1.cell? ⟨b, off, none⟩ = some (.int .u8 (x.toNat : Int)) := by
  have := h.2.1.fr h1.fr (by rintro b _ hb rfl; exact hz hb)
  obtain ⟨b, off, e, _, _, hc⟩ := Rd.atm this (k := 0) (by simp)
  exact ⟨b, off, e, hc⟩

theorem digit0 {r : List UInt8} {k : Nat} (h : r.getD 0 0 ≠ 0) (hk : 0 < (r.take k).length) : (((r.take k)[0]'hk).toNat : Int) ≠ 0 := by
  rw [List.getElem_take]
  rcases r with _ | ⟨y, r⟩
  · simp at hk
  · simp at h ⊢
    intro e
    exact h (UInt8.toNat_inj.1 (by simpa using e))

theorem digit00 {r : List UInt8} {k : Nat} (h : r.getD 0 0 = 0) (hk : 0 < (r.take k).length) : (((r.take k)[0]'hk).toNat : Int) = 0 := by
  rw [List.getElem_take]
  rcases r with _ | ⟨y, r⟩
  · simp at hk
  · simp at h ⊢
    rw [h]; rfl

set_option maxHeartbeats 400000 in
theorem eyeNum_bad (eb : Nat) (Z : Nat → Prop) (A : Option Addr) (c : Nat) (l : List UInt8) (f : Int) (most : Nat) (w : World) (h : EyeAt w 164 eb Z A c l f) (hf : f ≠ 0) :
    Calls Tryz.prog 66 #[.pointer (some ⟨eb, 0, none⟩), .int .u64 most] w (NumTo w 164 eb Z (readS l f most)) := by
  have c1 := h.c1
  rw [readS_bad hf]
  have hfb : (f != 0) = true := by simpa using hf
  go_enter Tryz.func66, Tryz.ntmps66
  go_wp2_with fail
  go_ret
  exact ⟨rfl, h.to⟩

set_option maxHeartbeats 400000 in
theorem eyeNum_none (eb : Nat) (Z : Nat → Prop) (A : Option Addr) (c : Nat) (most : Nat) (w : World) (h : EyeAt w 164 eb Z A c [] 0) :
    Calls Tryz.prog 66 #[.pointer (some ⟨eb, 0, none⟩), .int .u64 most] w (NumTo w 164 eb Z (readS [] 0 most)) := by
  have c1 := h.c1
  rw [readS_nil]
  go_enter Tryz.func66, Tryz.ntmps66
  go_wp2_with fail
  refine (take_out eb Z A c [] 1 w h (by simp)).mono ?_
  rintro e w1 ⟨rfl, h1⟩
  go_wp2_with fail
  go_ret
  exact ⟨rfl, h1⟩

set_option maxHeartbeats 400000 in
theorem eyeNum_wide (eb : Nat) (Z : Nat → Prop) (A : Option Addr) (c : Nat) (x : UInt8) (r : List UInt8) (most : Nat) (w : World) (h : EyeAt w 164 eb Z A c (x :: r) 0) (hz : ¬ Z eb) (hx : 8 < x.toNat) :
    Calls Tryz.prog 66 #[.pointer (some ⟨eb, 0, none⟩), .int .u64 most] w (NumTo w 164 eb Z (readS (x :: r) 0 most)) := by
  have c1 := h.c1
  rw [readS_wide hx]
  go_enter Tryz.func66, Tryz.ntmps66
  go_wp2_with fail
  refine (take_in eb Z A c (x :: r) 0 1 w h hz (by simp)).mono ?_
  rintro e w1 ⟨c2, rfl, hc2, hm2, h1⟩
  replace h1 : EyeTo w 164 eb Z r 0 w1 := h1
  obtain ⟨b, off, rfl, hcell⟩ := byte_at h hz h1
  obtain ⟨A1, ca1, ha1⟩ := h1.at_
  go_wp2_with fail
  refine (fail_any eb Z A1 ca1 r 0 10 w1 ha1).mono ?_
  rintro e w2 ⟨rfl, h2⟩
  go_wp2_with fail
  go_ret
  exact ⟨rfl, h1.trans h2⟩

set_option maxHeartbeats 400000 in
theorem eyeNum_short (eb : Nat) (Z : Nat → Prop) (A : Option Addr) (c : Nat) (x : UInt8) (r : List UInt8) (most : Nat) (w : World) (h : EyeAt w 164 eb Z A c (x :: r) 0) (hz : ¬ Z eb) (hx : ¬ 8 < x.toNat) (hr : r.length < x.toNat) :
    Calls Tryz.prog 66 #[.pointer (some ⟨eb, 0, none⟩), .int .u64 most] w (NumTo w 164 eb Z (readS (x :: r) 0 most)) := by
  have c1 := h.c1
  rw [readS_short hx hr]
  go_enter Tryz.func66, Tryz.ntmps66
  go_wp2_with fail
  refine (take_in eb Z A c (x :: r) 0 1 w h hz (by simp)).mono ?_
  rintro e w1 ⟨c2, rfl, hc2, hm2, h1⟩
  replace h1 : EyeTo w 164 eb Z r 0 w1 := h1
  obtain ⟨b, off, rfl, hcell⟩ := byte_at h hz h1
  obtain ⟨A1, ca1, ha1⟩ := h1.at_
  go_wp2_with fail
  refine (take_out eb Z A1 ca1 r x.toNat w1 ha1 hr).mono ?_
  rintro e w2 ⟨rfl, h2⟩
  obtain ⟨A2, ca2, ha2⟩ := h2.at_
  have c12 := ha2.c1
  go_wp2_with fail
  go_loop [4, 48] (fun nv iv => nv = .int .u64 0 ∧ iv = .int .i64 0) (fun _ _ => 0)
  case atStart => exact ⟨rfl, rfl⟩
  case round =>
    obtain ⟨rfl, rfl⟩ := hrel
    go_wp2_with fail
    go_ret
    exact ⟨rfl, h1.trans h2⟩

set_option maxHeartbeats 300000 in
theorem eyeNum_ok0 (eb : Nat) (Z : Nat → Prop) (A : Option Addr) (c : Nat) (x : UInt8) (r : List UInt8) (most : Nat) (w : World) (h : EyeAt w 164 eb Z A c (x :: r) 0) (hz : ¬ Z eb) (hx : ¬ 8 < x.toNat) (hr : ¬ r.length < x.toNat)
    (h0 : Hid (x.toNat = 0)) :
    Calls Tryz.prog 66 #[.pointer (some ⟨eb, 0, none⟩), .int .u64 most] w (NumTo w 164 eb Z (readS (x :: r) 0 most)) := by
  have c1 := h.c1
  have hdl : (r.take x.toNat).length = x.toNat := by rw [List.length_take]; omega
  go_enter Tryz.func66, Tryz.ntmps66
  go_wp2_with fail
  refine (take_in eb Z A c (x :: r) 0 1 w h hz (by simp)).mono ?_
  rintro e w1 ⟨c2, rfl, hc2, hm2, h1⟩
  replace h1 : EyeTo w 164 eb Z r 0 w1 := h1
  obtain ⟨b, off, rfl, hcell⟩ := byte_at h hz h1
  obtain ⟨A1, ca1, ha1⟩ := h1.at_
  go_wp2_with fail
  refine (take_in eb Z A1 ca1 r 0 x.toNat w1 ha1 hz (by omega)).mono ?_
  rintro e w2 ⟨c3, rfl, hc3, hm3, h2⟩
  have hD : Rd w2 Z 1 A1 x.toNat ((r.take x.toNat).map bv) := by
    have := (Rd.take ha1.2.1 (k := x.toNat) (by omega)).fr h2.fr (by rintro b _ hb rfl; exact hz hb)
    rw [Nat.mul_one, ← List.map_take] at this
    exact this
  have h12 := h1.trans h2
  have HD := Lib.hid hdl
  clear hdl
  have h0b : decide (0 < x.toNat) = false := by have := h0.out; simp; omega
  go_wp2_with fail
  go_loop [4, 48] (fun nv iv => ∃ i : Nat, i ≤ x.toNat ∧ iv = .int .i64 (i : Int) ∧ nv = .int .u64 (val ((r.take x.toNat).take i) : Int)) (fun _ iv => x.toNat - (intOf iv).toNat)
  case atStart => exact ⟨0, Nat.zero_le _, rfl, rfl⟩
  case round =>
    obtain ⟨i, hi, rfl, rfl⟩ := hrel
    by_cases hlt : i < x.toNat
    · obtain ⟨b2, off2, eA, _, _, hc⟩ := hD.atm (k := i) (by rw [HD.out]; exact hlt)
      subst eA
      have hv := val_take (l := r.take x.toNat) (i := i) (by rw [HD.out]; exact hlt)
      have hb7 : val ((r.take x.toNat).take i) < 256 ^ 7 := Nat.lt_of_lt_of_le (val_lt _) (Nat.pow_le_pow_right (by decide) (by rw [List.length_take, HD.out]; omega))
      have hgd : (r.take x.toNat).getD i 0 = (r.take x.toNat)[i]'(by rw [HD.out]; exact hlt) := by rw [List.getD_eq_getElem?_getD, List.getElem?_eq_getElem (by rw [HD.out]; exact hlt)]; rfl
      rw [hgd] at hv
      generalize (r.take x.toNat)[i]'(by rw [HD.out]; exact hlt) = d at hc hv
      have HV := Lib.hid hv
      clear hv hgd
      unfold bv at hc
      generalize val ((r.take x.toNat).take i) = m at *
      have hor := or_byte (n := m) (d := d) hb7
      have hm56 : m < 72057594037927936 := hb7
      clear hb7
      have hd8 := d.toNat_lt
      go_wp2_with fail
      go_round
      case rel => exact ⟨i + 1, hlt, by go_num, by rw [HV.out]; go_num⟩
      case measure => simp [intOf]; omega
    · have e : i = x.toNat := by omega
      subst e
      rw [show ((r.take x.toNat).take x.toNat) = r.take x.toNat by rw [List.take_take]; simp]
      obtain ⟨A3, ca3, ha3⟩ := h2.at_
      have c13 := ha3.c1
      have hvl := val_lt64 (l := r.take x.toNat) (by rw [HD.out]; omega)
      by_cases hm : most < val (r.take x.toNat)
      · go_wp2_with fail
        refine (fail_any eb Z A3 ca3 (r.drop x.toNat) 0 13 _ ha3).mono ?_
        rintro e w9 ⟨rfl, h9⟩
        replace h9 : EyeTo w2 164 eb Z [] 13 w9 := h9
        obtain ⟨A4, ca4, ha4⟩ := h9.at_
        have c14 := ha4.c1
        go_wp2_with fail
        go_ret
        rw [readS_long hx hr (by have := h0.out; omega) hm]
        exact ⟨rfl, h12.trans h9⟩
      · go_wp2_with fail
        go_ret
        rw [readS_ok hx hr (by have := h0.out; omega) hm]
        exact ⟨rfl, h12⟩

set_option maxHeartbeats 300000 in
theorem eyeNum_ok1 (eb : Nat) (Z : Nat → Prop) (A : Option Addr) (c : Nat) (x : UInt8) (r : List UInt8) (most : Nat) (w : World) (h : EyeAt w 164 eb Z A c (x :: r) 0) (hz : ¬ Z eb) (hx : ¬ 8 < x.toNat) (hr : ¬ r.length < x.toNat)
    (h0 : 0 < x.toNat) (hr0 : r.getD 0 0 ≠ 0) :
    Calls Tryz.prog 66 #[.pointer (some ⟨eb, 0, none⟩), .int .u64 most] w (NumTo w 164 eb Z (readS (x :: r) 0 most)) := by
  have c1 := h.c1
  have hdl : (r.take x.toNat).length = x.toNat := by rw [List.length_take]; omega
  have hcl : ¬ (0 < x.toNat ∧ r.getD 0 0 = 0) := fun hh => hr0 hh.2
  have HCL := Lib.hid hcl
  clear hcl
  go_enter Tryz.func66, Tryz.ntmps66
  go_wp2_with fail
  refine (take_in eb Z A c (x :: r) 0 1 w h hz (by simp)).mono ?_
  rintro e w1 ⟨c2, rfl, hc2, hm2, h1⟩
  replace h1 : EyeTo w 164 eb Z r 0 w1 := h1
  obtain ⟨b, off, rfl, hcell⟩ := byte_at h hz h1
  obtain ⟨A1, ca1, ha1⟩ := h1.at_
  go_wp2_with fail
  refine (take_in eb Z A1 ca1 r 0 x.toNat w1 ha1 hz (by omega)).mono ?_
  rintro e w2 ⟨c3, rfl, hc3, hm3, h2⟩
  have hD : Rd w2 Z 1 A1 x.toNat ((r.take x.toNat).map bv) := by
    have := (Rd.take ha1.2.1 (k := x.toNat) (by omega)).fr h2.fr (by rintro b _ hb rfl; exact hz hb)
    rw [Nat.mul_one, ← List.map_take] at this
    exact this
  have h12 := h1.trans h2
  have HD := Lib.hid hdl
  clear hdl
  obtain ⟨b1, off1, rfl, _, _, hc0⟩ := hD.atm (k := 0) (by rw [HD.out]; exact h0)
  have hr0b : (((r.take x.toNat)[0]'(by rw [HD.out]; exact h0)).toNat : Int) ≠ 0 := digit0 hr0 (by rw [HD.out]; exact h0)
  generalize (r.take x.toNat)[0]'(by rw [HD.out]; exact h0) = d0 at hc0 hr0b
  replace hc0 : w2.cell? ⟨b1, off1, none⟩ = some (.int .u8 (d0.toNat : Int)) := hc0
  have hr0c : ((d0.toNat : Int) == 0) = false := by simpa using hr0b
  clear hr0b hr0
  go_wp2_with fail
  go_loop [4, 48] (fun nv iv => ∃ i : Nat, i ≤ x.toNat ∧ iv = .int .i64 (i : Int) ∧ nv = .int .u64 (val ((r.take x.toNat).take i) : Int)) (fun _ iv => x.toNat - (intOf iv).toNat)
  case atStart => exact ⟨0, Nat.zero_le _, rfl, rfl⟩
  case round =>
    obtain ⟨i, hi, rfl, rfl⟩ := hrel
    by_cases hlt : i < x.toNat
    · obtain ⟨b2, off2, eA, _, _, hc⟩ := hD.atm (k := i) (by rw [HD.out]; exact hlt)
      obtain ⟨rfl, rfl⟩ : b1 = b2 ∧ off1 = off2 := by simpa using eA
      have hv := val_take (l := r.take x.toNat) (i := i) (by rw [HD.out]; exact hlt)
      have hb7 : val ((r.take x.toNat).take i) < 256 ^ 7 := Nat.lt_of_lt_of_le (val_lt _) (Nat.pow_le_pow_right (by decide) (by rw [List.length_take, HD.out]; omega))
      have hgd : (r.take x.toNat).getD i 0 = (r.take x.toNat)[i]'(by rw [HD.out]; exact hlt) := by rw [List.getD_eq_getElem?_getD, List.getElem?_eq_getElem (by rw [HD.out]; exact hlt)]; rfl
      rw [hgd] at hv
      generalize (r.take x.toNat)[i]'(by rw [HD.out]; exact hlt) = d at hc hv
      have HV := Lib.hid hv
      clear hv hgd
      unfold bv at hc
      generalize val ((r.take x.toNat).take i) = m at *
      have hor := or_byte (n := m) (d := d) hb7
      have hm56 : m < 72057594037927936 := hb7
      clear hb7
      have hd8 := d.toNat_lt
      go_wp2_with fail
      go_round
      case rel => exact ⟨i + 1, hlt, by go_num, by rw [HV.out]; go_num⟩
      case measure => simp [intOf]; omega
    · have e : i = x.toNat := by omega
      subst e
      rw [show ((r.take x.toNat).take x.toNat) = r.take x.toNat by rw [List.take_take]; simp]
      obtain ⟨A3, ca3, ha3⟩ := h2.at_
      have c13 := ha3.c1
      have hvl := val_lt64 (l := r.take x.toNat) (by rw [HD.out]; omega)
      by_cases hm : most < val (r.take x.toNat)
      · go_wp2_with fail
        refine (fail_any eb Z A3 ca3 (r.drop x.toNat) 0 13 _ ha3).mono ?_
        rintro e w9 ⟨rfl, h9⟩
        replace h9 : EyeTo w2 164 eb Z [] 13 w9 := h9
        obtain ⟨A4, ca4, ha4⟩ := h9.at_
        have c14 := ha4.c1
        go_wp2_with fail
        go_ret
        rw [readS_long hx hr HCL.out hm]
        exact ⟨rfl, h12.trans h9⟩
      · go_wp2_with fail
        go_ret
        rw [readS_ok hx hr HCL.out hm]
        exact ⟨rfl, h12⟩

set_option maxHeartbeats 300000 in
theorem eyeNum_zero (eb : Nat) (Z : Nat → Prop) (A : Option Addr) (c : Nat) (x : UInt8) (r : List UInt8) (most : Nat) (w : World) (h : EyeAt w 164 eb Z A c (x :: r) 0) (hz : ¬ Z eb) (hx : ¬ 8 < x.toNat) (hr : ¬ r.length < x.toNat)
    (h0 : 0 < x.toNat) (hr0 : r.getD 0 0 = 0) :
    Calls Tryz.prog 66 #[.pointer (some ⟨eb, 0, none⟩), .int .u64 most] w (NumTo w 164 eb Z (readS (x :: r) 0 most)) := by
  have c1 := h.c1
  have hdl : (r.take x.toNat).length = x.toNat := by rw [List.length_take]; omega
  have hcl : 0 < x.toNat ∧ r.getD 0 0 = 0 := ⟨h0, hr0⟩
  have HCL := Lib.hid hcl
  clear hcl
  go_enter Tryz.func66, Tryz.ntmps66
  go_wp2_with fail
  refine (take_in eb Z A c (x :: r) 0 1 w h hz (by simp)).mono ?_
  rintro e w1 ⟨c2, rfl, hc2, hm2, h1⟩
  replace h1 : EyeTo w 164 eb Z r 0 w1 := h1
  obtain ⟨b, off, rfl, hcell⟩ := byte_at h hz h1
  obtain ⟨A1, ca1, ha1⟩ := h1.at_
  go_wp2_with fail
  refine (take_in eb Z A1 ca1 r 0 x.toNat w1 ha1 hz (by omega)).mono ?_
  rintro e w2 ⟨c3, rfl, hc3, hm3, h2⟩
  have hD : Rd w2 Z 1 A1 x.toNat ((r.take x.toNat).map bv) := by
    have := (Rd.take ha1.2.1 (k := x.toNat) (by omega)).fr h2.fr (by rintro b _ hb rfl; exact hz hb)
    rw [Nat.mul_one, ← List.map_take] at this
    exact this
  have h12 := h1.trans h2
  have HD := Lib.hid hdl
  clear hdl
  obtain ⟨b1, off1, rfl, _, _, hc0⟩ := hD.atm (k := 0) (by rw [HD.out]; exact h0)
  have hr0b : (((r.take x.toNat)[0]'(by rw [HD.out]; exact h0)).toNat : Int) = 0 := digit00 hr0 (by rw [HD.out]; exact h0)
  clear hr0
  unfold bv at hc0
  rw [hr0b] at hc0
  clear hr0b
  replace hc0 : w2.cell? ⟨b1, off1, none⟩ = some (.int .u8 0) := hc0
  obtain ⟨A5, ca5, ha5⟩ := h2.at_
  go_wp2_with fail
  refine (fail_any eb Z A5 ca5 (r.drop x.toNat) 0 10 _ ha5).mono ?_
  rintro e w3 ⟨rfl, h3⟩
  replace h3 : EyeTo w2 164 eb Z [] 10 w3 := h3
  replace hD := hD.fr h3.fr (by rintro b _ hb rfl; exact hz hb)
  have h13 := h12.trans h3
  go_wp2_with fail
  go_loop [4, 48] (fun nv iv => ∃ i : Nat, i ≤ x.toNat ∧ iv = .int .i64 (i : Int) ∧ nv = .int .u64 (val ((r.take x.toNat).take i) : Int)) (fun _ iv => x.toNat - (intOf iv).toNat)
  case atStart => exact ⟨0, Nat.zero_le _, rfl, rfl⟩
  case round =>
    obtain ⟨i, hi, rfl, rfl⟩ := hrel
    by_cases hlt : i < x.toNat
    · obtain ⟨b2, off2, eA, _, _, hc⟩ := hD.atm (k := i) (by rw [HD.out]; exact hlt)
      obtain ⟨rfl, rfl⟩ : b1 = b2 ∧ off1 = off2 := by simpa using eA
      have hv := val_take (l := r.take x.toNat) (i := i) (by rw [HD.out]; exact hlt)
      have hb7 : val ((r.take x.toNat).take i) < 256 ^ 7 := Nat.lt_of_lt_of_le (val_lt _) (Nat.pow_le_pow_right (by decide) (by rw [List.length_take, HD.out]; omega))
      have hgd : (r.take x.toNat).getD i 0 = (r.take x.toNat)[i]'(by rw [HD.out]; exact hlt) := by rw [List.getD_eq_getElem?_getD, List.getElem?_eq_getElem (by rw [HD.out]; exact hlt)]; rfl
      rw [hgd] at hv
      generalize (r.take x.toNat)[i]'(by rw [HD.out]; exact hlt) = d at hc hv
      have HV := Lib.hid hv
      clear hv hgd
      unfold bv at hc
      generalize val ((r.take x.toNat).take i) = m at *
      have hor := or_byte (n := m) (d := d) hb7
      have hm56 : m < 72057594037927936 := hb7
      clear hb7
      have hd8 := d.toNat_lt
      go_wp2_with fail
      go_round
      case rel => exact ⟨i + 1, hlt, by go_num, by rw [HV.out]; go_num⟩
      case measure => simp [intOf]; omega
    · have e : i = x.toNat := by omega
      subst e
      rw [show ((r.take x.toNat).take x.toNat) = r.take x.toNat by rw [List.take_take]; simp]
      obtain ⟨A3, ca3, ha3⟩ := h3.at_
      have c13 := ha3.c1
      have hvl := val_lt64 (l := r.take x.toNat) (by rw [HD.out]; omega)
      by_cases hm : most < val (r.take x.toNat)
      · go_wp2_with fail
        refine (fail_any eb Z A3 ca3 [] 10 13 _ ha3).mono ?_
        rintro e w9 ⟨rfl, h9⟩
        replace h9 : EyeTo w3 164 eb Z [] 10 w9 := h9
        obtain ⟨A4, ca4, ha4⟩ := h9.at_
        have c14 := ha4.c1
        go_wp2_with fail
        go_ret
        rw [readS_zero hx hr HCL.out]
        exact ⟨rfl, h13.trans h9⟩
      · go_wp2_with fail
        go_ret
        rw [readS_zero hx hr HCL.out]
        exact ⟨rfl, h13⟩


theorem eyeNum_any (eb : Nat) (Z : Nat → Prop) (A : Option Addr) (c : Nat) (l : List UInt8) (f : Int) (most : Nat) (w : World) (h : EyeAt w 164 eb Z A c l f) (hz : ¬ Z eb) :
    Calls Tryz.prog 66 #[.pointer (some ⟨eb, 0, none⟩), .int .u64 most] w (NumTo w 164 eb Z (readS l f most)) := by
  by_cases hf : f = 0
  · subst hf
    rcases l with _ | ⟨x, r⟩
    · exact eyeNum_none eb Z A c most w h
    · by_cases hx : 8 < x.toNat
      · exact eyeNum_wide eb Z A c x r most w h hz hx
      · by_cases hr : r.length < x.toNat
        · exact eyeNum_short eb Z A c x r most w h hz hx hr
        · by_cases h0 : x.toNat = 0
          · exact eyeNum_ok0 eb Z A c x r most w h hz hx hr h0
          · by_cases hr0 : r.getD 0 0 = 0
            · exact eyeNum_zero eb Z A c x r most w h hz hx hr (by omega) hr0
            · exact eyeNum_ok1 eb Z A c x r most w h hz hx hr (by omega) hr0
  · exact eyeNum_bad eb Z A c l f most w h hf
end Go.Proofs.YtdnljmncdbcgeaaGreat

/- tenderref01.Eye.Read. -/
namespace Go.Proofs.YtdnljmncdbcgeaaGreat
open Go.RowKit

theorem rd_first {w : World} {T eb : Nat} {Z : Nat → Prop} {A : Option Addr} {c : Nat} {x : UInt8} {r : List UInt8} {f : Int} (h : EyeAt w T eb Z A c (x :: r) f) :
    ∃ b off, A = some ⟨b, off, none⟩ ∧ Z b ∧ w.cell? ⟨b, off, none⟩ = some (.int .u8 (x.toNat : Int)) ∧ ∀ j (hj : j < r.length), w.cell? ⟨b, off + (1 + j), none⟩ = some (.int .u8 (r[j].toNat : Int)) := by
  obtain ⟨b, off, e, hz, _, hc⟩ := Rd.atm h.2.1 (k := 0) (by simp)
  refine ⟨b, off, e, hz, hc, fun j hj => ?_⟩
  obtain ⟨b2, off2, e2, _, _, hc2⟩ := Rd.atm h.2.1 (k := 1 + j) (by simp; omega)
  rw [e] at e2
  obtain ⟨rfl, rfl⟩ : b = b2 ∧ off = off2 := by simpa using e2
  rw [hc2]
  simp [bv, Nat.add_comm 1 j]

end Go.Proofs.YtdnljmncdbcgeaaGreat

/- grain.Eye: Open, Fault, Left, Close, Int, Truth; digits and their number. -/
namespace Go.Proofs.YtdnljmncdbcgeaaGreat
open Go.RowKit

theorem val_pos : ∀ (m : Nat) (D : List UInt8), D.length = m → D ≠ [] → D.getD 0 0 ≠ 0 → 0 < val D
  | 0, D, h, h2, _ => absurd (List.eq_nil_of_length_eq_zero h) h2
  | m + 1, D, h, h2, h3 => by
    have e : D = D.dropLast ++ [D.getLast h2] := (List.dropLast_concat_getLast h2).symm
    rcases Nat.eq_zero_or_pos m with h0 | h0
    · subst h0
      obtain ⟨d, rfl⟩ := List.length_eq_one_iff.1 h
      simp at h3
      simp only [val, List.foldl_cons, List.foldl_nil]
      have : d.toNat ≠ 0 := fun e => h3 (UInt8.toNat_inj.1 (by simpa using e))
      omega
    · have hl : D.dropLast.length = m := by simp [h]
      have hn : D.dropLast ≠ [] := by intro e; rw [e] at hl; simp at hl; omega
      have hg : D.dropLast.getD 0 0 = D.getD 0 0 := by
        rw [List.getD_eq_getElem?_getD, List.getD_eq_getElem?_getD, List.getElem?_dropLast, if_pos (by omega)]
      have := val_pos m _ hl hn (by rw [hg]; exact h3)
      rw [e, val_snoc]
      omega

theorem digs_val : ∀ (m : Nat) (D : List UInt8), D.length = m → m ≤ 8 → (D ≠ [] → D.getD 0 0 ≠ 0) → digs (val D) = D
  | 0, D, h, _, _ => by
    have := List.eq_nil_of_length_eq_zero h
    subst this
    exact digs_zero
  | m + 1, D, h, hm, h3 => by
    have h2 : D ≠ [] := by intro e; rw [e] at h; simp at h
    have hp := val_pos _ D h h2 (h3 h2)
    have h64 := val_lt64 (l := D) (by omega)
    rw [digs_step hp h64]
    have e : D = D.dropLast ++ [D.getLast h2] := (List.dropLast_concat_getLast h2).symm
    have hv : val D = val D.dropLast * 256 + (D.getLast h2).toNat := by
      conv => lhs; rw [e]
      exact val_snoc _ _
    have hd := (D.getLast h2).toNat_lt
    have hdiv : val D / 256 = val D.dropLast := by omega
    have hmod : val D % 256 = (D.getLast h2).toNat := by omega
    rw [hdiv, hmod, digs_val m D.dropLast (by simp [h]) (by omega) ?_]
    · rw [UInt8.ofNat_toNat]
      exact e.symm
    · intro hn
      have hl : D.dropLast.length = m := by simp [h]
      have hm0 : 0 < m := by
        rcases Nat.eq_zero_or_pos m with h0 | h0
        · rw [h0] at hl; exact absurd (List.eq_nil_of_length_eq_zero hl) hn
        · exact h0
      rw [List.getD_eq_getElem?_getD, List.getElem?_dropLast, if_pos (by omega), ← List.getD_eq_getElem?_getD]
      exact h3 h2

/-- a number that was read has just the bytes of which it was read -/
theorem readS_once {l l' : List UInt8} {n most : Nat} (h : readS l 0 most = (n, l', 0)) : n ≤ most ∧ n < 18446744073709551616 ∧ ∃ k, 1 ≤ k ∧ k ≤ l.length ∧ l'.length = l.length - k ∧ l.take k = numB n ∧ l' = l.drop k := by
  rcases l with _ | ⟨x, r⟩
  · rw [readS_nil] at h; simp at h
  · by_cases h1 : 8 < x.toNat
    · rw [readS_wide h1] at h; simp at h
    · by_cases h2 : r.length < x.toNat
      · rw [readS_short h1 h2] at h; simp at h
      · by_cases h3 : 0 < x.toNat ∧ r.getD 0 0 = 0
        · rw [readS_zero h1 h2 h3] at h; simp at h
        · by_cases h4 : most < val (r.take x.toNat)
          · rw [readS_long h1 h2 h3 h4] at h; simp at h
          · rw [readS_ok h1 h2 h3 h4] at h
            simp only [Prod.mk.injEq, and_true] at h
            obtain ⟨rfl, rfl⟩ := h
            have hlen : (r.take x.toNat).length = x.toNat := by rw [List.length_take]; omega
            refine ⟨by omega, val_lt64 (by rw [hlen]; omega), x.toNat + 1, by omega, by simp; omega, by simp, ?_, by simp⟩
            have hd := digs_val _ (r.take x.toNat) hlen (by omega) (by
              intro hn e
              have h0 : 0 < x.toNat := by
                rcases Nat.eq_zero_or_pos x.toNat with h0 | h0
                · rw [h0] at hn; simp at hn
                · exact h0
              refine h3 ⟨h0, ?_⟩
              rw [List.getD_eq_getElem?_getD, List.getElem?_take, if_pos h0, ← List.getD_eq_getElem?_getD] at e
              exact e)
            unfold numB
            rw [hd, hlen, UInt8.ofNat_toNat, List.take_succ_cons]

theorem failS_pair (l : List UInt8) (f code : Int) : failS l f code = ((failS l f code).1, (failS l f code).2) := rfl

set_option maxHeartbeats 400000 in
theorem open_any (A : Option Addr) (c n : Nat) (w : World) :
    Calls Tryz.prog 65 #[.slice A n c] w fun e w' => e = .returned (.pointer (some ⟨w.heap.size, 0, none⟩)) ∧ w.alloc (.cells #[.slice A n c, .int .i64 0] 164) = w' := by
  go_enter Tryz.func65, Tryz.ntmps65
  go_wp2_with fail
  go_ret
  exact ⟨rfl, rfl⟩
/-- a new eye -/
theorem EyeAt.new (w : World) {T : Nat} {Z : Nat → Prop} {A : Option Addr} {c : Nat} {l : List UInt8} (h : By w Z A l) (h1 : l.length ≤ c) (h2 : c ≤ maxLen) :
    EyeAt (w.alloc (.cells #[.slice A l.length c, .int .i64 0] T)) T w.heap.size Z A c l 0 := ⟨Blk.new _ _ _, h.alloc _, h1, h2⟩

set_option maxHeartbeats 400000 in
theorem fault_any (eb : Nat) (Z : Nat → Prop) (A : Option Addr) (c : Nat) (l : List UInt8) (f : Int) (w : World) (h : EyeAt w 164 eb Z A c l f) :
    Calls Tryz.prog 68 #[.pointer (some ⟨eb, 0, none⟩)] w fun e w' => e = .returned (.int .i64 f) ∧ w = w' := by
  have c1 := h.c1
  go_enter Tryz.func68, Tryz.ntmps68
  go_wp2_with fail
  go_ret
  exact ⟨rfl, rfl⟩

set_option maxHeartbeats 400000 in
theorem left_any (eb : Nat) (Z : Nat → Prop) (A : Option Addr) (c : Nat) (l : List UInt8) (f : Int) (w : World) (h : EyeAt w 164 eb Z A c l f) :
    Calls Tryz.prog 106 #[.pointer (some ⟨eb, 0, none⟩)] w fun e w' => e = .returned (.int .i64 (l.length : Int)) ∧ w = w' := by
  have c0 := h.c0
  go_enter Tryz.func106, Tryz.ntmps106
  go_wp2_with fail
  go_ret
  exact ⟨rfl, rfl⟩

/-- what Close tells -/
def closeS (l : List UInt8) (f : Int) : Int := if f ≠ 0 then f else if 0 < l.length then 12 else 0

set_option maxHeartbeats 400000 in
theorem close_any (eb : Nat) (Z : Nat → Prop) (A : Option Addr) (c : Nat) (l : List UInt8) (f : Int) (w : World) (h : EyeAt w 164 eb Z A c l f) :
    Calls Tryz.prog 72 #[.pointer (some ⟨eb, 0, none⟩)] w fun e w' => e = .returned (.int .i64 (closeS l f)) ∧ w = w' := by
  by_cases hf : f = 0
  · by_cases hl : 0 < l.length
    · have e1 := Lib.hid (show closeS l f = 12 by unfold closeS; rw [if_neg (by simpa using hf), if_pos hl])
      subst hf
      go_enter Tryz.func72, Tryz.ntmps72
      go_wp2_with (first | (go_at_call 68; refine (fault_any eb Z A c l 0 _ h).mono ?_; rintro e w' ⟨rfl, rfl⟩) | (go_at_call 106; refine (left_any eb Z A c l 0 _ h).mono ?_; rintro e w' ⟨rfl, rfl⟩))
      go_ret
      exact ⟨by rw [e1.out]; rfl, rfl⟩
    · have e1 := Lib.hid (show closeS l f = 0 by unfold closeS; rw [if_neg (by simpa using hf), if_neg hl])
      subst hf
      go_enter Tryz.func72, Tryz.ntmps72
      go_wp2_with (first | (go_at_call 68; refine (fault_any eb Z A c l 0 _ h).mono ?_; rintro e w' ⟨rfl, rfl⟩) | (go_at_call 106; refine (left_any eb Z A c l 0 _ h).mono ?_; rintro e w' ⟨rfl, rfl⟩))
      go_ret
      exact ⟨by rw [e1.out]; rfl, rfl⟩
  · have e1 := Lib.hid (show closeS l f = f by unfold closeS; rw [if_pos hf])
    have hfb : (f != 0) = true := by simpa using hf
    go_enter Tryz.func72, Tryz.ntmps72
    go_wp2_with (first | (go_at_call 68; refine (fault_any eb Z A c l f _ h).mono ?_; rintro e w' ⟨rfl, rfl⟩))
    go_ret
    exact ⟨by rw [e1.out]; rfl, rfl⟩

end Go.Proofs.YtdnljmncdbcgeaaGreat

/- grain.Eye and tenderref01.Eye: Int, Truth, Text; an eye that is none. -/
namespace Go.Proofs.YtdnljmncdbcgeaaGreat
open Go.RowKit

theorem readS_le (l : List UInt8) (f : Int) (most : Nat) : (readS l f most).1 ≤ most := by
  by_cases hf : f = 0
  · subst hf
    rcases l with _ | ⟨x, r⟩
    · rw [readS_nil]; exact Nat.zero_le _
    · by_cases h1 : 8 < x.toNat
      · rw [readS_wide h1]; exact Nat.zero_le _
      · by_cases h2 : r.length < x.toNat
        · rw [readS_short h1 h2]; exact Nat.zero_le _
        · by_cases h3 : 0 < x.toNat ∧ r.getD 0 0 = 0
          · rw [readS_zero h1 h2 h3]; exact Nat.zero_le _
          · by_cases h4 : most < val (r.take x.toNat)
            · rw [readS_long h1 h2 h3 h4]; exact Nat.zero_le _
            · rw [readS_ok h1 h2 h3 h4]; dsimp only; omega
  · rw [readS_bad hf]; exact Nat.zero_le _
theorem readS_len (l : List UInt8) (f : Int) (most : Nat) : (readS l f most).2.1.length ≤ l.length := by
  by_cases hf : f = 0
  · subst hf
    rcases l with _ | ⟨x, r⟩
    · rw [readS_nil]; exact Nat.zero_le _
    · by_cases h1 : 8 < x.toNat
      · rw [readS_wide h1]; exact Nat.zero_le _
      · by_cases h2 : r.length < x.toNat
        · rw [readS_short h1 h2]; exact Nat.zero_le _
        · by_cases h3 : 0 < x.toNat ∧ r.getD 0 0 = 0
          · rw [readS_zero h1 h2 h3]; exact Nat.zero_le _
          · by_cases h4 : most < val (r.take x.toNat)
            · rw [readS_long h1 h2 h3 h4]; exact Nat.zero_le _
            · rw [readS_ok h1 h2 h3 h4]; simp; omega
  · rw [readS_bad hf]; exact Nat.le_refl _
theorem failS_len (l : List UInt8) (f code : Int) : (failS l f code).1.length ≤ l.length := by unfold failS; split <;> simp

theorem clone_n (A : Option Addr) (c n : Nat) (l : List UInt8) (Z : Nat → Prop) (w : World) (h : Rd w Z 1 A n (l.map bv)) (hn : n = l.length) (hlen : l.length ≤ 140737488355328) :
    Calls Tryz.prog 87 #[.slice A n c] w fun e w' => ∃ (A' : Option Addr) (c' : Nat) (l' : List UInt8), e = .returned (.slice A' l'.length c') ∧ Hid (l' = l) ∧ OwB w' w.heap.size (.slice A' l'.length c') l' ∧ Below w.heap.size w w' := by
  subst hn
  exact clone_any A c l Z w h hlen

/-- an int is read -/
def intS (l : List UInt8) (f : Int) (most : Int) : Nat × List UInt8 × Int :=
  if 0 ≤ most then readS l f most.toNat else (0, failS (readS l f 0).2.1 (readS l f 0).2.2 13)
def IntTo (w : World) (T eb : Nat) (Z : Nat → Prop) (r : Nat × List UInt8 × Int) (e : Ending) (w' : World) : Prop := e = .returned (.int .i64 (r.1 : Int)) ∧ EyeTo w T eb Z r.2.1 r.2.2 w'
theorem intS_len (l : List UInt8) (f most : Int) : (intS l f most).2.1.length ≤ l.length := by
  unfold intS
  split
  · exact readS_len _ _ _
  · exact Nat.le_trans (failS_len _ _ _) (readS_len _ _ _)

set_option maxHeartbeats 400000 in
theorem int_any (eb : Nat) (Z : Nat → Prop) (A : Option Addr) (c : Nat) (l : List UInt8) (f most : Int) (w : World) (h : EyeAt w 164 eb Z A c l f) (hz : ¬ Z eb) (hm : most < 9223372036854775808) :
    Calls Tryz.prog 67 #[.pointer (some ⟨eb, 0, none⟩), .int .i64 most] w (IntTo w 164 eb Z (intS l f most)) := by
  by_cases h0 : 0 ≤ most
  · have e1 : intS l f most = readS l f most.toNat := by unfold intS; rw [if_pos h0]
    rw [e1]
    have hle := readS_le l f most.toNat
    have hn := eyeNum_any eb Z A c l f most.toNat w h hz
    rw [Int.toNat_of_nonneg h0] at hn
    have HN := Lib.hid hn
    clear hn e1
    generalize readS l f most.toNat = r at *
    obtain ⟨n, l', f'⟩ := r
    dsimp only at *
    go_enter Tryz.func67, Tryz.ntmps67
    go_wp2_with fail
    refine HN.out.mono ?_
    rintro e w1 ⟨rfl, h1⟩
    go_wp2_with fail
    go_ret
    exact ⟨rfl, h1⟩
  · have e1 : intS l f most = (0, failS (readS l f 0).2.1 (readS l f 0).2.2 13) := by unfold intS; rw [if_neg h0]
    rw [e1]
    have hn := eyeNum_any eb Z A c l f 0 w h hz
    have HN := Lib.hid hn
    clear hn e1
    generalize readS l f 0 = r at *
    obtain ⟨n, l', f'⟩ := r
    dsimp only at *
    go_enter Tryz.func67, Tryz.ntmps67
    go_wp2_with fail
    refine HN.out.mono ?_
    rintro e w1 ⟨rfl, h1⟩
    obtain ⟨A1, c1, ha1⟩ := h1.at_
    dsimp only at ha1
    go_wp2_with fail
    refine (fail_any eb Z A1 c1 l' f' 13 w1 ha1).mono ?_
    rintro e w2 ⟨rfl, h2⟩
    go_wp2_with fail
    go_ret
    exact ⟨rfl, h1.trans h2⟩

/-- a text is read -/
def textS (l : List UInt8) (f most : Int) : List UInt8 × List UInt8 × Int :=
  let r := intS l f most
  if r.2.2 ≠ 0 then ([], r.2.1, r.2.2) else if r.2.1.length < r.1 then ([], [], 11) else (r.2.1.take r.1, r.2.1.drop r.1, 0)

set_option maxHeartbeats 400000 in
theorem text_any (eb : Nat) (Z : Nat → Prop) (A : Option Addr) (c : Nat) (l : List UInt8) (f most : Int) (w : World) (h : EyeAt w 164 eb Z A c l f) (hz : ¬ Z eb) (hm : most < 9223372036854775808) (hl : l.length ≤ 140737488355328) :
    Calls Tryz.prog 101 #[.pointer (some ⟨eb, 0, none⟩), .int .i64 most] w fun e w' => ∃ (A' : Option Addr) (c' : Nat) (l' : List UInt8), e = .returned (.slice A' l'.length c') ∧ Hid (l' = (textS l f most).1) ∧ OwB w' w.heap.size (.slice A' l'.length c') l' ∧ EyeTo w 164 eb Z (textS l f most).2.1 (textS l f most).2.2 w' := by
  have hn := int_any eb Z A c l f most w h hz hm
  have HN := Lib.hid hn
  have hil := intS_len l f most
  clear hn
  unfold textS
  generalize intS l f most = r at *
  obtain ⟨n, l1, f1⟩ := r
  dsimp only at *
  by_cases hf : f1 = 0
  · subst hf
    by_cases hlt : l1.length < n
    · rw [if_neg (by simp), if_pos hlt]
      go_enter Tryz.func101, Tryz.ntmps101
      go_wp2_with fail
      refine HN.out.mono ?_
      rintro e w1 ⟨rfl, h1⟩
      obtain ⟨A1, c1, ha1⟩ := h1.at_
      have k1 := ha1.c1
      dsimp only at ha1 k1
      go_wp2_with fail
      refine (take_out eb Z A1 c1 l1 n w1 ha1 hlt).mono ?_
      rintro e w2 ⟨rfl, h2⟩
      go_wp2_with fail
      refine (clone_any none 0 [] (fun _ => True) w2 Rd.nil (by simp)).mono ?_
      rintro e w3 ⟨A3, c3, l3, rfl, hl3, ho3, hb3⟩
      go_wp2_with fail
      go_ret
      exact ⟨A3, c3, l3, rfl, hl3, own_base ho3 (fun g hg => Nat.le_trans (Nat.le_trans h1.fr.size h2.fr.size) (ho3.lt _ hg).1), (h1.trans h2).then_ hb3⟩
    · rw [if_neg (by simp), if_neg hlt]
      go_enter Tryz.func101, Tryz.ntmps101
      go_wp2_with fail
      refine HN.out.mono ?_
      rintro e w1 ⟨rfl, h1⟩
      obtain ⟨A1, c1, ha1⟩ := h1.at_
      have k1 := ha1.c1
      dsimp only at ha1 k1
      go_wp2_with fail
      refine (take_in eb Z A1 c1 l1 0 n w1 ha1 hz (by omega)).mono ?_
      rintro e w2 ⟨c2, rfl, hc2, hm2, h2⟩
      have hD : Rd w2 Z 1 A1 n ((l1.take n).map bv) := by
        have := (Rd.take ha1.2.1 (k := n) (by omega)).fr h2.fr (by rintro b _ hb rfl; exact hz hb)
        rw [Nat.mul_one, ← List.map_take] at this
        exact this
      have hDn : n = (l1.take n).length := by rw [List.length_take]; omega
      have HDn := Lib.hid hDn
      clear hDn
      go_wp2_with fail
      refine (clone_n A1 c2 n (l1.take n) _ w2 hD HDn.out (by rw [← HDn.out]; omega)).mono ?_
      rintro e w3 ⟨A3, c3, l3, rfl, hl3, ho3, hb3⟩
      go_wp2_with fail
      go_ret
      exact ⟨A3, c3, l3, rfl, hl3, own_base ho3 (fun g hg => Nat.le_trans (Nat.le_trans h1.fr.size h2.fr.size) (ho3.lt _ hg).1), (h1.trans h2).then_ hb3⟩
  · rw [if_pos hf]
    have hfb : (f1 != 0) = true := by simpa using hf
    go_enter Tryz.func101, Tryz.ntmps101
    go_wp2_with fail
    refine HN.out.mono ?_
    rintro e w1 ⟨rfl, h1⟩
    obtain ⟨A1, c1, ha1⟩ := h1.at_
    have k1 := ha1.c1
    dsimp only at ha1 k1
    go_wp2_with fail
    go_ret
    exact ⟨none, 0, [], rfl, rfl, OwB.nil _ _, h1⟩

end Go.Proofs.YtdnljmncdbcgeaaGreat

/- Two eyes on the same bytes: grain's and the document's. -/
namespace Go.Proofs.YtdnljmncdbcgeaaGreat
open Go.RowKit

theorem keep1 {w' w3 : World} {T eb bx o : Nat} {Z : Nat → Prop} {l : List UInt8} {f : Int} {u : Value} (hS : w'.cell? ⟨bx, o, none⟩ = some u) (h : EyeTo w' T eb Z l f w3) (hne : bx ≠ eb) : w3.cell? ⟨bx, o, none⟩ = some u :=
  (h.fr.cell (p := ⟨bx, o, none⟩) (World.block_lt_of_cell? w' ⟨bx, o, none⟩ hS) hne).trans hS

theorem sameN_any (A B : Option Addr) (c d : Nat) (l m : List UInt8) (n : Nat) (Z Z' : Nat → Prop) (w : World) (hl : By w Z A l) (hm : Rd w Z' 1 B n (m.map bv)) (hn : n = m.length) :
    Calls Tryz.prog 30 #[.slice A l.length c, .slice B n d] w fun e w' => e = .returned (.bool (l == m)) ∧ w = w' := by
  subst hn
  exact refSame_any A B c d l m Z Z' w hl hm
theorem textS_len (l : List UInt8) (f most : Int) : (textS l f most).2.1.length ≤ l.length := by
  have h := intS_len l f most
  unfold textS
  dsimp only
  split
  · exact h
  · split
    · exact Nat.zero_le _
    · simp; omega

theorem hB2 {W w' : World} {a : Addr} {u : Value} (hS : w'.cell? a = some u ∧ Below W.heap.size W w') : Below W.heap.size W w' := hS.2

theorem EyeAt.mono {w : World} {T eb : Nat} {Z Z' : Nat → Prop} {A : Option Addr} {c : Nat} {l : List UInt8} {f : Int} (h : EyeAt w T eb Z A c l f) (hz : ∀ b, b < w.heap.size → Z b → Z' b) : EyeAt w T eb Z' A c l f := ⟨h.1, h.2.1.mono hz, h.2.2⟩
theorem EyeTo.mono {w w' : World} {T eb : Nat} {Z Z' : Nat → Prop} {l : List UInt8} {f : Int} (h : EyeTo w T eb Z l f w') (hz : ∀ b, Z b → Z' b) : EyeTo w T eb Z' l f w' := by
  obtain ⟨A, c, ha⟩ := h.at_
  exact ⟨⟨A, c, ha.mono (fun b _ hb => hz b hb)⟩, h.fr⟩
/-- a store into a new block beside an eye -/
theorem EyeTo.side {a b c : World} {T eb bx : Nat} {Z : Nat → Prop} {l : List UInt8} {f : Int} (h : EyeTo a T eb Z l f b) (k : Fr (fun x => x = bx) b c) (hb : a.heap.size ≤ bx) (h1 : bx ≠ eb) (hz : ∀ x, Z x → x ≠ bx) : EyeTo a T eb Z l f c := by
  obtain ⟨A, c', ha⟩ := h.at_
  exact ⟨⟨A, c', ha.fr k (fun e => h1 e.symm) (fun x _ hx => hz x hx)⟩, h.fr.trans k (fun x hx e => by omega)⟩
/-- new memory ahead of an eye's method -/
theorem EyeTo.after {a b c : World} {T eb : Nat} {Z : Nat → Prop} {l : List UInt8} {f : Int} (k : Below a.heap.size a b) (h : EyeTo b T eb Z l f c) : EyeTo a T eb Z l f c :=
  ⟨h.at_, (Fr.of_below k _).trans h.fr (fun _ _ h => h)⟩
end Go.Proofs.YtdnljmncdbcgeaaGreat

/- leaf.Read, tenderref07.Read, tenderref07.Bytes. -/
namespace Go.Proofs.YtdnljmncdbcgeaaGreat
open Go.RowKit

/-- a leaf is read: its kind, its bytes, what is left, the fault -/
def leafS (l : List UInt8) (f : Int) : Nat × List UInt8 × List UInt8 × Int :=
  let r := intS l f 2
  let s := if r.1 = 1 then textS r.2.1 r.2.2 4096 else ([], r.2.1, r.2.2)
  if s.2.2 ≠ 0 then (0, [], s.2.1, s.2.2) else (r.1, s.1, s.2.1, s.2.2)
theorem leafS_len (l : List UInt8) (f : Int) : (leafS l f).2.2.1.length ≤ l.length := by
  have h1 := intS_len l f 2
  have h2 := textS_len (intS l f 2).2.1 (intS l f 2).2.2 4096
  unfold leafS
  dsimp only
  split
  · split <;> dsimp only <;> omega
  · split <;> dsimp only <;> omega

set_option maxHeartbeats 1000000 in
theorem leafRead_any (eb : Nat) (Z : Nat → Prop) (A : Option Addr) (c : Nat) (l : List UInt8) (f : Int) (w : World) (h : EyeAt w 164 eb Z A c l f) (hz : ¬ Z eb) (hl : l.length ≤ 140737488355328) :
    Calls Tryz.prog 102 #[.pointer (some ⟨eb, 0, none⟩)] w fun e w' => ∃ (A' : Option Addr) (c' : Nat) (l' : List UInt8), e = .returned (.agg #[.int .i64 ((leafS l f).1 : Int), .slice A' l'.length c']) ∧ Hid (l' = (leafS l f).2.1) ∧ OwB w' w.heap.size (.slice A' l'.length c') l' ∧ EyeTo w 164 eb Z (leafS l f).2.2.1 (leafS l f).2.2.2 w' := by
  have hzz : ∀ x, (fun b => Z b ∧ b < w.heap.size) x → Z x := fun x h => h.1
  have hzw : ∀ x, (fun b => Z b ∧ b < w.heap.size) x → x ≠ w.heap.size := fun x h e => by have := h.2; omega
  have hz : ¬ (fun b => Z b ∧ b < w.heap.size) eb := fun h => hz h.1
  replace h := h.mono (Z' := fun b => Z b ∧ b < w.heap.size) (fun b h1 h2 => ⟨h2, h1⟩)
  suffices hs : Calls Tryz.prog 102 #[.pointer (some ⟨eb, 0, none⟩)] w fun e w' => ∃ (A' : Option Addr) (c' : Nat) (l' : List UInt8), e = .returned (.agg #[.int .i64 ((leafS l f).1 : Int), .slice A' l'.length c']) ∧ Hid (l' = (leafS l f).2.1) ∧ OwB w' w.heap.size (.slice A' l'.length c') l' ∧ EyeTo w 164 eb (fun b => Z b ∧ b < w.heap.size) (leafS l f).2.2.1 (leafS l f).2.2.2 w' by
    refine hs.mono ?_
    rintro e w' ⟨A', c', l', h1, h2, h3, h4⟩
    exact ⟨A', c', l', h1, h2, h3, h4.mono hzz⟩
  clear hzz
  generalize hZ' : (fun b => Z b ∧ b < w.heap.size) = Y at *
  clear hZ'
  have hn := fun w (h : EyeAt w 164 eb Y A c l f) => int_any eb Y A c l f 2 w h hz (by omega)
  have HN := Lib.hid hn
  have hil := intS_len l f 2
  clear hn
  unfold leafS
  generalize intS l f 2 = r at *
  obtain ⟨n, l1, f1⟩ := r
  dsimp only at *
  have hlt := h.1.lt
  by_cases hn1 : n = 1
  · rw [if_pos hn1]
    subst hn1
    have htx := fun w A2 c2 h => text_any eb Y A2 c2 l1 f1 4096 w h hz (by omega) (by omega)
    have HTX := Lib.hid htx
    clear htx
    generalize textS l1 f1 4096 = r at *
    obtain ⟨t, l2, f2⟩ := r
    dsimp only at *
    by_cases hf : f2 = 0
    · subst hf
      rw [if_neg (by simp)]
      go_enter Tryz.func102, Tryz.ntmps102
      go_wp2_with fail
      have bx0 := Blk.new w 25 #[.int .i64 0, .slice none 0 0]
      have hlow0 : Below w.heap.size w (w.alloc (.cells #[.int .i64 0, .slice none 0 0] 25)) := (Below.refl _ _).alloc (Nat.le_refl _) _
      refine (HN.out _ (h.below hlow0)).mono ?_
      rintro e w1 ⟨rfl, h1⟩
      dsimp only at h1
      have hs1 := h1.fr.size
      simp at hs1
      have bx1 : Blk w1 w.heap.size 25 #[.int .i64 0, .slice none 0 0] := bx0.fr h1.fr (by omega)
      have ht1 := EyeTo.after hlow0 h1
      have bx2 : Blk (w1.setCell ⟨w.heap.size, 0, none⟩ (.int .i64 1)) w.heap.size 25 #[.int .i64 1, .slice none 0 0] := by simpa using bx1.set_ 0 (.int .i64 1)
      have hf2 : Fr (fun x => x = w.heap.size) w1 (w1.setCell ⟨w.heap.size, 0, none⟩ (.int .i64 1)) := (Fr.refl (fun x => x = w.heap.size) w1).setAt w.heap.size 0 rfl _
      have ht2 := ht1.side hf2 (Nat.le_refl _) (by omega) hzw
      have hs2 := hf2.size
      have q0 := bx1.cell 0
      have q1 := bx1.frozen 0
      have r0 : (w1.setCell ⟨w.heap.size, 0, none⟩ (.int .i64 1)).cell? ⟨w.heap.size, 0, none⟩ = some (.int .i64 1) := bx2.cell 0
      obtain ⟨A2, c2, ha2⟩ := ht2.at_
      clear h1 ht1 hf2 bx0 hlow0 HN
      go_wp2_with fail
      clear r0 q0 q1 bx1
      generalize w1.setCell ⟨w.heap.size, 0, none⟩ (.int .i64 1) = W1 at *
      refine (HTX.out W1 A2 c2 ha2).mono ?_
      rintro e w3 ⟨A4, c4, l4, rfl, hl4, ho4, ht4⟩
      have ht3 := ht2.trans ht4
      have bx3 : Blk w3 w.heap.size 25 #[.int .i64 1, .slice none 0 0] := bx2.fr ht4.fr (by omega)
      have bxW : Blk (w3.setCell ⟨w.heap.size, 1, none⟩ (.slice A4 l4.length c4)) w.heap.size 25 #[.int .i64 1, .slice A4 l4.length c4] := by simpa using bx3.set_ 1 (.slice A4 l4.length c4)
      have hfW : Fr (fun x => x = w.heap.size) w3 (w3.setCell ⟨w.heap.size, 1, none⟩ (.slice A4 l4.length c4)) := (Fr.refl (fun x => x = w.heap.size) w3).setAt w.heap.size 1 rfl _
      have hsW := bx2.lt
      have ht := ht3.side hfW (Nat.le_refl _) (by omega) hzw
      have ho : OwB (w3.setCell ⟨w.heap.size, 1, none⟩ (.slice A4 l4.length c4)) w.heap.size (.slice A4 l4.length c4) l4 := own_base (ho4.fr hfW (fun g hg e => by have := (ho4.lt g hg).1; omega)) (fun g hg => by have := (ho4.lt g hg).1; omega)
      have q0 := bx3.cell 1
      have q1 := bx3.frozen 1
      obtain ⟨A3, c3, ha3⟩ := ht.at_
      go_wp2_with fail
      clear q0 q1 bx3
      generalize w3.setCell ⟨w.heap.size, 1, none⟩ (.slice A4 l4.length c4) = W at *
      refine (fault_any eb Y A3 c3 l2 0 _ ha3).mono ?_
      rintro e w4 ⟨rfl, rfl⟩
      have d0 : W.cell? ⟨w.heap.size, 0, none⟩ = some (.int .i64 1) := bxW.cell 0
      have d1 : W.cell? ⟨w.heap.size, 1, none⟩ = some (.slice A4 l4.length c4) := bxW.cell 1
      have g0 := bxW.frozen 0
      have g1 := bxW.frozen 1
      go_wp2_with fail
      obtain ⟨bxV, hfV⟩ := Blk.two (x' := .int .i64 1) (y' := .slice A4 l4.length c4) bxW
      have htV := ht.side hfV (Nat.le_refl _) (by omega) hzw
      have hoV := ho.past bxW (by decide) hfV
      generalize (W.setCell ⟨w.heap.size, 0, none⟩ (.int .i64 1)).setCell ⟨w.heap.size, 1, none⟩ (.slice A4 l4.length c4) = V at *
      have x0 : V.cell? ⟨w.heap.size, 0, none⟩ = some (.int .i64 1) := bxV.cell 0
      have x1 : V.cell? ⟨w.heap.size, 1, none⟩ = some (.slice A4 l4.length c4) := bxV.cell 1
      refine bodyPost_ret (v := .agg #[.int .i64 1, .slice A4 l4.length c4]) (by simp [results, Tryz.results102, go_sem, x0, x1]) rfl ?_
      exact ⟨A4, c4, l4, rfl, hl4, hoV, htV⟩
    · rw [if_pos hf]
      have hfb : (f2 != 0) = true := by simpa using hf
      go_enter Tryz.func102, Tryz.ntmps102
      go_wp2_with fail
      have bx0 := Blk.new w 25 #[.int .i64 0, .slice none 0 0]
      have hlow0 : Below w.heap.size w (w.alloc (.cells #[.int .i64 0, .slice none 0 0] 25)) := (Below.refl _ _).alloc (Nat.le_refl _) _
      refine (HN.out _ (h.below hlow0)).mono ?_
      rintro e w1 ⟨rfl, h1⟩
      dsimp only at h1
      have hs1 := h1.fr.size
      simp at hs1
      have bx1 : Blk w1 w.heap.size 25 #[.int .i64 0, .slice none 0 0] := bx0.fr h1.fr (by omega)
      have ht1 := EyeTo.after hlow0 h1
      have bx2 : Blk (w1.setCell ⟨w.heap.size, 0, none⟩ (.int .i64 1)) w.heap.size 25 #[.int .i64 1, .slice none 0 0] := by simpa using bx1.set_ 0 (.int .i64 1)
      have hf2 : Fr (fun x => x = w.heap.size) w1 (w1.setCell ⟨w.heap.size, 0, none⟩ (.int .i64 1)) := (Fr.refl (fun x => x = w.heap.size) w1).setAt w.heap.size 0 rfl _
      have ht2 := ht1.side hf2 (Nat.le_refl _) (by omega) hzw
      have hs2 := hf2.size
      have q0 := bx1.cell 0
      have q1 := bx1.frozen 0
      have r0 : (w1.setCell ⟨w.heap.size, 0, none⟩ (.int .i64 1)).cell? ⟨w.heap.size, 0, none⟩ = some (.int .i64 1) := bx2.cell 0
      obtain ⟨A2, c2, ha2⟩ := ht2.at_
      clear h1 ht1 hf2 bx0 hlow0 HN
      go_wp2_with fail
      clear r0 q0 q1 bx1
      generalize w1.setCell ⟨w.heap.size, 0, none⟩ (.int .i64 1) = W1 at *
      refine (HTX.out W1 A2 c2 ha2).mono ?_
      rintro e w3 ⟨A4, c4, l4, rfl, hl4, ho4, ht4⟩
      have ht3 := ht2.trans ht4
      have bx3 : Blk w3 w.heap.size 25 #[.int .i64 1, .slice none 0 0] := bx2.fr ht4.fr (by omega)
      have bxW : Blk (w3.setCell ⟨w.heap.size, 1, none⟩ (.slice A4 l4.length c4)) w.heap.size 25 #[.int .i64 1, .slice A4 l4.length c4] := by simpa using bx3.set_ 1 (.slice A4 l4.length c4)
      have hfW : Fr (fun x => x = w.heap.size) w3 (w3.setCell ⟨w.heap.size, 1, none⟩ (.slice A4 l4.length c4)) := (Fr.refl (fun x => x = w.heap.size) w3).setAt w.heap.size 1 rfl _
      have hsW := bx2.lt
      have ht := ht3.side hfW (Nat.le_refl _) (by omega) hzw
      have ho : OwB (w3.setCell ⟨w.heap.size, 1, none⟩ (.slice A4 l4.length c4)) w.heap.size (.slice A4 l4.length c4) l4 := own_base (ho4.fr hfW (fun g hg e => by have := (ho4.lt g hg).1; omega)) (fun g hg => by have := (ho4.lt g hg).1; omega)
      have q0 := bx3.cell 1
      have q1 := bx3.frozen 1
      obtain ⟨A3, c3, ha3⟩ := ht.at_
      go_wp2_with fail
      clear q0 q1 bx3
      generalize w3.setCell ⟨w.heap.size, 1, none⟩ (.slice A4 l4.length c4) = W at *
      refine (fault_any eb Y A3 c3 l2 f2 _ ha3).mono ?_
      rintro e w4 ⟨rfl, rfl⟩
      have d0 := bxW.cell 0
      have d1 := bxW.cell 1
      have g0 := bxW.frozen 0
      have g1 := bxW.frozen 1
      go_wp2_with fail
      obtain ⟨bxV, hfV⟩ := Blk.two (x' := .int .i64 0) (y' := .slice none 0 0) bxW
      have htV := ht.side hfV (Nat.le_refl _) (by omega) hzw
      generalize (W.setCell ⟨w.heap.size, 0, none⟩ (.int .i64 0)).setCell ⟨w.heap.size, 1, none⟩ (.slice none 0 0) = V at *
      have x0 : V.cell? ⟨w.heap.size, 0, none⟩ = some (.int .i64 0) := bxV.cell 0
      have x1 : V.cell? ⟨w.heap.size, 1, none⟩ = some (.slice none 0 0) := bxV.cell 1
      refine bodyPost_ret (v := .agg #[.int .i64 0, .slice none 0 0]) (by simp [results, Tryz.results102, go_sem, x0, x1]) rfl ?_
      exact ⟨none, 0, [], rfl, rfl, OwB.nil _ _, htV⟩
  · rw [if_neg hn1]
    have hn1b : ((n : Int) == 1) = false := by rw [beq_eq_false_iff_ne]; omega
    dsimp only
    by_cases hf : f1 = 0
    · subst hf
      rw [if_neg (by simp)]
      go_enter Tryz.func102, Tryz.ntmps102
      go_wp2_with fail
      have bx0 := Blk.new w 25 #[.int .i64 0, .slice none 0 0]
      have hlow0 : Below w.heap.size w (w.alloc (.cells #[.int .i64 0, .slice none 0 0] 25)) := (Below.refl _ _).alloc (Nat.le_refl _) _
      refine (HN.out _ (h.below hlow0)).mono ?_
      rintro e w1 ⟨rfl, h1⟩
      dsimp only at h1
      have hs1 := h1.fr.size
      simp at hs1
      have bx1 : Blk w1 w.heap.size 25 #[.int .i64 0, .slice none 0 0] := bx0.fr h1.fr (by omega)
      have ht1 := EyeTo.after hlow0 h1
      have bx2 : Blk (w1.setCell ⟨w.heap.size, 0, none⟩ (.int .i64 n)) w.heap.size 25 #[.int .i64 n, .slice none 0 0] := by simpa using bx1.set_ 0 (.int .i64 n)
      have hf2 : Fr (fun x => x = w.heap.size) w1 (w1.setCell ⟨w.heap.size, 0, none⟩ (.int .i64 n)) := (Fr.refl (fun x => x = w.heap.size) w1).setAt w.heap.size 0 rfl _
      have ht2 := ht1.side hf2 (Nat.le_refl _) (by omega) hzw
      have hs2 := hf2.size
      have q0 := bx1.cell 0
      have q1 := bx1.frozen 0
      have r0 : (w1.setCell ⟨w.heap.size, 0, none⟩ (.int .i64 n)).cell? ⟨w.heap.size, 0, none⟩ = some (.int .i64 n) := bx2.cell 0
      obtain ⟨A2, c2, ha2⟩ := ht2.at_
      clear h1 ht1 hf2 bx0 hlow0 HN
      go_wp2_with fail
      clear r0 q0 q1 bx1
      generalize w1.setCell ⟨w.heap.size, 0, none⟩ (.int .i64 n) = W at *
      have bxW := bx2
      have ht := ht2
      refine (fault_any eb Y A2 c2 l1 0 _ ha2).mono ?_
      rintro e w4 ⟨rfl, rfl⟩
      have d0 : W.cell? ⟨w.heap.size, 0, none⟩ = some (.int .i64 n) := bxW.cell 0
      have d1 : W.cell? ⟨w.heap.size, 1, none⟩ = some (.slice none 0 0) := bxW.cell 1
      have g0 := bxW.frozen 0
      have g1 := bxW.frozen 1
      go_wp2_with fail
      obtain ⟨bxV, hfV⟩ := Blk.two (x' := .int .i64 n) (y' := .slice none 0 0) bxW
      have htV := ht.side hfV (Nat.le_refl _) (by omega) hzw
      generalize (W.setCell ⟨w.heap.size, 0, none⟩ (.int .i64 n)).setCell ⟨w.heap.size, 1, none⟩ (.slice none 0 0) = V at *
      have x0 : V.cell? ⟨w.heap.size, 0, none⟩ = some (.int .i64 n) := bxV.cell 0
      have x1 : V.cell? ⟨w.heap.size, 1, none⟩ = some (.slice none 0 0) := bxV.cell 1
      refine bodyPost_ret (v := .agg #[.int .i64 n, .slice none 0 0]) (by simp [results, Tryz.results102, go_sem, x0, x1]) rfl ?_
      exact ⟨none, 0, [], rfl, rfl, OwB.nil _ _, htV⟩
    · rw [if_pos hf]
      have hfb : (f1 != 0) = true := by simpa using hf
      go_enter Tryz.func102, Tryz.ntmps102
      go_wp2_with fail
      have bx0 := Blk.new w 25 #[.int .i64 0, .slice none 0 0]
      have hlow0 : Below w.heap.size w (w.alloc (.cells #[.int .i64 0, .slice none 0 0] 25)) := (Below.refl _ _).alloc (Nat.le_refl _) _
      refine (HN.out _ (h.below hlow0)).mono ?_
      rintro e w1 ⟨rfl, h1⟩
      dsimp only at h1
      have hs1 := h1.fr.size
      simp at hs1
      have bx1 : Blk w1 w.heap.size 25 #[.int .i64 0, .slice none 0 0] := bx0.fr h1.fr (by omega)
      have ht1 := EyeTo.after hlow0 h1
      have bx2 : Blk (w1.setCell ⟨w.heap.size, 0, none⟩ (.int .i64 n)) w.heap.size 25 #[.int .i64 n, .slice none 0 0] := by simpa using bx1.set_ 0 (.int .i64 n)
      have hf2 : Fr (fun x => x = w.heap.size) w1 (w1.setCell ⟨w.heap.size, 0, none⟩ (.int .i64 n)) := (Fr.refl (fun x => x = w.heap.size) w1).setAt w.heap.size 0 rfl _
      have ht2 := ht1.side hf2 (Nat.le_refl _) (by omega) hzw
      have hs2 := hf2.size
      have q0 := bx1.cell 0
      have q1 := bx1.frozen 0
      have r0 : (w1.setCell ⟨w.heap.size, 0, none⟩ (.int .i64 n)).cell? ⟨w.heap.size, 0, none⟩ = some (.int .i64 n) := bx2.cell 0
      obtain ⟨A2, c2, ha2⟩ := ht2.at_
      clear h1 ht1 hf2 bx0 hlow0 HN
      go_wp2_with fail
      clear r0 q0 q1 bx1
      generalize w1.setCell ⟨w.heap.size, 0, none⟩ (.int .i64 n) = W at *
      have bxW := bx2
      have ht := ht2
      refine (fault_any eb Y A2 c2 l1 f1 _ ha2).mono ?_
      rintro e w4 ⟨rfl, rfl⟩
      have d0 := bxW.cell 0
      have d1 := bxW.cell 1
      have g0 := bxW.frozen 0
      have g1 := bxW.frozen 1
      go_wp2_with fail
      obtain ⟨bxV, hfV⟩ := Blk.two (x' := .int .i64 0) (y' := .slice none 0 0) bxW
      have htV := ht.side hfV (Nat.le_refl _) (by omega) hzw
      generalize (W.setCell ⟨w.heap.size, 0, none⟩ (.int .i64 0)).setCell ⟨w.heap.size, 1, none⟩ (.slice none 0 0) = V at *
      have x0 : V.cell? ⟨w.heap.size, 0, none⟩ = some (.int .i64 0) := bxV.cell 0
      have x1 : V.cell? ⟨w.heap.size, 1, none⟩ = some (.slice none 0 0) := bxV.cell 1
      refine bodyPost_ret (v := .agg #[.int .i64 0, .slice none 0 0]) (by simp [results, Tryz.results102, go_sem, x0, x1]) rfl ?_
      exact ⟨none, 0, [], rfl, rfl, OwB.nil _ _, htV⟩
end Go.Proofs.YtdnljmncdbcgeaaGreat

/- entry.Read. -/
namespace Go.Proofs.YtdnljmncdbcgeaaGreat
open Go.RowKit

/-- what is read -/
structure ER where
  p : List UInt8
  n : Nat
  k : Nat
  t : List UInt8
  L : List UInt8
  f : Int
/-- an entry is read -/
def entS (l : List UInt8) (f : Int) : ER :=
  let r1 := textS l f 96
  let r2 := readS r1.2.1 r1.2.2 18446744073709551615
  let r3 := leafS r2.2.1 r2.2.2
  let r4 := if checkE r1.1 r2.1 r3.1 r3.2.1.length = 0 then (r3.2.2.1, r3.2.2.2) else failS r3.2.2.1 r3.2.2.2 2
  if r4.2 ≠ 0 then ⟨[], 0, 0, [], r4.1, r4.2⟩ else ⟨r1.1, r2.1, r3.1, r3.2.1, r4.1, r4.2⟩
theorem textS_tlen (l : List UInt8) (f most : Int) : (textS l f most).1.length ≤ l.length := by
  have h := intS_len l f most
  unfold textS
  dsimp only
  split
  · simp
  · split
    · simp
    · simp only [List.length_take]; omega
theorem leafS_tlen (l : List UInt8) (f : Int) : (leafS l f).2.1.length ≤ l.length := by
  have h1 := intS_len l f 2
  have h2 := textS_tlen (intS l f 2).2.1 (intS l f 2).2.2 4096
  unfold leafS
  dsimp only
  split
  · split <;> simp <;> omega
  · split <;> simp
theorem entS_len (l : List UInt8) (f : Int) : (entS l f).L.length ≤ l.length := by
  have h1 := textS_len l f 96
  have h2 := readS_len (textS l f 96).2.1 (textS l f 96).2.2 18446744073709551615
  have h3 := leafS_len (readS (textS l f 96).2.1 (textS l f 96).2.2 18446744073709551615).2.1 (readS (textS l f 96).2.1 (textS l f 96).2.2 18446744073709551615).2.2
  have h4 := failS_len (leafS (readS (textS l f 96).2.1 (textS l f 96).2.2 18446744073709551615).2.1 (readS (textS l f 96).2.1 (textS l f 96).2.2 18446744073709551615).2.2).2.2.1 (leafS (readS (textS l f 96).2.1 (textS l f 96).2.2 18446744073709551615).2.1 (readS (textS l f 96).2.1 (textS l f 96).2.2 18446744073709551615).2.2).2.2.2 2
  unfold entS
  dsimp only
  split <;> split <;> dsimp only <;> omega
/-- a box of the call's own, one cell stored -/
theorem box_set {w w1 : World} {T eb bx t o : Nat} {Y : Nat → Prop} {L : List UInt8} {f : Int} {cs : Array Value} (ht : EyeTo w T eb Y L f w1) (hb : Blk w1 bx t cs) (h1 : w.heap.size ≤ bx) (h2 : bx ≠ eb) (h3 : ∀ x, Y x → x ≠ bx) (u : Value) :
    EyeTo w T eb Y L f (w1.setCell ⟨bx, o, none⟩ u) ∧ Blk (w1.setCell ⟨bx, o, none⟩ u) bx t (cs.setIfInBounds o u) ∧ Fr (fun x => x = bx) w1 (w1.setCell ⟨bx, o, none⟩ u) :=
  have k : Fr (fun x => x = bx) w1 (w1.setCell ⟨bx, o, none⟩ u) := (Fr.refl (fun x => x = bx) w1).setAt bx o rfl _
  ⟨ht.side k h1 h2 h3, hb.set_ o u, k⟩

set_option maxRecDepth 100000 in
set_option maxHeartbeats 2000000 in
theorem entryRead_any (eb : Nat) (Z : Nat → Prop) (A : Option Addr) (c : Nat) (l : List UInt8) (f : Int) (w : World) (h : EyeAt w 164 eb Z A c l f) (hz : ¬ Z eb) (hl : l.length ≤ 140737488355328) :
    Calls Tryz.prog 69 #[.pointer (some ⟨eb, 0, none⟩)] w fun e w' => ∃ (p : ByteArray) (A' : Option Addr) (c' : Nat) (l' : List UInt8), e = .returned (.agg #[.string p, .int .u64 ((entS l f).n : Int), .int .i64 ((entS l f).k : Int), .slice A' l'.length c']) ∧ Hid (tl p = (entS l f).p) ∧ Hid (l' = (entS l f).t) ∧ OwB w' w.heap.size (.slice A' l'.length c') l' ∧ EyeTo w 164 eb Z (entS l f).L (entS l f).f w' := by
  have hzz : ∀ x, (fun b => Z b ∧ b < w.heap.size) x → Z x := fun x h => h.1
  have hzw : ∀ x, (fun b => Z b ∧ b < w.heap.size) x → x ≠ w.heap.size := fun x h e => by have := h.2; omega
  have hz : ¬ (fun b => Z b ∧ b < w.heap.size) eb := fun h => hz h.1
  replace h := h.mono (Z' := fun b => Z b ∧ b < w.heap.size) (fun b h1 h2 => ⟨h2, h1⟩)
  suffices hs : Calls Tryz.prog 69 #[.pointer (some ⟨eb, 0, none⟩)] w fun e w' => ∃ (p : ByteArray) (A' : Option Addr) (c' : Nat) (l' : List UInt8), e = .returned (.agg #[.string p, .int .u64 ((entS l f).n : Int), .int .i64 ((entS l f).k : Int), .slice A' l'.length c']) ∧ Hid (tl p = (entS l f).p) ∧ Hid (l' = (entS l f).t) ∧ OwB w' w.heap.size (.slice A' l'.length c') l' ∧ EyeTo w 164 eb (fun b => Z b ∧ b < w.heap.size) (entS l f).L (entS l f).f w' by
    refine hs.mono ?_
    rintro e w' ⟨p, A', c', l', h1, h2, h3, h4, h5⟩
    exact ⟨p, A', c', l', h1, h2, h3, h4, h5.mono hzz⟩
  clear hzz
  generalize hZ' : (fun b => Z b ∧ b < w.heap.size) = Y at *
  clear hZ'
  have hlt := h.1.lt
  -- the parts of what is read
  have HTX := Lib.hid (fun w h => text_any eb Y A c l f 96 w h hz (by omega) hl)
  have l1' := textS_len l f 96
  have l1t := textS_tlen l f 96
  unfold entS
  generalize textS l f 96 = r1 at *
  obtain ⟨t1, L1, f1⟩ := r1
  dsimp only at *
  have HNM := Lib.hid (fun w A c h => eyeNum_any eb Y A c L1 f1 18446744073709551615 w h hz)
  have l2' := readS_len L1 f1 18446744073709551615
  have n2 := readS_le L1 f1 18446744073709551615
  generalize readS L1 f1 18446744073709551615 = r2 at *
  obtain ⟨n, L2, f2⟩ := r2
  dsimp only at *
  have HLF := Lib.hid (fun w A c h => leafRead_any eb Y A c L2 f2 w h hz (by omega))
  have l3' := leafS_len L2 f2
  have l3t := leafS_tlen L2 f2
  generalize leafS L2 f2 = r3 at *
  obtain ⟨k, t3, L3, f3⟩ := r3
  dsimp only at *
  obtain ⟨M, hM⟩ : ∃ M, M = (if (if checkE t1 (n : Int) (k : Int) t3.length = 0 then (L3, f3) else failS L3 f3 2).2 ≠ 0 then (⟨[], 0, 0, [], (if checkE t1 (n : Int) (k : Int) t3.length = 0 then (L3, f3) else failS L3 f3 2).1, (if checkE t1 (n : Int) (k : Int) t3.length = 0 then (L3, f3) else failS L3 f3 2).2⟩ : ER) else ⟨t1, n, k, t3, (if checkE t1 (n : Int) (k : Int) t3.length = 0 then (L3, f3) else failS L3 f3 2).1, (if checkE t1 (n : Int) (k : Int) t3.length = 0 then (L3, f3) else failS L3 f3 2).2⟩) := ⟨_, rfl⟩
  rw [← hM]
  have HM := Lib.hid hM
  clear hM
  have bx0 := Blk.new w 59 #[.string ⟨#[]⟩, .int .u64 0, .int .i64 0, .slice none 0 0]
  have hlow0 : Below w.heap.size w (w.alloc (.cells #[.string ⟨#[]⟩, .int .u64 0, .int .i64 0, .slice none 0 0] 59)) := (Below.refl _ _).alloc (Nat.le_refl _) _
  have hz0 : (w.alloc (.cells #[.string ⟨#[]⟩, .int .u64 0, .int .i64 0, .slice none 0 0] 59)).heap.size = w.heap.size + 1 := by simp
  go_enter Tryz.func69, Tryz.ntmps69
  go_wp2_with fail
  generalize w.alloc (.cells #[.string ⟨#[]⟩, .int .u64 0, .int .i64 0, .slice none 0 0] 59) = W0 at *
  refine (HTX.out _ (h.below hlow0)).mono ?_
  rintro e w1 ⟨A1, c1, l1, rfl, hl1, ho1, h1⟩
  obtain rfl := hl1.out
  have hs1 := h1.fr.size
  have bx1 : Blk w1 w.heap.size 59 #[.string ⟨#[]⟩, .int .u64 0, .int .i64 0, .slice none 0 0] := bx0.fr h1.fr (by omega)
  have ht1 := EyeTo.after hlow0 h1
  have k1 := conv_by ho1.rd c1
  have hl1s : l1.length ≤ 140737488355328 := by omega
  have q0 : w1.cell? ⟨w.heap.size, 0, none⟩ = some (.string ⟨#[]⟩) := bx1.cell 0
  have q1 := bx1.frozen 0
  go_wp2_with fail
  obtain ⟨ht2, bx2, hf2⟩ := box_set (o := 0) ht1 bx1 (Nat.le_refl _) (by omega) hzw (.string ⟨l1.toArray⟩)
  have hs2 := hf2.size
  clear q0 q1 k1 bx0 hlow0 h1 ht1 HTX ho1
  generalize w1.setCell ⟨w.heap.size, 0, none⟩ (.string ⟨l1.toArray⟩) = W2 at *
  obtain ⟨A2, c2, ha2⟩ := ht2.at_
  refine (HNM.out _ A2 c2 ha2).mono ?_
  rintro e w3 ⟨rfl, h3⟩
  dsimp only at h3
  have ht3 := ht2.trans h3
  have bx3 := bx2.fr h3.fr (by omega)
  have hs3 := h3.fr.size
  have q0 := bx3.cell 1
  have q1 := bx3.frozen 1
  simp at q0
  go_wp2_with fail
  obtain ⟨ht4, bx4, hf4⟩ := box_set (o := 1) ht3 bx3 (Nat.le_refl _) (by omega) hzw (.int .u64 (n : Int))
  have hs4 := hf4.size
  clear q0 q1 bx2 h3 ht3 ht2 HNM hf2 ha2
  generalize w3.setCell ⟨w.heap.size, 1, none⟩ (.int .u64 (n : Int)) = W4 at *
  obtain ⟨A4, c4, ha4⟩ := ht4.at_
  refine (HLF.out _ A4 c4 ha4).mono ?_
  rintro e w5 ⟨A5, c5, l5, rfl, hl5, ho5, h5⟩
  obtain rfl := hl5.out
  have ht5 := ht4.trans h5
  have bx5 := bx4.fr h5.fr (by omega)
  have hs5 := h5.fr.size
  have hl5s : l5.length ≤ 140737488355328 := by omega
  have q2 := bx5.cell 2
  have q3 := bx5.cell 3
  have g2 := bx5.frozen 2
  have g3 := bx5.frozen 3
  simp at q2 q3
  obtain ⟨ht6, bx6, hf6⟩ := box_set (o := 2) ht5 bx5 (Nat.le_refl _) (by omega) hzw (.int .i64 (k : Int))
  obtain ⟨ht7, bx7, hf7⟩ := box_set (o := 3) ht6 bx6 (Nat.le_refl _) (by omega) hzw (.slice A5 l5.length c5)
  have ho7 := (ho5.fr hf6 (fun g hg e => by have := (ho5.lt g hg).1; omega)).fr hf7 (fun g hg e => by have := (ho5.lt g hg).1; omega)
  replace ho7 := own_base (base' := w.heap.size) ho7 (fun g hg => by have := (ho5.lt g hg).1; omega)
  have r0 := bx7.cell 0
  have r1 := bx7.cell 1
  have r2 := bx7.cell 2
  have r3 := bx7.cell 3
  simp at r0 r1 r2 r3
  go_wp2_with fail
  simp only [List.setIfInBounds_toArray] at bx7
  replace bx7 : Blk ((w5.setCell ⟨w.heap.size, 2, none⟩ (.int .i64 (k : Int))).setCell ⟨w.heap.size, 3, none⟩ (.slice A5 l5.length c5)) w.heap.size 59 #[.string ⟨l1.toArray⟩, .int .u64 (n : Int), .int .i64 (k : Int), .slice A5 l5.length c5] := bx7
  clear q2 q3 g2 g3 bx6 bx5 ht5 ht6 ht4 h5 HLF hf4 hf6 hf7 ha4 r0 r1 r2 r3 bx4 bx3
  generalize (w5.setCell ⟨w.heap.size, 2, none⟩ (.int .i64 (k : Int))).setCell ⟨w.heap.size, 3, none⟩ (.slice A5 l5.length c5) = W7 at *
  have HCK := Lib.hid (fun w => entryCheck_any ⟨l1.toArray⟩ (n : Int) (k : Int) A5 l5.length c5 w (by show l1.length ≤ _; omega) (by omega) hl5s)
  rw [show tl ⟨l1.toArray⟩ = l1 from rfl] at HCK
  by_cases hC : checkE l1 (n : Int) (k : Int) l5.length = 0
  · have hM1 : M = (if f3 ≠ 0 then ⟨[], 0, 0, [], L3, f3⟩ else ⟨l1, n, k, l5, L3, f3⟩) := by
      have h := HM.out
      rw [if_pos hC] at h
      exact h
    clear HM
    have HM := Lib.hid hM1
    clear hM1
    rw [hC] at HCK
    clear hC
    refine (HCK.out _).mono ?_
    rintro e w8 ⟨rfl, hb8⟩
    have ht8 := ht7.then_ hb8
    have bx8 := bx7.below hb8
    have ho8 := OwB.below ho7 hb8
    have hs8 := hb8.size
    obtain ⟨A8, c8, ha8⟩ := ht8.at_
    clear HCK ht7 bx7 ho7 hb8
    go_wp2_with fail
    refine (fault_any eb Y A8 c8 L3 f3 _ ha8).mono ?_
    rintro e w9 ⟨rfl, rfl⟩
    have r0 : w8.cell? ⟨w.heap.size, 0, none⟩ = some (.string ⟨l1.toArray⟩) := bx8.cell 0
    have r1 : w8.cell? ⟨w.heap.size, 1, none⟩ = some (.int .u64 (n : Int)) := bx8.cell 1
    have r2 : w8.cell? ⟨w.heap.size, 2, none⟩ = some (.int .i64 (k : Int)) := bx8.cell 2
    have r3 : w8.cell? ⟨w.heap.size, 3, none⟩ = some (.slice A5 l5.length c5) := bx8.cell 3
    have g0 := bx8.frozen 0
    have g1 := bx8.frozen 1
    have g2 := bx8.frozen 2
    have g3 := bx8.frozen 3
    have hbw := bx8.lt
    by_cases hf : f3 = 0
    · subst hf
      have HM2 := Lib.hid (HM.out.trans (if_neg (by simp)))
      clear HM
      go_wp2_with fail
      obtain ⟨v1, b1, f1'⟩ := box_set (o := 0) ht8 bx8 (Nat.le_refl _) (by omega) hzw (.string ⟨l1.toArray⟩)
      obtain ⟨v2, b2, f2'⟩ := box_set (o := 1) v1 b1 (Nat.le_refl _) (by omega) hzw (.int .u64 (n : Int))
      obtain ⟨v3, b3, f3'⟩ := box_set (o := 2) v2 b2 (Nat.le_refl _) (by omega) hzw (.int .i64 (k : Int))
      obtain ⟨v4, b4, f4'⟩ := box_set (o := 3) v3 b3 (Nat.le_refl _) (by omega) hzw (.slice A5 l5.length c5)
      have ho9 := (((ho8.past bx8 (by decide) f1').past b1 (by decide) f2').past b2 (by decide) f3').past b3 (by decide) f4'
      have d0 := b4.cell 0
      have d1 := b4.cell 1
      have d2 := b4.cell 2
      have d3 := b4.cell 3
      simp at d0 d1 d2 d3
      clear b1 b2 b3 b4 v1 v2 v3 f1' f2' f3' f4' r0 r1 r2 r3 g0 g1 g2 g3
      generalize (((w8.setCell ⟨w.heap.size, 0, none⟩ (.string ⟨l1.toArray⟩)).setCell ⟨w.heap.size, 1, none⟩ (.int .u64 (n : Int))).setCell ⟨w.heap.size, 2, none⟩ (.int .i64 (k : Int))).setCell ⟨w.heap.size, 3, none⟩ (.slice A5 l5.length c5) = V at *
      refine bodyPost_ret (v := .agg #[.string ⟨l1.toArray⟩, .int .u64 (n : Int), .int .i64 (k : Int), .slice A5 l5.length c5]) (by simp [results, Tryz.results69, go_sem, d0, d1, d2, d3]) rfl ?_
      rw [HM2.out]
      exact ⟨_, A5, c5, l5, rfl, Lib.hid rfl, Lib.hid rfl, ho9, v4⟩
    · have HM2 := Lib.hid (HM.out.trans (if_pos hf))
      clear HM
      have hfb : (f3 != 0) = true := by simpa using hf
      go_wp2_with fail
      obtain ⟨v1, b1, f1'⟩ := box_set (o := 0) ht8 bx8 (Nat.le_refl _) (by omega) hzw (.string ⟨#[]⟩)
      obtain ⟨v2, b2, f2'⟩ := box_set (o := 1) v1 b1 (Nat.le_refl _) (by omega) hzw (.int .u64 0)
      obtain ⟨v3, b3, f3'⟩ := box_set (o := 2) v2 b2 (Nat.le_refl _) (by omega) hzw (.int .i64 0)
      obtain ⟨v4, b4, f4'⟩ := box_set (o := 3) v3 b3 (Nat.le_refl _) (by omega) hzw (.slice none 0 0)
      have d0 := b4.cell 0
      have d1 := b4.cell 1
      have d2 := b4.cell 2
      have d3 := b4.cell 3
      simp at d0 d1 d2 d3
      clear b1 b2 b3 b4 v1 v2 v3 f1' f2' f3' f4' r0 r1 r2 r3 g0 g1 g2 g3
      generalize (((w8.setCell ⟨w.heap.size, 0, none⟩ (.string ⟨#[]⟩)).setCell ⟨w.heap.size, 1, none⟩ (.int .u64 0)).setCell ⟨w.heap.size, 2, none⟩ (.int .i64 0)).setCell ⟨w.heap.size, 3, none⟩ (.slice none 0 0) = V at *
      refine bodyPost_ret (v := .agg #[.string ⟨#[]⟩, .int .u64 0, .int .i64 0, .slice none 0 0]) (by simp [results, Tryz.results69, go_sem, d0, d1, d2, d3]) rfl ?_
      rw [HM2.out]
      exact ⟨_, none, 0, [], rfl, Lib.hid rfl, Lib.hid rfl, OwB.nil _ _, v4⟩
  · have hCb : (checkE l1 (n : Int) (k : Int) l5.length != 0) = true := by simpa using hC
    have hCe : (checkE l1 (n : Int) (k : Int) l5.length == 0) = false := by simpa using hC
    have hfl : (failS L3 f3 2).2 ≠ 0 := by unfold failS; split <;> simp_all
    have hM1 : M = ⟨[], 0, 0, [], (failS L3 f3 2).1, (failS L3 f3 2).2⟩ := by
      have h := HM.out
      rw [if_neg hC, if_pos hfl] at h
      exact h
    clear HM
    have HM2 := Lib.hid hM1
    clear hM1
    clear hC
    generalize checkE l1 (n : Int) (k : Int) l5.length = C at *
    refine (HCK.out _).mono ?_
    rintro e w8 ⟨rfl, hb8⟩
    have ht8 := ht7.then_ hb8
    have bx8 := bx7.below hb8
    have hs8 := hb8.size
    obtain ⟨A8, c8, ha8⟩ := ht8.at_
    clear HCK ht7 bx7 ho7 hb8
    go_wp2_with fail
    refine (fail_any eb Y A8 c8 L3 f3 2 _ ha8).mono ?_
    rintro e w9 ⟨rfl, h9⟩
    have ht9 := ht8.trans h9
    have bx9 := bx8.fr h9.fr (by have := bx8.lt; omega)
    have hs9 := h9.fr.size
    generalize failS L3 f3 2 = r4 at *
    obtain ⟨L4, f4⟩ := r4
    dsimp only at *
    obtain ⟨A9, c9, ha9⟩ := ht9.at_
    clear h9 ht8 bx8 ha8
    go_wp2_with fail
    refine (fault_any eb Y A9 c9 L4 f4 _ ha9).mono ?_
    rintro e w10 ⟨rfl, rfl⟩
    have r0 : w9.cell? ⟨w.heap.size, 0, none⟩ = some (.string ⟨l1.toArray⟩) := bx9.cell 0
    have r1 : w9.cell? ⟨w.heap.size, 1, none⟩ = some (.int .u64 (n : Int)) := bx9.cell 1
    have r2 : w9.cell? ⟨w.heap.size, 2, none⟩ = some (.int .i64 (k : Int)) := bx9.cell 2
    have r3 : w9.cell? ⟨w.heap.size, 3, none⟩ = some (.slice A5 l5.length c5) := bx9.cell 3
    have g0 := bx9.frozen 0
    have g1 := bx9.frozen 1
    have g2 := bx9.frozen 2
    have g3 := bx9.frozen 3
    have hfb : (f4 != 0) = true := by simpa using hfl
    go_wp2_with fail
    obtain ⟨v1, b1, f1'⟩ := box_set (o := 0) ht9 bx9 (Nat.le_refl _) (by omega) hzw (.string ⟨#[]⟩)
    obtain ⟨v2, b2, f2'⟩ := box_set (o := 1) v1 b1 (Nat.le_refl _) (by omega) hzw (.int .u64 0)
    obtain ⟨v3, b3, f3'⟩ := box_set (o := 2) v2 b2 (Nat.le_refl _) (by omega) hzw (.int .i64 0)
    obtain ⟨v4, b4, f4'⟩ := box_set (o := 3) v3 b3 (Nat.le_refl _) (by omega) hzw (.slice none 0 0)
    have d0 := b4.cell 0
    have d1 := b4.cell 1
    have d2 := b4.cell 2
    have d3 := b4.cell 3
    simp at d0 d1 d2 d3
    clear b1 b2 b3 b4 v1 v2 v3 f1' f2' f3' f4' r0 r1 r2 r3 g0 g1 g2 g3
    generalize (((w9.setCell ⟨w.heap.size, 0, none⟩ (.string ⟨#[]⟩)).setCell ⟨w.heap.size, 1, none⟩ (.int .u64 0)).setCell ⟨w.heap.size, 2, none⟩ (.int .i64 0)).setCell ⟨w.heap.size, 3, none⟩ (.slice none 0 0) = V at *
    refine bodyPost_ret (v := .agg #[.string ⟨#[]⟩, .int .u64 0, .int .i64 0, .slice none 0 0]) (by simp [results, Tryz.results69, go_sem, d0, d1, d2, d3]) rfl ?_
    rw [HM2.out]
    exact ⟨_, none, 0, [], rfl, Lib.hid rfl, Lib.hid rfl, OwB.nil _ _, v4⟩
end Go.Proofs.YtdnljmncdbcgeaaGreat

/- Rows of what stands at paths, in the paths' order: plain. No program. -/
namespace Go.Proofs.YtdnljmncdbcgeaaGreat

theorem ordT : Ord3 cmpT where
  rng _ _ := ordP.rng _ _
  flip _ _ := ordP.flip _ _
  eq := cmpT_eq
  trans _ _ _ h k := ordP.trans _ _ _ h k
theorem cmpT_self (a : List UInt8) : cmpT a a = 0 := (cmpT_eq a a).2 rfl
/-- not behind -/
def leT (x y : List UInt8) : Bool := !decide (cmpT y x < 0)
theorem leT_trans (a b c : List UInt8) (h : leT a b = true) (k : leT b c = true) : leT a c = true := by
  simp only [leT, Bool.not_eq_true', decide_eq_false_iff_not] at *
  intro hc
  have h1 := ordT.flip a b
  have h2 := ordT.flip b c
  have h3 := ordT.flip a c
  by_cases e : cmpT a b = 0
  · have := (cmpT_eq a b).1 e
    subst this
    omega
  · by_cases e2 : cmpT b c = 0
    · have := (cmpT_eq b c).1 e2
      subst this
      omega
    · have := ordT.trans a b c (by omega) (by omega)
      omega
theorem leT_total (a b : List UInt8) : (leT a b || leT b a) = true := by
  simp only [leT, Bool.or_eq_true, Bool.not_eq_true', decide_eq_false_iff_not]
  have h1 := ordT.flip a b
  omega
theorem leT_anti (a b : List UInt8) (h : leT a b = true) (k : leT b a = true) : a = b := by
  simp only [leT, Bool.not_eq_true', decide_eq_false_iff_not] at *
  have h1 := ordT.flip a b
  exact (cmpT_eq a b).1 (by omega)

theorem nodup_len : ∀ (a b : List (List UInt8)), a.Nodup → a ⊆ b → a.length ≤ b.length
  | [], _, _, _ => Nat.zero_le _
  | x :: a, b, h, hs => by
    have hx : x ∈ b := hs (by simp)
    have hc := List.nodup_cons.1 h
    have h1 := nodup_len a (b.erase x) hc.2 (fun y hy => (List.mem_erase_of_ne (fun (e : y = x) => hc.1 (by rw [← e]; exact hy))).2 (hs (by simp [hy])))
    have h2 := List.length_pos_of_mem hx
    rw [List.length_erase_of_mem hx] at h1
    simp only [List.length_cons]
    omega
section
variable {α : Type}
/-- what stands at a path -/
def getR (L : List (List UInt8 × α)) (p : List UInt8) : Option α := (L.find? fun x => x.1 == p).map (·.2)
def withoutR (L : List (List UInt8 × α)) (p : List UInt8) : List (List UInt8 × α) := L.filter fun x => !(x.1 == p)
def insR (p : List UInt8) (v : α) : List (List UInt8 × α) → List (List UInt8 × α)
  | [] => [(p, v)]
  | x :: L => if 0 < cmpT x.1 p then (p, v) :: x :: L else x :: insR p v L
def putR (L : List (List UInt8 × α)) (p : List UInt8) (v : α) : List (List UInt8 × α) := insR p v (withoutR L p)
def keysR (L : List (List UInt8 × α)) : List (List UInt8) := L.map (·.1)
/-- in the paths' order, no path twice -/
def SortR (L : List (List UInt8 × α)) : Prop := L.Pairwise fun a b => cmpT a.1 b.1 < 0

theorem getR_nil (p : List UInt8) : getR ([] : List (List UInt8 × α)) p = none := rfl
theorem getR_cons (x : List UInt8 × α) (L : List (List UInt8 × α)) (p : List UInt8) : getR (x :: L) p = if x.1 = p then some x.2 else getR L p := by
  unfold getR
  rw [List.find?_cons]
  by_cases h : x.1 = p
  · simp [h]
  · rw [show (x.1 == p) = false by simpa using h, if_neg h]
theorem getR_none {L : List (List UInt8 × α)} {p : List UInt8} : getR L p = none ↔ ∀ x ∈ L, x.1 ≠ p := by
  induction L with
  | nil => simp [getR_nil]
  | cons y L ih =>
    rw [getR_cons]
    split
    · rename_i h; simp [h]
    · rename_i h; simp [h, ih]
theorem getR_mem {L : List (List UInt8 × α)} {p : List UInt8} {v : α} (h : getR L p = some v) : (p, v) ∈ L := by
  induction L with
  | nil => simp [getR_nil] at h
  | cons y L ih =>
    rw [getR_cons] at h
    split at h
    · rename_i e; cases h; subst e; simp
    · exact List.mem_cons_of_mem _ (ih h)
theorem getR_isSome {L : List (List UInt8 × α)} {p : List UInt8} : (getR L p).isSome = true ↔ p ∈ keysR L := by
  constructor
  · intro h
    obtain ⟨v, hv⟩ := Option.isSome_iff_exists.1 h
    exact List.mem_map.2 ⟨(p, v), getR_mem hv, rfl⟩
  · intro h
    obtain ⟨x, hx, rfl⟩ := List.mem_map.1 h
    rcases hg : getR L x.1 with _ | v
    · exact absurd rfl (getR_none.1 hg x hx)
    · rfl
theorem SortR.get {L : List (List UInt8 × α)} (h : SortR L) {x : List UInt8 × α} (hx : x ∈ L) : getR L x.1 = some x.2 := by
  induction L with
  | nil => cases hx
  | cons y L ih =>
    rw [getR_cons]
    have hc := List.pairwise_cons.1 h
    rcases List.mem_cons.1 hx with rfl | hx
    · rw [if_pos rfl]
    · rw [if_neg, ih hc.2 hx]
      intro e
      have := hc.1 x hx
      rw [e, cmpT_self] at this
      omega
theorem SortR.nodup {L : List (List UInt8 × α)} (h : SortR L) : (keysR L).Nodup := by
  unfold keysR
  rw [List.nodup_iff_pairwise_ne, List.pairwise_map]
  exact h.imp fun hab e => by rw [e, cmpT_self] at hab; omega
theorem SortR.keys {L : List (List UInt8 × α)} (h : SortR L) : (keysR L).Pairwise fun a b => leT a b = true := by
  unfold keysR
  rw [List.pairwise_map]
  refine h.imp fun {a b} hab => ?_
  simp only [leT, Bool.not_eq_true', decide_eq_false_iff_not]
  have := ordT.flip a.1 b.1
  omega
/-- the paths, collected in whatever order, sorted -/
theorem sort_keys {L : List (List UInt8 × α)} (h : SortR L) (f : List UInt8 → Bool) {ss : List (List UInt8)} (hn : ss.Nodup) (hm : ∀ k, k ∈ ss ↔ (k ∈ keysR L ∧ f k = true)) : ss.mergeSort leT = (keysR L).filter f := by
  have hp : ss.Perm ((keysR L).filter f) := (List.perm_ext_iff_of_nodup hn (h.nodup.filter _)).2 fun k => by rw [hm, List.mem_filter]
  refine List.Perm.eq_of_pairwise (le := fun a b => leT a b = true) (fun a b _ _ h1 h2 => leT_anti a b h1 h2) (List.pairwise_mergeSort leT_trans leT_total ss) (h.keys.filter _) ((List.mergeSort_perm ss leT).trans hp)
theorem SortR.ext {L M : List (List UInt8 × α)} (h : SortR L) (k : SortR M) (e : ∀ p, getR L p = getR M p) : L = M := by
  have hp : (keysR L).Perm (keysR M) := (List.perm_ext_iff_of_nodup h.nodup k.nodup).2 fun p => by rw [← getR_isSome, ← getR_isSome, e]
  have hk : keysR L = keysR M := List.Perm.eq_of_pairwise (le := fun a b => leT a b = true) (fun a b _ _ h1 h2 => leT_anti a b h1 h2) h.keys k.keys hp
  have hl : L.length = M.length := by simpa [keysR] using congrArg List.length hk
  refine List.ext_getElem hl fun i h1 h2 => ?_
  have e1 : (L[i]).1 = (M[i]).1 := by
    have := congrArg (fun l => l[i]?) hk
    simpa [keysR, List.getElem?_map, List.getElem?_eq_getElem h1, List.getElem?_eq_getElem h2] using this
  have g1 := h.get (List.getElem_mem h1)
  have g2 := k.get (List.getElem_mem h2)
  rw [e, e1, g2] at g1
  exact Prod.ext e1 (by simpa using g1.symm)

theorem getR_without (L : List (List UInt8 × α)) (p k : List UInt8) : getR (withoutR L p) k = if k = p then none else getR L k := by
  induction L with
  | nil => simp [withoutR, getR_nil]
  | cons x L ih =>
    unfold withoutR at ih ⊢
    rw [List.filter_cons]
    by_cases h : x.1 = p
    · rw [if_neg (by simp [h]), ih, getR_cons]
      by_cases hk : k = p
      · rw [if_pos hk, if_pos hk]
      · rw [if_neg hk, if_neg hk, if_neg (by rw [h]; exact fun e => hk e.symm)]
    · rw [if_pos (by simp [h]), getR_cons, getR_cons, ih]
      by_cases hk : k = p
      · rw [if_pos hk, if_pos hk, if_neg (by rw [hk]; exact h)]
      · rw [if_neg hk, if_neg hk]
theorem SortR.without {L : List (List UInt8 × α)} (h : SortR L) (p : List UInt8) : SortR (withoutR L p) := List.Pairwise.filter _ h
theorem without_ne (L : List (List UInt8 × α)) (p : List UInt8) : ∀ x ∈ withoutR L p, x.1 ≠ p := by
  intro x hx
  have := (List.mem_filter.1 hx).2
  simpa using this
theorem mem_ins {p : List UInt8} {v : α} {L : List (List UInt8 × α)} {x : List UInt8 × α} : x ∈ insR p v L ↔ x = (p, v) ∨ x ∈ L := by
  induction L with
  | nil => simp [insR]
  | cons y L ih =>
    unfold insR
    split
    · simp
    · simp only [List.mem_cons, ih]
      exact ⟨fun h => by rcases h with h | h | h <;> simp [h], fun h => by rcases h with h | h | h <;> simp [h]⟩
theorem SortR.ins {p : List UInt8} {v : α} {L : List (List UInt8 × α)} (h : SortR L) (hn : ∀ x ∈ L, x.1 ≠ p) : SortR (insR p v L) := by
  induction L with
  | nil => simp [insR, SortR]
  | cons y L ih =>
    have hc := List.pairwise_cons.1 h
    have hf := ordT.flip y.1 p
    have hne : cmpT y.1 p ≠ 0 := fun e => hn y (by simp) ((cmpT_eq _ _).1 e)
    unfold insR
    split
    · rename_i h0
      refine List.pairwise_cons.2 ⟨fun x hx => ?_, h⟩
      rcases List.mem_cons.1 hx with rfl | hx
      · show cmpT p x.1 < 0
        omega
      · exact ordT.trans p y.1 x.1 (by omega) (hc.1 x hx)
    · rename_i h0
      refine List.pairwise_cons.2 ⟨fun x hx => ?_, ih hc.2 (fun x hx => hn x (by simp [hx]))⟩
      rcases mem_ins.1 hx with rfl | hx
      · show cmpT y.1 p < 0
        omega
      · exact hc.1 x hx
theorem getR_ins {p k : List UInt8} {v : α} {L : List (List UInt8 × α)} (hn : ∀ x ∈ L, x.1 ≠ p) : getR (insR p v L) k = if k = p then some v else getR L k := by
  induction L with
  | nil =>
    rw [insR, getR_cons]
    by_cases h : k = p
    · rw [if_pos h, if_pos h.symm]
    · rw [if_neg h, if_neg (fun e => h e.symm)]
  | cons y L ih =>
    unfold insR
    split
    · rw [getR_cons]
      by_cases h : k = p
      · rw [if_pos h, if_pos h.symm]
      · rw [if_neg h, if_neg (fun e => h e.symm)]
    · rw [getR_cons, getR_cons, ih (fun x hx => hn x (by simp [hx]))]
      by_cases h : k = p
      · rw [if_pos h, if_pos h, if_neg (by rw [h]; exact hn y (by simp))]
      · rw [if_neg h, if_neg h]
theorem getR_put (L : List (List UInt8 × α)) (p k : List UInt8) (v : α) : getR (putR L p v) k = if k = p then some v else getR L k := by
  unfold putR
  rw [getR_ins (without_ne L p), getR_without]
  by_cases h : k = p
  · rw [if_pos h, if_pos h]
  · rw [if_neg h, if_neg h, if_neg h]
theorem SortR.put {L : List (List UInt8 × α)} (h : SortR L) (p : List UInt8) (v : α) : SortR (putR L p v) := (h.without p).ins (without_ne L p)
theorem sortR_nil : SortR ([] : List (List UInt8 × α)) := List.Pairwise.nil
theorem ins_len (p : List UInt8) (v : α) : ∀ (L : List (List UInt8 × α)), (insR p v L).length = L.length + 1
  | [] => rfl
  | y :: L => by
    unfold insR
    split
    · rfl
    · simp [ins_len p v L]
theorem without_self {L : List (List UInt8 × α)} {p : List UInt8} (h : getR L p = none) : withoutR L p = L := by
  unfold withoutR
  rw [List.filter_eq_self]
  intro x hx
  have := getR_none.1 h x hx
  simp [this]
theorem without_len_le (L : List (List UInt8 × α)) (p : List UInt8) : (withoutR L p).length ≤ L.length := List.length_filter_le _ _
theorem SortR.without_len {L : List (List UInt8 × α)} (h : SortR L) {p : List UInt8} {v : α} (hg : getR L p = some v) : (withoutR L p).length + 1 = L.length := by
  have e : L = insR p v (withoutR L p) := h.ext ((h.without p).ins (without_ne L p)) fun k => by
    rw [getR_ins (without_ne L p), getR_without]
    by_cases hk : k = p
    · rw [if_pos hk, hk, hg]
    · rw [if_neg hk, if_neg hk]
  have := ins_len p v (withoutR L p)
  rw [← e] at this
  omega
theorem keys_len (L : List (List UInt8 × α)) : (keysR L).length = L.length := by simp [keysR]
/-- what is told of each is told of each -/
theorem getR_map {β : Type} (f : α → β) (L : List (List UInt8 × α)) (p : List UInt8) : getR (L.map fun x => (x.1, f x.2)) p = (getR L p).map f := by
  induction L with
  | nil => rfl
  | cons x L ih =>
    rw [List.map_cons, getR_cons, getR_cons, ih]
    by_cases h : x.1 = p
    · rw [if_pos h, if_pos h]; rfl
    · rw [if_neg h, if_neg h]
theorem without_map {β : Type} (f : α → β) (L : List (List UInt8 × α)) (p : List UInt8) : withoutR (L.map fun x => (x.1, f x.2)) p = (withoutR L p).map fun x => (x.1, f x.2) := by
  unfold withoutR
  rw [List.filter_map]
  rfl
theorem ins_map {β : Type} (f : α → β) (p : List UInt8) (v : α) : ∀ (L : List (List UInt8 × α)), insR p (f v) (L.map fun x => (x.1, f x.2)) = (insR p v L).map fun x => (x.1, f x.2)
  | [] => rfl
  | x :: L => by
    rw [List.map_cons, insR, insR]
    split
    · rfl
    · rw [ins_map f p v L]; rfl
theorem put_map {β : Type} (f : α → β) (L : List (List UInt8 × α)) (p : List UInt8) (v : α) : putR (L.map fun x => (x.1, f x.2)) p (f v) = (putR L p v).map fun x => (x.1, f x.2) := by
  unfold putR
  rw [without_map, ins_map]
theorem keys_map {β : Type} (f : α → β) (L : List (List UInt8 × α)) : keysR (L.map fun x => (x.1, f x.2)) = keysR L := by simp [keysR]
theorem sort_map {β : Type} (f : α → β) {L : List (List UInt8 × α)} : SortR (L.map fun x => (x.1, f x.2)) ↔ SortR L := by
  unfold SortR
  rw [List.pairwise_map]
end
end Go.Proofs.YtdnljmncdbcgeaaGreat
