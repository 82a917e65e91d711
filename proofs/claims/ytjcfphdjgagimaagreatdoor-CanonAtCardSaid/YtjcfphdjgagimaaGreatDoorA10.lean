/- grain.Eye: Fail, take. -/
import Derived.Test.YtjcfphdjgagimaaGreatDoorA09
import Derived.Lib.ConvBytes

namespace Go.Proofs.YtjcfphdjgagimaaGreatDoor
open Go.RowKit

/-- The eye at block eb (of struct type T) has the bytes l and the fault f; the bytes lie in Z. -/
def EyeAt (w : World) (T eb : Nat) (Z : Nat → Prop) (A : Option Addr) (c : Nat) (l : List UInt8) (f : Int) : Prop :=
  Blk w eb T #[.slice A l.length c, .int .i64 f] ∧ By w Z A l ∧ l.length ≤ c ∧ c ≤ maxLen
/-- what a method leaves: only the eye has turned -/
structure EyeTo (w : World) (T eb : Nat) (Z : Nat → Prop) (l : List UInt8) (f : Int) (w' : World) : Prop where
  at_ : ∃ A c, EyeAt w' T eb Z A c l f
  fr : Fr (fun k => k = eb) w w'

theorem EyeAt.c0 {w : World} {T eb : Nat} {Z : Nat → Prop} {A : Option Addr} {c : Nat} {l : List UInt8} {f : Int} (h : EyeAt w T eb Z A c l f) : w.cell? ⟨eb, 0, none⟩ = some (.slice A l.length c) := h.1.cell 0
theorem EyeAt.c1 {w : World} {T eb : Nat} {Z : Nat → Prop} {A : Option Addr} {c : Nat} {l : List UInt8} {f : Int} (h : EyeAt w T eb Z A c l f) : w.cell? ⟨eb, 1, none⟩ = some (.int .i64 f) := h.1.cell 1
theorem EyeAt.f0 {w : World} {T eb : Nat} {Z : Nat → Prop} {A : Option Addr} {c : Nat} {l : List UInt8} {f : Int} (h : EyeAt w T eb Z A c l f) : w.frozen? ⟨eb, 0, none⟩ = false := h.1.frozen 0
theorem EyeAt.f1 {w : World} {T eb : Nat} {Z : Nat → Prop} {A : Option Addr} {c : Nat} {l : List UInt8} {f : Int} (h : EyeAt w T eb Z A c l f) : w.frozen? ⟨eb, 1, none⟩ = false := h.1.frozen 1
theorem EyeAt.to {w : World} {T eb : Nat} {Z : Nat → Prop} {A : Option Addr} {c : Nat} {l : List UInt8} {f : Int} (h : EyeAt w T eb Z A c l f) : EyeTo w T eb Z l f w := ⟨⟨A, c, h⟩, Fr.refl _ _⟩
theorem EyeAt.below {w w' : World} {T eb : Nat} {Z : Nat → Prop} {A : Option Addr} {c : Nat} {l : List UInt8} {f : Int} (h : EyeAt w T eb Z A c l f) (k : Below w.heap.size w w') : EyeAt w' T eb Z A c l f := ⟨h.1.below k, h.2.1.below k, h.2.2⟩
theorem EyeAt.fr {w w' : World} {T eb : Nat} {Z S : Nat → Prop} {A : Option Addr} {c : Nat} {l : List UInt8} {f : Int} (h : EyeAt w T eb Z A c l f) (k : Fr S w w') (h1 : ¬ S eb) (h2 : ∀ b, b < w.heap.size → Z b → ¬ S b) : EyeAt w' T eb Z A c l f := ⟨h.1.fr k h1, h.2.1.fr k h2, h.2.2⟩
theorem EyeTo.trans {a b c : World} {T eb : Nat} {Z : Nat → Prop} {l l' : List UInt8} {f f' : Int} (h : EyeTo a T eb Z l f b) (k : EyeTo b T eb Z l' f' c) : EyeTo a T eb Z l' f' c := ⟨k.at_, h.fr.trans k.fr (fun _ _ h => h)⟩
theorem EyeTo.then_ {a b c : World} {T eb : Nat} {Z : Nat → Prop} {l : List UInt8} {f : Int} (h : EyeTo a T eb Z l f b) (k : Below b.heap.size b c) : EyeTo a T eb Z l f c := by
  obtain ⟨A, c', h1⟩ := h.at_
  exact ⟨⟨A, c', h1.below k⟩, h.fr.then_below k⟩
/-- both cells set anew -/
theorem EyeAt.failed {w : World} {T eb : Nat} {Z : Nat → Prop} {A : Option Addr} {c : Nat} {l : List UInt8} {f : Int} (h : EyeAt w T eb Z A c l f) (code : Int) :
    EyeTo w T eb Z [] code ((w.setCell ⟨eb, 0, none⟩ (.slice none 0 0)).setCell ⟨eb, 1, none⟩ (.int .i64 code)) ∧ EyeTo w T eb Z [] code ((w.setCell ⟨eb, 1, none⟩ (.int .i64 code)).setCell ⟨eb, 0, none⟩ (.slice none 0 0)) := by
  constructor
  · refine ⟨⟨none, 0, ?_, Rd.nil, by simp, by simp [maxLen]⟩, ((Fr.refl (fun k => k = eb) w).setAt eb _ rfl _).setAt eb _ rfl _⟩
    have := (h.1.set_ 0 (.slice none 0 0)).set_ 1 (.int .i64 code)
    simpa using this
  · refine ⟨⟨none, 0, ?_, Rd.nil, by simp, by simp [maxLen]⟩, ((Fr.refl (fun k => k = eb) w).setAt eb _ rfl _).setAt eb _ rfl _⟩
    have := (h.1.set_ 1 (.int .i64 code)).set_ 0 (.slice none 0 0)
    simpa using this

set_option maxHeartbeats 400000 in
theorem fail_any (eb : Nat) (Z : Nat → Prop) (A : Option Addr) (c : Nat) (l : List UInt8) (f code : Int) (w : World) (h : EyeAt w 107 eb Z A c l f) :
    Calls Tryz.prog 32 #[.pointer (some ⟨eb, 0, none⟩), .int .i64 code] w fun e w' => e = .returned (.tuple #[]) ∧ EyeTo w 107 eb Z (failS l f code).1 (failS l f code).2 w' := by
  have c0 := h.c0
  have c1 := h.c1
  have f0 := h.f0
  have f1 := h.f1
  by_cases h1 : f = 0
  · by_cases h2 : code = 0
    · have e1 := Lib.hid (show failS l f code = (l, f) by unfold failS; rw [if_neg (by omega)])
      subst h1 h2
      go_enter Tryz.func32, Tryz.ntmps32
      go_wp2_with fail
      go_end0
      rw [e1.out]
      exact ⟨rfl, h.to⟩
    · have e1 := Lib.hid (show failS l f code = ([], code) by unfold failS; rw [if_pos ⟨h1, h2⟩])
      have h2b : (code != 0) = true := by simpa using h2
      subst h1
      go_enter Tryz.func32, Tryz.ntmps32
      go_wp2_with fail
      go_end0
      rw [e1.out]
      exact ⟨rfl, (h.failed code).1⟩
  · have e1 := Lib.hid (show failS l f code = (l, f) by unfold failS; rw [if_neg (by omega)])
    have h1b : (f == 0) = false := by simpa using h1
    go_enter Tryz.func32, Tryz.ntmps32
    go_wp2_with fail
    go_end0
    rw [e1.out]
    exact ⟨rfl, h.to⟩

theorem EyeAt.bounds {w : World} {T eb : Nat} {Z : Nat → Prop} {A : Option Addr} {c : Nat} {l : List UInt8} {f : Int} (h : EyeAt w T eb Z A c l f) : l.length ≤ c ∧ c ≤ 9223372036854775807 := ⟨h.2.2.1, h.2.2.2⟩

theorem EyeAt.cut {w : World} {T eb : Nat} {Z : Nat → Prop} {A : Option Addr} {c : Nat} {l : List UInt8} {f : Int} (h : EyeAt w T eb Z A c l f) {n : Nat} (hn : n ≤ l.length) (hz : ¬ Z eb) :
    EyeTo w T eb Z (l.drop n) f (w.setCell ⟨eb, 0, none⟩ (.slice (if c = n then A else A.map fun x => x.add n) (l.length - n) (c - n))) := by
  have hf : Fr (fun k => k = eb) w (w.setCell ⟨eb, 0, none⟩ (.slice (if c = n then A else A.map fun x => x.add n) (l.length - n) (c - n))) := (Fr.refl (fun k => k = eb) w).setAt eb _ rfl _
  have hd := Rd.drop h.2.1 hn h.2.2.1
  rw [← List.map_drop, Nat.mul_one, ← List.length_drop] at hd
  refine ⟨⟨_, c - n, ?_, hd.fr hf (by rintro b _ hb rfl; exact hz hb), by rw [List.length_drop]; have := h.2.2.1; omega, by have := h.2.2.2; omega⟩, hf⟩
  have := h.1.set_ 0 (.slice (if c = n then A else A.map fun x => x.add n) (l.length - n) (c - n))
  rw [List.length_drop]
  simpa using this

set_option maxHeartbeats 400000 in
theorem take_in (eb : Nat) (Z : Nat → Prop) (A : Option Addr) (c : Nat) (l : List UInt8) (f : Int) (n : Nat) (w : World) (h : EyeAt w 107 eb Z A c l f) (hz : ¬ Z eb) (hn : n ≤ l.length) :
    Calls Tryz.prog 62 #[.pointer (some ⟨eb, 0, none⟩), .int .i64 n] w fun e w' => ∃ c', e = .returned (.slice A n c') ∧ n ≤ c' ∧ c' ≤ maxLen ∧ EyeTo w 107 eb Z (l.drop n) f w' := by
  have c0 := h.c0
  have f0 := h.f0
  have hb := h.bounds
  have hm : maxLen = 9223372036854775807 := rfl
  have HM := Lib.hid hm
  clear hm
  have H := Lib.hid h
  clear h
  by_cases hcn : c = n
  · subst hcn
    go_enter Tryz.func62, Tryz.ntmps62
    go_wp2_with fail
    go_ret
    have hc := H.out.cut hn hz
    rw [if_pos rfl, Nat.sub_self, show l.length - c = 0 by omega] at hc
    exact ⟨c, rfl, Nat.le_refl _, by rw [HM.out]; omega, hc⟩
  · go_enter Tryz.func62, Tryz.ntmps62
    go_wp2_with fail
    go_ret
    have hc := H.out.cut hn hz
    rw [if_neg hcn] at hc
    exact ⟨c, rfl, by omega, by rw [HM.out]; omega, hc⟩

set_option maxHeartbeats 400000 in
theorem take_out (eb : Nat) (Z : Nat → Prop) (A : Option Addr) (c : Nat) (l : List UInt8) (n : Nat) (w : World) (h : EyeAt w 107 eb Z A c l 0) (hn : l.length < n) :
    Calls Tryz.prog 62 #[.pointer (some ⟨eb, 0, none⟩), .int .i64 n] w fun e w' => e = .returned (.slice none 0 0) ∧ EyeTo w 107 eb Z [] 11 w' := by
  have c0 := h.c0
  go_enter Tryz.func62, Tryz.ntmps62
  go_wp2_with fail
  refine (fail_any eb Z A c l 0 11 w h).mono ?_
  rintro e w1 ⟨rfl, h1⟩
  go_wp2_with fail
  go_ret
  exact ⟨rfl, h1⟩
end Go.Proofs.YtjcfphdjgagimaaGreatDoor

/- grain.Eye.Num. -/
namespace Go.Proofs.YtjcfphdjgagimaaGreatDoor
open Go.RowKit

theorem readS_bad {l : List UInt8} {f : Int} {most : Nat} (h : f ≠ 0) : readS l f most = (0, l, f) := by unfold readS; rw [if_pos h]
theorem readS_nil {most : Nat} : readS [] 0 most = (0, [], 11) := rfl
theorem readS_wide {x : UInt8} {r : List UInt8} {most : Nat} (h : 8 < x.toNat) : readS (x :: r) 0 most = (0, [], 10) := by unfold readS; rw [if_neg (by simp)]; dsimp only; rw [if_pos h]
theorem readS_short {x : UInt8} {r : List UInt8} {most : Nat} (h : ¬ 8 < x.toNat) (h2 : r.length < x.toNat) : readS (x :: r) 0 most = (0, [], 11) := by
  unfold readS; rw [if_neg (by simp)]; dsimp only; rw [if_neg h, if_pos h2]
theorem readS_zero {x : UInt8} {r : List UInt8} {most : Nat} (h : ¬ 8 < x.toNat) (h2 : ¬ r.length < x.toNat) (h3 : 0 < x.toNat ∧ r.getD 0 0 = 0) : readS (x :: r) 0 most = (0, [], 10) := by
  unfold readS; rw [if_neg (by simp)]; dsimp only; rw [if_neg h, if_neg h2, if_pos h3]
theorem readS_long {x : UInt8} {r : List UInt8} {most : Nat} (h : ¬ 8 < x.toNat) (h2 : ¬ r.length < x.toNat) (h3 : ¬ (0 < x.toNat ∧ r.getD 0 0 = 0)) (h4 : most < val (r.take x.toNat)) : readS (x :: r) 0 most = (0, [], 13) := by
  unfold readS; rw [if_neg (by simp)]; dsimp only; rw [if_neg h, if_neg h2, if_neg h3, if_pos h4]
theorem readS_ok {x : UInt8} {r : List UInt8} {most : Nat} (h : ¬ 8 < x.toNat) (h2 : ¬ r.length < x.toNat) (h3 : ¬ (0 < x.toNat ∧ r.getD 0 0 = 0)) (h4 : ¬ most < val (r.take x.toNat)) : readS (x :: r) 0 most = (val (r.take x.toNat), r.drop x.toNat, 0) := by
  unfold readS; rw [if_neg (by simp)]; dsimp only; rw [if_neg h, if_neg h2, if_neg h3, if_neg h4]

/-- what a read leaves -/
def NumTo (w : World) (T eb : Nat) (Z : Nat → Prop) (r : Nat × List UInt8 × Int) (e : Ending) (w' : World) : Prop := e = .returned (.int .u64 (r.1 : Int)) ∧ EyeTo w T eb Z r.2.1 r.2.2 w'

theorem byte_at {w w1 : World} {T eb : Nat} {Z : Nat → Prop} {A : Option Addr} {c : Nat} {x : UInt8} {r l1 : List UInt8} {f f1 : Int} (h : EyeAt w T eb Z A c (x :: r) f) (hz : ¬ Z eb) (h1 : EyeTo w T eb Z l1 f1 w1) :
    ∃ b off, A = some ⟨b, off, none⟩ ∧ w1.cell? ⟨b, off, none⟩ = some (.int .u8 (x.toNat : Int)) := by
  have := h.2.1.fr h1.fr (by rintro b _ hb rfl; exact hz hb)
  obtain ⟨b, off, e, _, _, hc⟩ := Rd.atm this (k := 0) (by simp)
  exact ⟨b, off, e, hc⟩

theorem digit0 {r : List UInt8} {k : Nat} (h : r.getD 0 0 ≠ 0) (hk : 0 < (r.take k).length) : (((r.take k)[0]'hk).toNat : Int) ≠ 0 := by
  rw [List.getElem_take]
  rcases r with _ | ⟨y, r⟩
  · simp at hk
  · simp at h ⊢
    intro e
    exact h (UInt8.toNat_inj.1 (by simpa using e))

theorem digit00 {r : List UInt8} {k : Nat} (h : r.getD 0 0 = 0) (hk : 0 < (r.take k).length) : (((r.take k)[0]'hk).toNat : Int) = 0 := by
  rw [List.getElem_take]
  rcases r with _ | ⟨y, r⟩
  · simp at hk
  · simp at h ⊢
    rw [h]; rfl

set_option maxHeartbeats 400000 in
theorem eyeNum_bad (eb : Nat) (Z : Nat → Prop) (A : Option Addr) (c : Nat) (l : List UInt8) (f : Int) (most : Nat) (w : World) (h : EyeAt w 107 eb Z A c l f) (hf : f ≠ 0) :
    Calls Tryz.prog 61 #[.pointer (some ⟨eb, 0, none⟩), .int .u64 most] w (NumTo w 107 eb Z (readS l f most)) := by
  have c1 := h.c1
  rw [readS_bad hf]
  have hfb : (f != 0) = true := by simpa using hf
  go_enter Tryz.func61, Tryz.ntmps61
  go_wp2_with fail
  go_ret
  exact ⟨rfl, h.to⟩

set_option maxHeartbeats 400000 in
theorem eyeNum_none (eb : Nat) (Z : Nat → Prop) (A : Option Addr) (c : Nat) (most : Nat) (w : World) (h : EyeAt w 107 eb Z A c [] 0) :
    Calls Tryz.prog 61 #[.pointer (some ⟨eb, 0, none⟩), .int .u64 most] w (NumTo w 107 eb Z (readS [] 0 most)) := by
  have c1 := h.c1
  rw [readS_nil]
  go_enter Tryz.func61, Tryz.ntmps61
  go_wp2_with fail
  refine (take_out eb Z A c [] 1 w h (by simp)).mono ?_
  rintro e w1 ⟨rfl, h1⟩
  go_wp2_with fail
  go_ret
  exact ⟨rfl, h1⟩

set_option maxHeartbeats 400000 in
theorem eyeNum_wide (eb : Nat) (Z : Nat → Prop) (A : Option Addr) (c : Nat) (x : UInt8) (r : List UInt8) (most : Nat) (w : World) (h : EyeAt w 107 eb Z A c (x :: r) 0) (hz : ¬ Z eb) (hx : 8 < x.toNat) :
    Calls Tryz.prog 61 #[.pointer (some ⟨eb, 0, none⟩), .int .u64 most] w (NumTo w 107 eb Z (readS (x :: r) 0 most)) := by
  have c1 := h.c1
  rw [readS_wide hx]
  go_enter Tryz.func61, Tryz.ntmps61
  go_wp2_with fail
  refine (take_in eb Z A c (x :: r) 0 1 w h hz (by simp)).mono ?_
  rintro e w1 ⟨c2, rfl, hc2, hm2, h1⟩
  replace h1 : EyeTo w 107 eb Z r 0 w1 := h1
  obtain ⟨b, off, rfl, hcell⟩ := byte_at h hz h1
  obtain ⟨A1, ca1, ha1⟩ := h1.at_
  go_wp2_with fail
  refine (fail_any eb Z A1 ca1 r 0 10 w1 ha1).mono ?_
  rintro e w2 ⟨rfl, h2⟩
  go_wp2_with fail
  go_ret
  exact ⟨rfl, h1.trans h2⟩

set_option maxHeartbeats 400000 in
theorem eyeNum_short (eb : Nat) (Z : Nat → Prop) (A : Option Addr) (c : Nat) (x : UInt8) (r : List UInt8) (most : Nat) (w : World) (h : EyeAt w 107 eb Z A c (x :: r) 0) (hz : ¬ Z eb) (hx : ¬ 8 < x.toNat) (hr : r.length < x.toNat) :
    Calls Tryz.prog 61 #[.pointer (some ⟨eb, 0, none⟩), .int .u64 most] w (NumTo w 107 eb Z (readS (x :: r) 0 most)) := by
  have c1 := h.c1
  rw [readS_short hx hr]
  go_enter Tryz.func61, Tryz.ntmps61
  go_wp2_with fail
  refine (take_in eb Z A c (x :: r) 0 1 w h hz (by simp)).mono ?_
  rintro e w1 ⟨c2, rfl, hc2, hm2, h1⟩
  replace h1 : EyeTo w 107 eb Z r 0 w1 := h1
  obtain ⟨b, off, rfl, hcell⟩ := byte_at h hz h1
  obtain ⟨A1, ca1, ha1⟩ := h1.at_
  go_wp2_with fail
  refine (take_out eb Z A1 ca1 r x.toNat w1 ha1 hr).mono ?_
  rintro e w2 ⟨rfl, h2⟩
  obtain ⟨A2, ca2, ha2⟩ := h2.at_
  have c12 := ha2.c1
  go_wp2_with fail
  go_loop [4, 48] (fun nv iv => nv = .int .u64 0 ∧ iv = .int .i64 0) (fun _ _ => 0)
  case atStart => exact ⟨rfl, rfl⟩
  case round =>
    obtain ⟨rfl, rfl⟩ := hrel
    go_wp2_with fail
    go_ret
    exact ⟨rfl, h1.trans h2⟩

set_option maxHeartbeats 300000 in
theorem eyeNum_ok0 (eb : Nat) (Z : Nat → Prop) (A : Option Addr) (c : Nat) (x : UInt8) (r : List UInt8) (most : Nat) (w : World) (h : EyeAt w 107 eb Z A c (x :: r) 0) (hz : ¬ Z eb) (hx : ¬ 8 < x.toNat) (hr : ¬ r.length < x.toNat)
    (h0 : Hid (x.toNat = 0)) :
    Calls Tryz.prog 61 #[.pointer (some ⟨eb, 0, none⟩), .int .u64 most] w (NumTo w 107 eb Z (readS (x :: r) 0 most)) := by
  have c1 := h.c1
  have hdl : (r.take x.toNat).length = x.toNat := by rw [List.length_take]; omega
  go_enter Tryz.func61, Tryz.ntmps61
  go_wp2_with fail
  refine (take_in eb Z A c (x :: r) 0 1 w h hz (by simp)).mono ?_
  rintro e w1 ⟨c2, rfl, hc2, hm2, h1⟩
  replace h1 : EyeTo w 107 eb Z r 0 w1 := h1
  obtain ⟨b, off, rfl, hcell⟩ := byte_at h hz h1
  obtain ⟨A1, ca1, ha1⟩ := h1.at_
  go_wp2_with fail
  refine (take_in eb Z A1 ca1 r 0 x.toNat w1 ha1 hz (by omega)).mono ?_
  rintro e w2 ⟨c3, rfl, hc3, hm3, h2⟩
  have hD : Rd w2 Z 1 A1 x.toNat ((r.take x.toNat).map bv) := by
    have := (Rd.take ha1.2.1 (k := x.toNat) (by omega)).fr h2.fr (by rintro b _ hb rfl; exact hz hb)
    rw [Nat.mul_one, ← List.map_take] at this
    exact this
  have h12 := h1.trans h2
  have HD := Lib.hid hdl
  clear hdl
  have h0b : decide (0 < x.toNat) = false := by have := h0.out; simp; omega
  go_wp2_with fail
  go_loop [4, 48] (fun nv iv => ∃ i : Nat, i ≤ x.toNat ∧ iv = .int .i64 (i : Int) ∧ nv = .int .u64 (val ((r.take x.toNat).take i) : Int)) (fun _ iv => x.toNat - (intOf iv).toNat)
  case atStart => exact ⟨0, Nat.zero_le _, rfl, rfl⟩
  case round =>
    obtain ⟨i, hi, rfl, rfl⟩ := hrel
    by_cases hlt : i < x.toNat
    · obtain ⟨b2, off2, eA, _, _, hc⟩ := hD.atm (k := i) (by rw [HD.out]; exact hlt)
      subst eA
      have hv := val_take (l := r.take x.toNat) (i := i) (by rw [HD.out]; exact hlt)
      have hb7 : val ((r.take x.toNat).take i) < 256 ^ 7 := Nat.lt_of_lt_of_le (val_lt _) (Nat.pow_le_pow_right (by decide) (by rw [List.length_take, HD.out]; omega))
      have hgd : (r.take x.toNat).getD i 0 = (r.take x.toNat)[i]'(by rw [HD.out]; exact hlt) := by rw [List.getD_eq_getElem?_getD, List.getElem?_eq_getElem (by rw [HD.out]; exact hlt)]; rfl
      rw [hgd] at hv
      generalize (r.take x.toNat)[i]'(by rw [HD.out]; exact hlt) = d at hc hv
      have HV := Lib.hid hv
      clear hv hgd
      unfold bv at hc
      generalize val ((r.take x.toNat).take i) = m at *
      have hor := or_byte (n := m) (d := d) hb7
      have hm56 : m < 72057594037927936 := hb7
      clear hb7
      have hd8 := d.toNat_lt
      go_wp2_with fail
      go_round
      case rel => exact ⟨i + 1, hlt, by go_num, by rw [HV.out]; go_num⟩
      case measure => simp [intOf]; omega
    · have e : i = x.toNat := by omega
      subst e
      rw [show ((r.take x.toNat).take x.toNat) = r.take x.toNat by rw [List.take_take]; simp]
      obtain ⟨A3, ca3, ha3⟩ := h2.at_
      have c13 := ha3.c1
      have hvl := val_lt64 (l := r.take x.toNat) (by rw [HD.out]; omega)
      by_cases hm : most < val (r.take x.toNat)
      · go_wp2_with fail
        refine (fail_any eb Z A3 ca3 (r.drop x.toNat) 0 13 _ ha3).mono ?_
        rintro e w9 ⟨rfl, h9⟩
        replace h9 : EyeTo w2 107 eb Z [] 13 w9 := h9
        obtain ⟨A4, ca4, ha4⟩ := h9.at_
        have c14 := ha4.c1
        go_wp2_with fail
        go_ret
        rw [readS_long hx hr (by have := h0.out; omega) hm]
        exact ⟨rfl, h12.trans h9⟩
      · go_wp2_with fail
        go_ret
        rw [readS_ok hx hr (by have := h0.out; omega) hm]
        exact ⟨rfl, h12⟩

set_option maxHeartbeats 300000 in
theorem eyeNum_ok1 (eb : Nat) (Z : Nat → Prop) (A : Option Addr) (c : Nat) (x : UInt8) (r : List UInt8) (most : Nat) (w : World) (h : EyeAt w 107 eb Z A c (x :: r) 0) (hz : ¬ Z eb) (hx : ¬ 8 < x.toNat) (hr : ¬ r.length < x.toNat)
    (h0 : 0 < x.toNat) (hr0 : r.getD 0 0 ≠ 0) :
    Calls Tryz.prog 61 #[.pointer (some ⟨eb, 0, none⟩), .int .u64 most] w (NumTo w 107 eb Z (readS (x :: r) 0 most)) := by
  have c1 := h.c1
  have hdl : (r.take x.toNat).length = x.toNat := by rw [List.length_take]; omega
  have hcl : ¬ (0 < x.toNat ∧ r.getD 0 0 = 0) := fun hh => hr0 hh.2
  have HCL := Lib.hid hcl
  clear hcl
  go_enter Tryz.func61, Tryz.ntmps61
  go_wp2_with fail
  refine (take_in eb Z A c (x :: r) 0 1 w h hz (by simp)).mono ?_
  rintro e w1 ⟨c2, rfl, hc2, hm2, h1⟩
  replace h1 : EyeTo w 107 eb Z r 0 w1 := h1
  obtain ⟨b, off, rfl, hcell⟩ := byte_at h hz h1
  obtain ⟨A1, ca1, ha1⟩ := h1.at_
  go_wp2_with fail
  refine (take_in eb Z A1 ca1 r 0 x.toNat w1 ha1 hz (by omega)).mono ?_
  rintro e w2 ⟨c3, rfl, hc3, hm3, h2⟩
  have hD : Rd w2 Z 1 A1 x.toNat ((r.take x.toNat).map bv) := by
    have := (Rd.take ha1.2.1 (k := x.toNat) (by omega)).fr h2.fr (by rintro b _ hb rfl; exact hz hb)
    rw [Nat.mul_one, ← List.map_take] at this
    exact this
  have h12 := h1.trans h2
  have HD := Lib.hid hdl
  clear hdl
  obtain ⟨b1, off1, rfl, _, _, hc0⟩ := hD.atm (k := 0) (by rw [HD.out]; exact h0)
  have hr0b : (((r.take x.toNat)[0]'(by rw [HD.out]; exact h0)).toNat : Int) ≠ 0 := digit0 hr0 (by rw [HD.out]; exact h0)
  generalize (r.take x.toNat)[0]'(by rw [HD.out]; exact h0) = d0 at hc0 hr0b
  replace hc0 : w2.cell? ⟨b1, off1, none⟩ = some (.int .u8 (d0.toNat : Int)) := hc0
  have hr0c : ((d0.toNat : Int) == 0) = false := by simpa using hr0b
  clear hr0b hr0
  go_wp2_with fail
  go_loop [4, 48] (fun nv iv => ∃ i : Nat, i ≤ x.toNat ∧ iv = .int .i64 (i : Int) ∧ nv = .int .u64 (val ((r.take x.toNat).take i) : Int)) (fun _ iv => x.toNat - (intOf iv).toNat)
  case atStart => exact ⟨0, Nat.zero_le _, rfl, rfl⟩
  case round =>
    obtain ⟨i, hi, rfl, rfl⟩ := hrel
    by_cases hlt : i < x.toNat
    · obtain ⟨b2, off2, eA, _, _, hc⟩ := hD.atm (k := i) (by rw [HD.out]; exact hlt)
      obtain ⟨rfl, rfl⟩ : b1 = b2 ∧ off1 = off2 := by simpa using eA
      have hv := val_take (l := r.take x.toNat) (i := i) (by rw [HD.out]; exact hlt)
      have hb7 : val ((r.take x.toNat).take i) < 256 ^ 7 := Nat.lt_of_lt_of_le (val_lt _) (Nat.pow_le_pow_right (by decide) (by rw [List.length_take, HD.out]; omega))
      have hgd : (r.take x.toNat).getD i 0 = (r.take x.toNat)[i]'(by rw [HD.out]; exact hlt) := by rw [List.getD_eq_getElem?_getD, List.getElem?_eq_getElem (by rw [HD.out]; exact hlt)]; rfl
      rw [hgd] at hv
      generalize (r.take x.toNat)[i]'(by rw [HD.out]; exact hlt) = d at hc hv
      have HV := Lib.hid hv
      clear hv hgd
      unfold bv at hc
      generalize val ((r.take x.toNat).take i) = m at *
      have hor := or_byte (n := m) (d := d) hb7
      have hm56 : m < 72057594037927936 := hb7
      clear hb7
      have hd8 := d.toNat_lt
      go_wp2_with fail
      go_round
      case rel => exact ⟨i + 1, hlt, by go_num, by rw [HV.out]; go_num⟩
      case measure => simp [intOf]; omega
    · have e : i = x.toNat := by omega
      subst e
      rw [show ((r.take x.toNat).take x.toNat) = r.take x.toNat by rw [List.take_take]; simp]
      obtain ⟨A3, ca3, ha3⟩ := h2.at_
      have c13 := ha3.c1
      have hvl := val_lt64 (l := r.take x.toNat) (by rw [HD.out]; omega)
      by_cases hm : most < val (r.take x.toNat)
      · go_wp2_with fail
        refine (fail_any eb Z A3 ca3 (r.drop x.toNat) 0 13 _ ha3).mono ?_
        rintro e w9 ⟨rfl, h9⟩
        replace h9 : EyeTo w2 107 eb Z [] 13 w9 := h9
        obtain ⟨A4, ca4, ha4⟩ := h9.at_
        have c14 := ha4.c1
        go_wp2_with fail
        go_ret
        rw [readS_long hx hr HCL.out hm]
        exact ⟨rfl, h12.trans h9⟩
      · go_wp2_with fail
        go_ret
        rw [readS_ok hx hr HCL.out hm]
        exact ⟨rfl, h12⟩

set_option maxHeartbeats 300000 in
theorem eyeNum_zero (eb : Nat) (Z : Nat → Prop) (A : Option Addr) (c : Nat) (x : UInt8) (r : List UInt8) (most : Nat) (w : World) (h : EyeAt w 107 eb Z A c (x :: r) 0) (hz : ¬ Z eb) (hx : ¬ 8 < x.toNat) (hr : ¬ r.length < x.toNat)
    (h0 : 0 < x.toNat) (hr0 : r.getD 0 0 = 0) :
    Calls Tryz.prog 61 #[.pointer (some ⟨eb, 0, none⟩), .int .u64 most] w (NumTo w 107 eb Z (readS (x :: r) 0 most)) := by
  have c1 := h.c1
  have hdl : (r.take x.toNat).length = x.toNat := by rw [List.length_take]; omega
  have hcl : 0 < x.toNat ∧ r.getD 0 0 = 0 := ⟨h0, hr0⟩
  have HCL := Lib.hid hcl
  clear hcl
  go_enter Tryz.func61, Tryz.ntmps61
  go_wp2_with fail
  refine (take_in eb Z A c (x :: r) 0 1 w h hz (by simp)).mono ?_
  rintro e w1 ⟨c2, rfl, hc2, hm2, h1⟩
  replace h1 : EyeTo w 107 eb Z r 0 w1 := h1
  obtain ⟨b, off, rfl, hcell⟩ := byte_at h hz h1
  obtain ⟨A1, ca1, ha1⟩ := h1.at_
  go_wp2_with fail
  refine (take_in eb Z A1 ca1 r 0 x.toNat w1 ha1 hz (by omega)).mono ?_
  rintro e w2 ⟨c3, rfl, hc3, hm3, h2⟩
  have hD : Rd w2 Z 1 A1 x.toNat ((r.take x.toNat).map bv) := by
    have := (Rd.take ha1.2.1 (k := x.toNat) (by omega)).fr h2.fr (by rintro b _ hb rfl; exact hz hb)
    rw [Nat.mul_one, ← List.map_take] at this
    exact this
  have h12 := h1.trans h2
  have HD := Lib.hid hdl
  clear hdl
  obtain ⟨b1, off1, rfl, _, _, hc0⟩ := hD.atm (k := 0) (by rw [HD.out]; exact h0)
  have hr0b : (((r.take x.toNat)[0]'(by rw [HD.out]; exact h0)).toNat : Int) = 0 := digit00 hr0 (by rw [HD.out]; exact h0)
  clear hr0
  unfold bv at hc0
  rw [hr0b] at hc0
  clear hr0b
  replace hc0 : w2.cell? ⟨b1, off1, none⟩ = some (.int .u8 0) := hc0
  obtain ⟨A5, ca5, ha5⟩ := h2.at_
  go_wp2_with fail
  refine (fail_any eb Z A5 ca5 (r.drop x.toNat) 0 10 _ ha5).mono ?_
  rintro e w3 ⟨rfl, h3⟩
  replace h3 : EyeTo w2 107 eb Z [] 10 w3 := h3
  replace hD := hD.fr h3.fr (by rintro b _ hb rfl; exact hz hb)
  have h13 := h12.trans h3
  go_wp2_with fail
  go_loop [4, 48] (fun nv iv => ∃ i : Nat, i ≤ x.toNat ∧ iv = .int .i64 (i : Int) ∧ nv = .int .u64 (val ((r.take x.toNat).take i) : Int)) (fun _ iv => x.toNat - (intOf iv).toNat)
  case atStart => exact ⟨0, Nat.zero_le _, rfl, rfl⟩
  case round =>
    obtain ⟨i, hi, rfl, rfl⟩ := hrel
    by_cases hlt : i < x.toNat
    · obtain ⟨b2, off2, eA, _, _, hc⟩ := hD.atm (k := i) (by rw [HD.out]; exact hlt)
      obtain ⟨rfl, rfl⟩ : b1 = b2 ∧ off1 = off2 := by simpa using eA
      have hv := val_take (l := r.take x.toNat) (i := i) (by rw [HD.out]; exact hlt)
      have hb7 : val ((r.take x.toNat).take i) < 256 ^ 7 := Nat.lt_of_lt_of_le (val_lt _) (Nat.pow_le_pow_right (by decide) (by rw [List.length_take, HD.out]; omega))
      have hgd : (r.take x.toNat).getD i 0 = (r.take x.toNat)[i]'(by rw [HD.out]; exact hlt) := by rw [List.getD_eq_getElem?_getD, List.getElem?_eq_getElem (by rw [HD.out]; exact hlt)]; rfl
      rw [hgd] at hv
      generalize (r.take x.toNat)[i]'(by rw [HD.out]; exact hlt) = d at hc hv
      have HV := Lib.hid hv
      clear hv hgd
      unfold bv at hc
      generalize val ((r.take x.toNat).take i) = m at *
      have hor := or_byte (n := m) (d := d) hb7
      have hm56 : m < 72057594037927936 := hb7
      clear hb7
      have hd8 := d.toNat_lt
      go_wp2_with fail
      go_round
      case rel => exact ⟨i + 1, hlt, by go_num, by rw [HV.out]; go_num⟩
      case measure => simp [intOf]; omega
    · have e : i = x.toNat := by omega
      subst e
      rw [show ((r.take x.toNat).take x.toNat) = r.take x.toNat by rw [List.take_take]; simp]
      obtain ⟨A3, ca3, ha3⟩ := h3.at_
      have c13 := ha3.c1
      have hvl := val_lt64 (l := r.take x.toNat) (by rw [HD.out]; omega)
      by_cases hm : most < val (r.take x.toNat)
      · go_wp2_with fail
        refine (fail_any eb Z A3 ca3 [] 10 13 _ ha3).mono ?_
        rintro e w9 ⟨rfl, h9⟩
        replace h9 : EyeTo w3 107 eb Z [] 10 w9 := h9
        obtain ⟨A4, ca4, ha4⟩ := h9.at_
        have c14 := ha4.c1
        go_wp2_with fail
        go_ret
        rw [readS_zero hx hr HCL.out]
        exact ⟨rfl, h13.trans h9⟩
      · go_wp2_with fail
        go_ret
        rw [readS_zero hx hr HCL.out]
        exact ⟨rfl, h13⟩


theorem eyeNum_any (eb : Nat) (Z : Nat → Prop) (A : Option Addr) (c : Nat) (l : List UInt8) (f : Int) (most : Nat) (w : World) (h : EyeAt w 107 eb Z A c l f) (hz : ¬ Z eb) :
    Calls Tryz.prog 61 #[.pointer (some ⟨eb, 0, none⟩), .int .u64 most] w (NumTo w 107 eb Z (readS l f most)) := by
  by_cases hf : f = 0
  · subst hf
    rcases l with _ | ⟨x, r⟩
    · exact eyeNum_none eb Z A c most w h
    · by_cases hx : 8 < x.toNat
      · exact eyeNum_wide eb Z A c x r most w h hz hx
      · by_cases hr : r.length < x.toNat
        · exact eyeNum_short eb Z A c x r most w h hz hx hr
        · by_cases h0 : x.toNat = 0
          · exact eyeNum_ok0 eb Z A c x r most w h hz hx hr h0
          · by_cases hr0 : r.getD 0 0 = 0
            · exact eyeNum_zero eb Z A c x r most w h hz hx hr (by omega) hr0
            · exact eyeNum_ok1 eb Z A c x r most w h hz hx hr (by omega) hr0
  · exact eyeNum_bad eb Z A c l f most w h hf
end Go.Proofs.YtjcfphdjgagimaaGreatDoor

/- tenderref01.Eye.Read. -/
namespace Go.Proofs.YtjcfphdjgagimaaGreatDoor
open Go.RowKit

end Go.Proofs.YtjcfphdjgagimaaGreatDoor

/- grain.Eye: Open, Fault, Left, Close, Int, Truth; digits and their number. -/
namespace Go.Proofs.YtjcfphdjgagimaaGreatDoor
open Go.RowKit

set_option maxHeartbeats 400000 in
theorem open_any (A : Option Addr) (c n : Nat) (w : World) :
    Calls Tryz.prog 26 #[.slice A n c] w fun e w' => e = .returned (.pointer (some ⟨w.heap.size, 0, none⟩)) ∧ w.alloc (.cells #[.slice A n c, .int .i64 0] 107) = w' := by
  go_enter Tryz.func26, Tryz.ntmps26
  go_wp2_with fail
  go_ret
  exact ⟨rfl, rfl⟩
/-- a new eye -/
theorem EyeAt.new (w : World) {T : Nat} {Z : Nat → Prop} {A : Option Addr} {c : Nat} {l : List UInt8} (h : By w Z A l) (h1 : l.length ≤ c) (h2 : c ≤ maxLen) :
    EyeAt (w.alloc (.cells #[.slice A l.length c, .int .i64 0] T)) T w.heap.size Z A c l 0 := ⟨Blk.new _ _ _, h.alloc _, h1, h2⟩

set_option maxHeartbeats 400000 in
theorem fault_any (eb : Nat) (Z : Nat → Prop) (A : Option Addr) (c : Nat) (l : List UInt8) (f : Int) (w : World) (h : EyeAt w 107 eb Z A c l f) :
    Calls Tryz.prog 28 #[.pointer (some ⟨eb, 0, none⟩)] w fun e w' => e = .returned (.int .i64 f) ∧ w = w' := by
  have c1 := h.c1
  go_enter Tryz.func28, Tryz.ntmps28
  go_wp2_with fail
  go_ret
  exact ⟨rfl, rfl⟩

set_option maxHeartbeats 400000 in
theorem left_any (eb : Nat) (Z : Nat → Prop) (A : Option Addr) (c : Nat) (l : List UInt8) (f : Int) (w : World) (h : EyeAt w 107 eb Z A c l f) :
    Calls Tryz.prog 66 #[.pointer (some ⟨eb, 0, none⟩)] w fun e w' => e = .returned (.int .i64 (l.length : Int)) ∧ w = w' := by
  have c0 := h.c0
  go_enter Tryz.func66, Tryz.ntmps66
  go_wp2_with fail
  go_ret
  exact ⟨rfl, rfl⟩

/-- what Close tells -/
def closeS (l : List UInt8) (f : Int) : Int := if f ≠ 0 then f else if 0 < l.length then 12 else 0

set_option maxHeartbeats 400000 in
theorem close_any (eb : Nat) (Z : Nat → Prop) (A : Option Addr) (c : Nat) (l : List UInt8) (f : Int) (w : World) (h : EyeAt w 107 eb Z A c l f) :
    Calls Tryz.prog 33 #[.pointer (some ⟨eb, 0, none⟩)] w fun e w' => e = .returned (.int .i64 (closeS l f)) ∧ w = w' := by
  by_cases hf : f = 0
  · by_cases hl : 0 < l.length
    · have e1 := Lib.hid (show closeS l f = 12 by unfold closeS; rw [if_neg (by simpa using hf), if_pos hl])
      subst hf
      go_enter Tryz.func33, Tryz.ntmps33
      go_wp2_with (first | (go_at_call 28; refine (fault_any eb Z A c l 0 _ h).mono ?_; rintro e w' ⟨rfl, rfl⟩) | (go_at_call 66; refine (left_any eb Z A c l 0 _ h).mono ?_; rintro e w' ⟨rfl, rfl⟩))
      go_ret
      exact ⟨by rw [e1.out]; rfl, rfl⟩
    · have e1 := Lib.hid (show closeS l f = 0 by unfold closeS; rw [if_neg (by simpa using hf), if_neg hl])
      subst hf
      go_enter Tryz.func33, Tryz.ntmps33
      go_wp2_with (first | (go_at_call 28; refine (fault_any eb Z A c l 0 _ h).mono ?_; rintro e w' ⟨rfl, rfl⟩) | (go_at_call 66; refine (left_any eb Z A c l 0 _ h).mono ?_; rintro e w' ⟨rfl, rfl⟩))
      go_ret
      exact ⟨by rw [e1.out]; rfl, rfl⟩
  · have e1 := Lib.hid (show closeS l f = f by unfold closeS; rw [if_pos hf])
    have hfb : (f != 0) = true := by simpa using hf
    go_enter Tryz.func33, Tryz.ntmps33
    go_wp2_with (first | (go_at_call 28; refine (fault_any eb Z A c l f _ h).mono ?_; rintro e w' ⟨rfl, rfl⟩))
    go_ret
    exact ⟨by rw [e1.out]; rfl, rfl⟩

end Go.Proofs.YtjcfphdjgagimaaGreatDoor

/- grain.Eye and tenderref01.Eye: Int, Truth, Text; an eye that is none. -/
namespace Go.Proofs.YtjcfphdjgagimaaGreatDoor
open Go.RowKit

theorem readS_le (l : List UInt8) (f : Int) (most : Nat) : (readS l f most).1 ≤ most := by
  by_cases hf : f = 0
  · subst hf
    rcases l with _ | ⟨x, r⟩
    · rw [readS_nil]; exact Nat.zero_le _
    · by_cases h1 : 8 < x.toNat
      · rw [readS_wide h1]; exact Nat.zero_le _
      · by_cases h2 : r.length < x.toNat
        · rw [readS_short h1 h2]; exact Nat.zero_le _
        · by_cases h3 : 0 < x.toNat ∧ r.getD 0 0 = 0
          · rw [readS_zero h1 h2 h3]; exact Nat.zero_le _
          · by_cases h4 : most < val (r.take x.toNat)
            · rw [readS_long h1 h2 h3 h4]; exact Nat.zero_le _
            · rw [readS_ok h1 h2 h3 h4]; dsimp only; omega
  · rw [readS_bad hf]; exact Nat.zero_le _
theorem readS_len (l : List UInt8) (f : Int) (most : Nat) : (readS l f most).2.1.length ≤ l.length := by
  by_cases hf : f = 0
  · subst hf
    rcases l with _ | ⟨x, r⟩
    · rw [readS_nil]; exact Nat.zero_le _
    · by_cases h1 : 8 < x.toNat
      · rw [readS_wide h1]; exact Nat.zero_le _
      · by_cases h2 : r.length < x.toNat
        · rw [readS_short h1 h2]; exact Nat.zero_le _
        · by_cases h3 : 0 < x.toNat ∧ r.getD 0 0 = 0
          · rw [readS_zero h1 h2 h3]; exact Nat.zero_le _
          · by_cases h4 : most < val (r.take x.toNat)
            · rw [readS_long h1 h2 h3 h4]; exact Nat.zero_le _
            · rw [readS_ok h1 h2 h3 h4]; simp; omega
  · rw [readS_bad hf]; exact Nat.le_refl _
theorem failS_len (l : List UInt8) (f code : Int) : (failS l f code).1.length ≤ l.length := by unfold failS; split <;> simp

theorem clone_n (A : Option Addr) (c n : Nat) (l : List UInt8) (Z : Nat → Prop) (w : World) (h : Rd w Z 1 A n (l.map bv)) (hn : n = l.length) (hlen : l.length ≤ 140737488355328) :
    Calls Tryz.prog 60 #[.slice A n c] w fun e w' => ∃ (A' : Option Addr) (c' : Nat) (l' : List UInt8), e = .returned (.slice A' l'.length c') ∧ Hid (l' = l) ∧ OwB w' w.heap.size (.slice A' l'.length c') l' ∧ Below w.heap.size w w' := by
  subst hn
  exact clone_any A c l Z w h hlen

/-- an int is read -/
def intS (l : List UInt8) (f : Int) (most : Int) : Nat × List UInt8 × Int :=
  if 0 ≤ most then readS l f most.toNat else (0, failS (readS l f 0).2.1 (readS l f 0).2.2 13)
def IntTo (w : World) (T eb : Nat) (Z : Nat → Prop) (r : Nat × List UInt8 × Int) (e : Ending) (w' : World) : Prop := e = .returned (.int .i64 (r.1 : Int)) ∧ EyeTo w T eb Z r.2.1 r.2.2 w'
theorem intS_len (l : List UInt8) (f most : Int) : (intS l f most).2.1.length ≤ l.length := by
  unfold intS
  split
  · exact readS_len _ _ _
  · exact Nat.le_trans (failS_len _ _ _) (readS_len _ _ _)

set_option maxHeartbeats 400000 in
theorem int_any (eb : Nat) (Z : Nat → Prop) (A : Option Addr) (c : Nat) (l : List UInt8) (f most : Int) (w : World) (h : EyeAt w 107 eb Z A c l f) (hz : ¬ Z eb) (hm : most < 9223372036854775808) :
    Calls Tryz.prog 27 #[.pointer (some ⟨eb, 0, none⟩), .int .i64 most] w (IntTo w 107 eb Z (intS l f most)) := by
  by_cases h0 : 0 ≤ most
  · have e1 : intS l f most = readS l f most.toNat := by unfold intS; rw [if_pos h0]
    rw [e1]
    have hle := readS_le l f most.toNat
    have hn := eyeNum_any eb Z A c l f most.toNat w h hz
    rw [Int.toNat_of_nonneg h0] at hn
    have HN := Lib.hid hn
    clear hn e1
    generalize readS l f most.toNat = r at *
    obtain ⟨n, l', f'⟩ := r
    dsimp only at *
    go_enter Tryz.func27, Tryz.ntmps27
    go_wp2_with fail
    refine HN.out.mono ?_
    rintro e w1 ⟨rfl, h1⟩
    go_wp2_with fail
    go_ret
    exact ⟨rfl, h1⟩
  · have e1 : intS l f most = (0, failS (readS l f 0).2.1 (readS l f 0).2.2 13) := by unfold intS; rw [if_neg h0]
    rw [e1]
    have hn := eyeNum_any eb Z A c l f 0 w h hz
    have HN := Lib.hid hn
    clear hn e1
    generalize readS l f 0 = r at *
    obtain ⟨n, l', f'⟩ := r
    dsimp only at *
    go_enter Tryz.func27, Tryz.ntmps27
    go_wp2_with fail
    refine HN.out.mono ?_
    rintro e w1 ⟨rfl, h1⟩
    obtain ⟨A1, c1, ha1⟩ := h1.at_
    dsimp only at ha1
    go_wp2_with fail
    refine (fail_any eb Z A1 c1 l' f' 13 w1 ha1).mono ?_
    rintro e w2 ⟨rfl, h2⟩
    go_wp2_with fail
    go_ret
    exact ⟨rfl, h1.trans h2⟩

/-- a text is read -/
def textS (l : List UInt8) (f most : Int) : List UInt8 × List UInt8 × Int :=
  let r := intS l f most
  if r.2.2 ≠ 0 then ([], r.2.1, r.2.2) else if r.2.1.length < r.1 then ([], [], 11) else (r.2.1.take r.1, r.2.1.drop r.1, 0)

set_option maxHeartbeats 400000 in
theorem text_any (eb : Nat) (Z : Nat → Prop) (A : Option Addr) (c : Nat) (l : List UInt8) (f most : Int) (w : World) (h : EyeAt w 107 eb Z A c l f) (hz : ¬ Z eb) (hm : most < 9223372036854775808) (hl : l.length ≤ 140737488355328) :
    Calls Tryz.prog 29 #[.pointer (some ⟨eb, 0, none⟩), .int .i64 most] w fun e w' => ∃ (A' : Option Addr) (c' : Nat) (l' : List UInt8), e = .returned (.slice A' l'.length c') ∧ Hid (l' = (textS l f most).1) ∧ OwB w' w.heap.size (.slice A' l'.length c') l' ∧ EyeTo w 107 eb Z (textS l f most).2.1 (textS l f most).2.2 w' := by
  have hn := int_any eb Z A c l f most w h hz hm
  have HN := Lib.hid hn
  have hil := intS_len l f most
  clear hn
  unfold textS
  generalize intS l f most = r at *
  obtain ⟨n, l1, f1⟩ := r
  dsimp only at *
  by_cases hf : f1 = 0
  · subst hf
    by_cases hlt : l1.length < n
    · rw [if_neg (by simp), if_pos hlt]
      go_enter Tryz.func29, Tryz.ntmps29
      go_wp2_with fail
      refine HN.out.mono ?_
      rintro e w1 ⟨rfl, h1⟩
      obtain ⟨A1, c1, ha1⟩ := h1.at_
      have k1 := ha1.c1
      dsimp only at ha1 k1
      go_wp2_with fail
      refine (take_out eb Z A1 c1 l1 n w1 ha1 hlt).mono ?_
      rintro e w2 ⟨rfl, h2⟩
      go_wp2_with fail
      refine (clone_any none 0 [] (fun _ => True) w2 Rd.nil (by simp)).mono ?_
      rintro e w3 ⟨A3, c3, l3, rfl, hl3, ho3, hb3⟩
      go_wp2_with fail
      go_ret
      exact ⟨A3, c3, l3, rfl, hl3, own_base ho3 (fun g hg => Nat.le_trans (Nat.le_trans h1.fr.size h2.fr.size) (ho3.lt _ hg).1), (h1.trans h2).then_ hb3⟩
    · rw [if_neg (by simp), if_neg hlt]
      go_enter Tryz.func29, Tryz.ntmps29
      go_wp2_with fail
      refine HN.out.mono ?_
      rintro e w1 ⟨rfl, h1⟩
      obtain ⟨A1, c1, ha1⟩ := h1.at_
      have k1 := ha1.c1
      dsimp only at ha1 k1
      go_wp2_with fail
      refine (take_in eb Z A1 c1 l1 0 n w1 ha1 hz (by omega)).mono ?_
      rintro e w2 ⟨c2, rfl, hc2, hm2, h2⟩
      have hD : Rd w2 Z 1 A1 n ((l1.take n).map bv) := by
        have := (Rd.take ha1.2.1 (k := n) (by omega)).fr h2.fr (by rintro b _ hb rfl; exact hz hb)
        rw [Nat.mul_one, ← List.map_take] at this
        exact this
      have hDn : n = (l1.take n).length := by rw [List.length_take]; omega
      have HDn := Lib.hid hDn
      clear hDn
      go_wp2_with fail
      refine (clone_n A1 c2 n (l1.take n) _ w2 hD HDn.out (by rw [← HDn.out]; omega)).mono ?_
      rintro e w3 ⟨A3, c3, l3, rfl, hl3, ho3, hb3⟩
      go_wp2_with fail
      go_ret
      exact ⟨A3, c3, l3, rfl, hl3, own_base ho3 (fun g hg => Nat.le_trans (Nat.le_trans h1.fr.size h2.fr.size) (ho3.lt _ hg).1), (h1.trans h2).then_ hb3⟩
  · rw [if_pos hf]
    have hfb : (f1 != 0) = true := by simpa using hf
    go_enter Tryz.func29, Tryz.ntmps29
    go_wp2_with fail
    refine HN.out.mono ?_
    rintro e w1 ⟨rfl, h1⟩
    obtain ⟨A1, c1, ha1⟩ := h1.at_
    have k1 := ha1.c1
    dsimp only at ha1 k1
    go_wp2_with fail
    go_ret
    exact ⟨none, 0, [], rfl, rfl, OwB.nil _ _, h1⟩

end Go.Proofs.YtjcfphdjgagimaaGreatDoor

/- What was written is read as it was: the plain law. -/
namespace Go.Proofs.YtjcfphdjgagimaaGreatDoor
open Go.RowKit

theorem val_digs : ∀ (k n : Nat), k ≤ 8 → n < 256 ^ k → val (digs n) = n ∧ (0 < n → (digs n).getD 0 0 ≠ 0 ∧ 0 < (digs n).length)
  | 0, n, _, h => by
    have : n = 0 := by simpa using h
    subst this
    rw [digs_zero]
    exact ⟨rfl, fun h => absurd h (by omega)⟩
  | k + 1, n, hk, h => by
    rcases Nat.eq_zero_or_pos n with h0 | h0
    · subst h0
      rw [digs_zero]
      exact ⟨rfl, fun h => absurd h (by omega)⟩
    · have h64 : n < 18446744073709551616 := Nat.lt_of_lt_of_le h (pow_le8 hk)
      have h' : n / 256 < 256 ^ k := by
        rw [Nat.div_lt_iff_lt_mul (by omega)]
        rw [Nat.pow_succ] at h
        exact h
      obtain ⟨i1, i2⟩ := val_digs k (n / 256) (by omega) h'
      rw [digs_step h0 h64, val_snoc, i1, UInt8.toNat_ofNat', Nat.mod_mod]
      refine ⟨by omega, fun _ => ⟨?_, by simp⟩⟩
      rcases Nat.eq_zero_or_pos (n / 256) with h1 | h1
      · rw [h1, digs_zero]
        intro e
        have e2 : UInt8.ofNat (n % 256) = 0 := by simpa using e
        have e3 := congrArg UInt8.toNat e2
        rw [UInt8.toNat_ofNat', Nat.mod_mod] at e3
        have : (0 : UInt8).toNat = 0 := rfl
        omega
      · obtain ⟨j1, j2⟩ := i2 h1
        rw [List.getD_eq_getElem?_getD, List.getElem?_append_left j2, ← List.getD_eq_getElem?_getD]
        exact j1

theorem read_numB {n most : Nat} (t : List UInt8) (h : n < 18446744073709551616) (hm : n ≤ most) : readS (numB n ++ t) 0 most = (n, t, 0) := by
  obtain ⟨v1, v2⟩ := val_digs 8 n (by omega) h
  have h8 := digs_len n
  have hx : (UInt8.ofNat (digs n).length).toNat = (digs n).length := by rw [UInt8.toNat_ofNat', Nat.mod_eq_of_lt (by omega)]
  unfold numB
  rw [List.cons_append]
  have htk : (digs n ++ t).take (digs n).length = digs n := List.take_left
  have hdr : (digs n ++ t).drop (digs n).length = t := List.drop_left
  rw [readS_ok]
  · rw [hx, htk, hdr, v1]
  · rw [hx]; omega
  · rw [hx, List.length_append]; omega
  · rw [hx]
    rintro ⟨h1, h2⟩
    rw [List.getD_eq_getElem?_getD, List.getElem?_append_left h1, ← List.getD_eq_getElem?_getD] at h2
    have h0 : 0 < n := by
      rcases Nat.eq_zero_or_pos n with h0 | h0
      · subst h0; rw [digs_zero] at h1; simp at h1
      · exact h0
    exact (v2 h0).1 h2
  · rw [hx, htk, v1]; omega
theorem int_numB {n : Nat} {most : Int} (t : List UInt8) (h : n < 9223372036854775808) (hm : (n : Int) ≤ most) : intS (numB n ++ t) 0 most = (n, t, 0) := by
  unfold intS
  rw [if_pos (by omega), read_numB t (by omega) (by omega)]
theorem text_textB {l : List UInt8} {most : Int} (t : List UInt8) (h : l.length < 9223372036854775808) (hm : (l.length : Int) ≤ most) : textS (textB l ++ t) 0 most = (l, t, 0) := by
  unfold textS textB
  rw [List.append_assoc, int_numB _ h hm]
  simp
end Go.Proofs.YtjcfphdjgagimaaGreatDoor

/- []byte(s). -/
namespace Go.Proofs.YtjcfphdjgagimaaGreatDoor
open Go.RowKit

theorem conv_str (w : World) (l : List UInt8) (hl : l.length ≤ maxLen) : ∃ c W, (convert 9 29 (.string ⟨⟨l⟩⟩)).run Tryz.prog w = .ok (.slice (some ⟨w.heap.size, 0, none⟩) l.length c) W ∧ By W (fun b => b = w.heap.size) (some ⟨w.heap.size, 0, none⟩) l ∧ l.length ≤ c ∧ c ≤ maxLen ∧ Below w.heap.size w W ∧ W.heap.size = w.heap.size + 1 := by
  refine ⟨_, _, Lib.run_convert_string_bytes w _ _ 5 ⟨⟨l⟩⟩ Tryz.underlying9 Tryz.underlying29 Tryz.underlying5, ?_, grownCap_ge _ _ _ _, grownCap_le_maxLen _ _ _ _ hl, ?_, Lib.bytesWorld_size _ _ _⟩
  · refine ⟨by simp, fun h => ⟨w.heap.size, 0, rfl, rfl, by rw [Lib.bytesWorld_size]; omega, fun j u hj => ?_⟩⟩
    have hjl : j < l.length := by
      by_cases h2 : j < l.length
      · exact h2
      · rw [List.getElem?_eq_none (by simpa using h2)] at hj; cases hj
    rw [Nat.zero_add, Lib.bytesWorld_cell w 5 ⟨⟨l⟩⟩ j hjl]
    simp [hjl, List.getD] at hj ⊢
    exact hj
  · exact ⟨rfl, rfl, rfl, by rw [Lib.bytesWorld_size]; omega, fun k hk => Lib.bytesWorld_at_old _ _ _ _ hk⟩
end Go.Proofs.YtjcfphdjgagimaaGreatDoor

/- Two eyes on the same bytes: grain's and the document's. -/
namespace Go.Proofs.YtjcfphdjgagimaaGreatDoor
open Go.RowKit

theorem EyeAt.mono {w : World} {T eb : Nat} {Z Z' : Nat → Prop} {A : Option Addr} {c : Nat} {l : List UInt8} {f : Int} (h : EyeAt w T eb Z A c l f) (hz : ∀ b, b < w.heap.size → Z b → Z' b) : EyeAt w T eb Z' A c l f := ⟨h.1, h.2.1.mono hz, h.2.2⟩
theorem EyeTo.mono {w w' : World} {T eb : Nat} {Z Z' : Nat → Prop} {l : List UInt8} {f : Int} (h : EyeTo w T eb Z l f w') (hz : ∀ b, Z b → Z' b) : EyeTo w T eb Z' l f w' := by
  obtain ⟨A, c, ha⟩ := h.at_
  exact ⟨⟨A, c, ha.mono (fun b _ hb => hz b hb)⟩, h.fr⟩
/-- a store into a new block beside an eye -/
theorem EyeTo.side {a b c : World} {T eb bx : Nat} {Z : Nat → Prop} {l : List UInt8} {f : Int} (h : EyeTo a T eb Z l f b) (k : Fr (fun x => x = bx) b c) (hb : a.heap.size ≤ bx) (h1 : bx ≠ eb) (hz : ∀ x, Z x → x ≠ bx) : EyeTo a T eb Z l f c := by
  obtain ⟨A, c', ha⟩ := h.at_
  exact ⟨⟨A, c', ha.fr k (fun e => h1 e.symm) (fun x _ hx => hz x hx)⟩, h.fr.trans k (fun x hx e => by omega)⟩
/-- new memory ahead of an eye's method -/
theorem EyeTo.after {a b c : World} {T eb : Nat} {Z : Nat → Prop} {l : List UInt8} {f : Int} (k : Below a.heap.size a b) (h : EyeTo b T eb Z l f c) : EyeTo a T eb Z l f c :=
  ⟨h.at_, (Fr.of_below k _).trans h.fr (fun _ _ h => h)⟩
end Go.Proofs.YtjcfphdjgagimaaGreatDoor

/- leaf.Read, tenderref07.Read, tenderref07.Bytes. -/
namespace Go.Proofs.YtjcfphdjgagimaaGreatDoor
open Go.RowKit

/-- a leaf is read: its kind, its bytes, what is left, the fault -/
def leafS (l : List UInt8) (f : Int) : Nat × List UInt8 × List UInt8 × Int :=
  let r := intS l f 2
  let s := if r.1 = 1 then textS r.2.1 r.2.2 4096 else ([], r.2.1, r.2.2)
  if s.2.2 ≠ 0 then (0, [], s.2.1, s.2.2) else (r.1, s.1, s.2.1, s.2.2)
set_option maxHeartbeats 1000000 in
theorem leafRead_any (eb : Nat) (Z : Nat → Prop) (A : Option Addr) (c : Nat) (l : List UInt8) (f : Int) (w : World) (h : EyeAt w 107 eb Z A c l f) (hz : ¬ Z eb) (hl : l.length ≤ 140737488355328) :
    Calls Tryz.prog 30 #[.pointer (some ⟨eb, 0, none⟩)] w fun e w' => ∃ (A' : Option Addr) (c' : Nat) (l' : List UInt8), e = .returned (.agg #[.int .i64 ((leafS l f).1 : Int), .slice A' l'.length c']) ∧ Hid (l' = (leafS l f).2.1) ∧ OwB w' w.heap.size (.slice A' l'.length c') l' ∧ EyeTo w 107 eb Z (leafS l f).2.2.1 (leafS l f).2.2.2 w' := by
  have hzz : ∀ x, (fun b => Z b ∧ b < w.heap.size) x → Z x := fun x h => h.1
  have hzw : ∀ x, (fun b => Z b ∧ b < w.heap.size) x → x ≠ w.heap.size := fun x h e => by have := h.2; omega
  have hz : ¬ (fun b => Z b ∧ b < w.heap.size) eb := fun h => hz h.1
  replace h := h.mono (Z' := fun b => Z b ∧ b < w.heap.size) (fun b h1 h2 => ⟨h2, h1⟩)
  suffices hs : Calls Tryz.prog 30 #[.pointer (some ⟨eb, 0, none⟩)] w fun e w' => ∃ (A' : Option Addr) (c' : Nat) (l' : List UInt8), e = .returned (.agg #[.int .i64 ((leafS l f).1 : Int), .slice A' l'.length c']) ∧ Hid (l' = (leafS l f).2.1) ∧ OwB w' w.heap.size (.slice A' l'.length c') l' ∧ EyeTo w 107 eb (fun b => Z b ∧ b < w.heap.size) (leafS l f).2.2.1 (leafS l f).2.2.2 w' by
    refine hs.mono ?_
    rintro e w' ⟨A', c', l', h1, h2, h3, h4⟩
    exact ⟨A', c', l', h1, h2, h3, h4.mono hzz⟩
  clear hzz
  generalize hZ' : (fun b => Z b ∧ b < w.heap.size) = Y at *
  clear hZ'
  have hn := fun w (h : EyeAt w 107 eb Y A c l f) => int_any eb Y A c l f 2 w h hz (by omega)
  have HN := Lib.hid hn
  have hil := intS_len l f 2
  clear hn
  unfold leafS
  generalize intS l f 2 = r at *
  obtain ⟨n, l1, f1⟩ := r
  dsimp only at *
  have hlt := h.1.lt
  by_cases hn1 : n = 1
  · rw [if_pos hn1]
    subst hn1
    have htx := fun w A2 c2 h => text_any eb Y A2 c2 l1 f1 4096 w h hz (by omega) (by omega)
    have HTX := Lib.hid htx
    clear htx
    generalize textS l1 f1 4096 = r at *
    obtain ⟨t, l2, f2⟩ := r
    dsimp only at *
    by_cases hf : f2 = 0
    · subst hf
      rw [if_neg (by simp)]
      go_enter Tryz.func30, Tryz.ntmps30
      go_wp2_with fail
      have bx0 := Blk.new w 46 #[.int .i64 0, .slice none 0 0]
      have hlow0 : Below w.heap.size w (w.alloc (.cells #[.int .i64 0, .slice none 0 0] 46)) := (Below.refl _ _).alloc (Nat.le_refl _) _
      refine (HN.out _ (h.below hlow0)).mono ?_
      rintro e w1 ⟨rfl, h1⟩
      dsimp only at h1
      have hs1 := h1.fr.size
      simp at hs1
      have bx1 : Blk w1 w.heap.size 46 #[.int .i64 0, .slice none 0 0] := bx0.fr h1.fr (by omega)
      have ht1 := EyeTo.after hlow0 h1
      have bx2 : Blk (w1.setCell ⟨w.heap.size, 0, none⟩ (.int .i64 1)) w.heap.size 46 #[.int .i64 1, .slice none 0 0] := by simpa using bx1.set_ 0 (.int .i64 1)
      have hf2 : Fr (fun x => x = w.heap.size) w1 (w1.setCell ⟨w.heap.size, 0, none⟩ (.int .i64 1)) := (Fr.refl (fun x => x = w.heap.size) w1).setAt w.heap.size 0 rfl _
      have ht2 := ht1.side hf2 (Nat.le_refl _) (by omega) hzw
      have hs2 := hf2.size
      have q0 := bx1.cell 0
      have q1 := bx1.frozen 0
      have r0 : (w1.setCell ⟨w.heap.size, 0, none⟩ (.int .i64 1)).cell? ⟨w.heap.size, 0, none⟩ = some (.int .i64 1) := bx2.cell 0
      obtain ⟨A2, c2, ha2⟩ := ht2.at_
      clear h1 ht1 hf2 bx0 hlow0 HN
      go_wp2_with fail
      clear r0 q0 q1 bx1
      generalize w1.setCell ⟨w.heap.size, 0, none⟩ (.int .i64 1) = W1 at *
      refine (HTX.out W1 A2 c2 ha2).mono ?_
      rintro e w3 ⟨A4, c4, l4, rfl, hl4, ho4, ht4⟩
      have ht3 := ht2.trans ht4
      have bx3 : Blk w3 w.heap.size 46 #[.int .i64 1, .slice none 0 0] := bx2.fr ht4.fr (by omega)
      have bxW : Blk (w3.setCell ⟨w.heap.size, 1, none⟩ (.slice A4 l4.length c4)) w.heap.size 46 #[.int .i64 1, .slice A4 l4.length c4] := by simpa using bx3.set_ 1 (.slice A4 l4.length c4)
      have hfW : Fr (fun x => x = w.heap.size) w3 (w3.setCell ⟨w.heap.size, 1, none⟩ (.slice A4 l4.length c4)) := (Fr.refl (fun x => x = w.heap.size) w3).setAt w.heap.size 1 rfl _
      have hsW := bx2.lt
      have ht := ht3.side hfW (Nat.le_refl _) (by omega) hzw
      have ho : OwB (w3.setCell ⟨w.heap.size, 1, none⟩ (.slice A4 l4.length c4)) w.heap.size (.slice A4 l4.length c4) l4 := own_base (ho4.fr hfW (fun g hg e => by have := (ho4.lt g hg).1; omega)) (fun g hg => by have := (ho4.lt g hg).1; omega)
      have q0 := bx3.cell 1
      have q1 := bx3.frozen 1
      obtain ⟨A3, c3, ha3⟩ := ht.at_
      go_wp2_with fail
      clear q0 q1 bx3
      generalize w3.setCell ⟨w.heap.size, 1, none⟩ (.slice A4 l4.length c4) = W at *
      refine (fault_any eb Y A3 c3 l2 0 _ ha3).mono ?_
      rintro e w4 ⟨rfl, rfl⟩
      have d0 : W.cell? ⟨w.heap.size, 0, none⟩ = some (.int .i64 1) := bxW.cell 0
      have d1 : W.cell? ⟨w.heap.size, 1, none⟩ = some (.slice A4 l4.length c4) := bxW.cell 1
      have g0 := bxW.frozen 0
      have g1 := bxW.frozen 1
      go_wp2_with fail
      obtain ⟨bxV, hfV⟩ := Blk.two (x' := .int .i64 1) (y' := .slice A4 l4.length c4) bxW
      have htV := ht.side hfV (Nat.le_refl _) (by omega) hzw
      have hoV := ho.past bxW (by decide) hfV
      generalize (W.setCell ⟨w.heap.size, 0, none⟩ (.int .i64 1)).setCell ⟨w.heap.size, 1, none⟩ (.slice A4 l4.length c4) = V at *
      have x0 : V.cell? ⟨w.heap.size, 0, none⟩ = some (.int .i64 1) := bxV.cell 0
      have x1 : V.cell? ⟨w.heap.size, 1, none⟩ = some (.slice A4 l4.length c4) := bxV.cell 1
      refine bodyPost_ret (v := .agg #[.int .i64 1, .slice A4 l4.length c4]) (by simp [results, Tryz.results30, go_sem, x0, x1]) rfl ?_
      exact ⟨A4, c4, l4, rfl, hl4, hoV, htV⟩
    · rw [if_pos hf]
      have hfb : (f2 != 0) = true := by simpa using hf
      go_enter Tryz.func30, Tryz.ntmps30
      go_wp2_with fail
      have bx0 := Blk.new w 46 #[.int .i64 0, .slice none 0 0]
      have hlow0 : Below w.heap.size w (w.alloc (.cells #[.int .i64 0, .slice none 0 0] 46)) := (Below.refl _ _).alloc (Nat.le_refl _) _
      refine (HN.out _ (h.below hlow0)).mono ?_
      rintro e w1 ⟨rfl, h1⟩
      dsimp only at h1
      have hs1 := h1.fr.size
      simp at hs1
      have bx1 : Blk w1 w.heap.size 46 #[.int .i64 0, .slice none 0 0] := bx0.fr h1.fr (by omega)
      have ht1 := EyeTo.after hlow0 h1
      have bx2 : Blk (w1.setCell ⟨w.heap.size, 0, none⟩ (.int .i64 1)) w.heap.size 46 #[.int .i64 1, .slice none 0 0] := by simpa using bx1.set_ 0 (.int .i64 1)
      have hf2 : Fr (fun x => x = w.heap.size) w1 (w1.setCell ⟨w.heap.size, 0, none⟩ (.int .i64 1)) := (Fr.refl (fun x => x = w.heap.size) w1).setAt w.heap.size 0 rfl _
      have ht2 := ht1.side hf2 (Nat.le_refl _) (by omega) hzw
      have hs2 := hf2.size
      have q0 := bx1.cell 0
      have q1 := bx1.frozen 0
      have r0 : (w1.setCell ⟨w.heap.size, 0, none⟩ (.int .i64 1)).cell? ⟨w.heap.size, 0, none⟩ = some (.int .i64 1) := bx2.cell 0
      obtain ⟨A2, c2, ha2⟩ := ht2.at_
      clear h1 ht1 hf2 bx0 hlow0 HN
      go_wp2_with fail
      clear r0 q0 q1 bx1
      generalize w1.setCell ⟨w.heap.size, 0, none⟩ (.int .i64 1) = W1 at *
      refine (HTX.out W1 A2 c2 ha2).mono ?_
      rintro e w3 ⟨A4, c4, l4, rfl, hl4, ho4, ht4⟩
      have ht3 := ht2.trans ht4
      have bx3 : Blk w3 w.heap.size 46 #[.int .i64 1, .slice none 0 0] := bx2.fr ht4.fr (by omega)
      have bxW : Blk (w3.setCell ⟨w.heap.size, 1, none⟩ (.slice A4 l4.length c4)) w.heap.size 46 #[.int .i64 1, .slice A4 l4.length c4] := by simpa using bx3.set_ 1 (.slice A4 l4.length c4)
      have hfW : Fr (fun x => x = w.heap.size) w3 (w3.setCell ⟨w.heap.size, 1, none⟩ (.slice A4 l4.length c4)) := (Fr.refl (fun x => x = w.heap.size) w3).setAt w.heap.size 1 rfl _
      have hsW := bx2.lt
      have ht := ht3.side hfW (Nat.le_refl _) (by omega) hzw
      have ho : OwB (w3.setCell ⟨w.heap.size, 1, none⟩ (.slice A4 l4.length c4)) w.heap.size (.slice A4 l4.length c4) l4 := own_base (ho4.fr hfW (fun g hg e => by have := (ho4.lt g hg).1; omega)) (fun g hg => by have := (ho4.lt g hg).1; omega)
      have q0 := bx3.cell 1
      have q1 := bx3.frozen 1
      obtain ⟨A3, c3, ha3⟩ := ht.at_
      go_wp2_with fail
      clear q0 q1 bx3
      generalize w3.setCell ⟨w.heap.size, 1, none⟩ (.slice A4 l4.length c4) = W at *
      refine (fault_any eb Y A3 c3 l2 f2 _ ha3).mono ?_
      rintro e w4 ⟨rfl, rfl⟩
      have d0 := bxW.cell 0
      have d1 := bxW.cell 1
      have g0 := bxW.frozen 0
      have g1 := bxW.frozen 1
      go_wp2_with fail
      obtain ⟨bxV, hfV⟩ := Blk.two (x' := .int .i64 0) (y' := .slice none 0 0) bxW
      have htV := ht.side hfV (Nat.le_refl _) (by omega) hzw
      generalize (W.setCell ⟨w.heap.size, 0, none⟩ (.int .i64 0)).setCell ⟨w.heap.size, 1, none⟩ (.slice none 0 0) = V at *
      have x0 : V.cell? ⟨w.heap.size, 0, none⟩ = some (.int .i64 0) := bxV.cell 0
      have x1 : V.cell? ⟨w.heap.size, 1, none⟩ = some (.slice none 0 0) := bxV.cell 1
      refine bodyPost_ret (v := .agg #[.int .i64 0, .slice none 0 0]) (by simp [results, Tryz.results30, go_sem, x0, x1]) rfl ?_
      exact ⟨none, 0, [], rfl, rfl, OwB.nil _ _, htV⟩
  · rw [if_neg hn1]
    have hn1b : ((n : Int) == 1) = false := by rw [beq_eq_false_iff_ne]; omega
    dsimp only
    by_cases hf : f1 = 0
    · subst hf
      rw [if_neg (by simp)]
      go_enter Tryz.func30, Tryz.ntmps30
      go_wp2_with fail
      have bx0 := Blk.new w 46 #[.int .i64 0, .slice none 0 0]
      have hlow0 : Below w.heap.size w (w.alloc (.cells #[.int .i64 0, .slice none 0 0] 46)) := (Below.refl _ _).alloc (Nat.le_refl _) _
      refine (HN.out _ (h.below hlow0)).mono ?_
      rintro e w1 ⟨rfl, h1⟩
      dsimp only at h1
      have hs1 := h1.fr.size
      simp at hs1
      have bx1 : Blk w1 w.heap.size 46 #[.int .i64 0, .slice none 0 0] := bx0.fr h1.fr (by omega)
      have ht1 := EyeTo.after hlow0 h1
      have bx2 : Blk (w1.setCell ⟨w.heap.size, 0, none⟩ (.int .i64 n)) w.heap.size 46 #[.int .i64 n, .slice none 0 0] := by simpa using bx1.set_ 0 (.int .i64 n)
      have hf2 : Fr (fun x => x = w.heap.size) w1 (w1.setCell ⟨w.heap.size, 0, none⟩ (.int .i64 n)) := (Fr.refl (fun x => x = w.heap.size) w1).setAt w.heap.size 0 rfl _
      have ht2 := ht1.side hf2 (Nat.le_refl _) (by omega) hzw
      have hs2 := hf2.size
      have q0 := bx1.cell 0
      have q1 := bx1.frozen 0
      have r0 : (w1.setCell ⟨w.heap.size, 0, none⟩ (.int .i64 n)).cell? ⟨w.heap.size, 0, none⟩ = some (.int .i64 n) := bx2.cell 0
      obtain ⟨A2, c2, ha2⟩ := ht2.at_
      clear h1 ht1 hf2 bx0 hlow0 HN
      go_wp2_with fail
      clear r0 q0 q1 bx1
      generalize w1.setCell ⟨w.heap.size, 0, none⟩ (.int .i64 n) = W at *
      have bxW := bx2
      have ht := ht2
      refine (fault_any eb Y A2 c2 l1 0 _ ha2).mono ?_
      rintro e w4 ⟨rfl, rfl⟩
      have d0 : W.cell? ⟨w.heap.size, 0, none⟩ = some (.int .i64 n) := bxW.cell 0
      have d1 : W.cell? ⟨w.heap.size, 1, none⟩ = some (.slice none 0 0) := bxW.cell 1
      have g0 := bxW.frozen 0
      have g1 := bxW.frozen 1
      go_wp2_with fail
      obtain ⟨bxV, hfV⟩ := Blk.two (x' := .int .i64 n) (y' := .slice none 0 0) bxW
      have htV := ht.side hfV (Nat.le_refl _) (by omega) hzw
      generalize (W.setCell ⟨w.heap.size, 0, none⟩ (.int .i64 n)).setCell ⟨w.heap.size, 1, none⟩ (.slice none 0 0) = V at *
      have x0 : V.cell? ⟨w.heap.size, 0, none⟩ = some (.int .i64 n) := bxV.cell 0
      have x1 : V.cell? ⟨w.heap.size, 1, none⟩ = some (.slice none 0 0) := bxV.cell 1
      refine bodyPost_ret (v := .agg #[.int .i64 n, .slice none 0 0]) (by simp [results, Tryz.results30, go_sem, x0, x1]) rfl ?_
      exact ⟨none, 0, [], rfl, rfl, OwB.nil _ _, htV⟩
    · rw [if_pos hf]
      have hfb : (f1 != 0) = true := by simpa using hf
      go_enter Tryz.func30, Tryz.ntmps30
      go_wp2_with fail
      have bx0 := Blk.new w 46 #[.int .i64 0, .slice none 0 0]
      have hlow0 : Below w.heap.size w (w.alloc (.cells #[.int .i64 0, .slice none 0 0] 46)) := (Below.refl _ _).alloc (Nat.le_refl _) _
      refine (HN.out _ (h.below hlow0)).mono ?_
      rintro e w1 ⟨rfl, h1⟩
      dsimp only at h1
      have hs1 := h1.fr.size
      simp at hs1
      have bx1 : Blk w1 w.heap.size 46 #[.int .i64 0, .slice none 0 0] := bx0.fr h1.fr (by omega)
      have ht1 := EyeTo.after hlow0 h1
      have bx2 : Blk (w1.setCell ⟨w.heap.size, 0, none⟩ (.int .i64 n)) w.heap.size 46 #[.int .i64 n, .slice none 0 0] := by simpa using bx1.set_ 0 (.int .i64 n)
      have hf2 : Fr (fun x => x = w.heap.size) w1 (w1.setCell ⟨w.heap.size, 0, none⟩ (.int .i64 n)) := (Fr.refl (fun x => x = w.heap.size) w1).setAt w.heap.size 0 rfl _
      have ht2 := ht1.side hf2 (Nat.le_refl _) (by omega) hzw
      have hs2 := hf2.size
      have q0 := bx1.cell 0
      have q1 := bx1.frozen 0
      have r0 : (w1.setCell ⟨w.heap.size, 0, none⟩ (.int .i64 n)).cell? ⟨w.heap.size, 0, none⟩ = some (.int .i64 n) := bx2.cell 0
      obtain ⟨A2, c2, ha2⟩ := ht2.at_
      clear h1 ht1 hf2 bx0 hlow0 HN
      go_wp2_with fail
      clear r0 q0 q1 bx1
      generalize w1.setCell ⟨w.heap.size, 0, none⟩ (.int .i64 n) = W at *
      have bxW := bx2
      have ht := ht2
      refine (fault_any eb Y A2 c2 l1 f1 _ ha2).mono ?_
      rintro e w4 ⟨rfl, rfl⟩
      have d0 := bxW.cell 0
      have d1 := bxW.cell 1
      have g0 := bxW.frozen 0
      have g1 := bxW.frozen 1
      go_wp2_with fail
      obtain ⟨bxV, hfV⟩ := Blk.two (x' := .int .i64 0) (y' := .slice none 0 0) bxW
      have htV := ht.side hfV (Nat.le_refl _) (by omega) hzw
      generalize (W.setCell ⟨w.heap.size, 0, none⟩ (.int .i64 0)).setCell ⟨w.heap.size, 1, none⟩ (.slice none 0 0) = V at *
      have x0 : V.cell? ⟨w.heap.size, 0, none⟩ = some (.int .i64 0) := bxV.cell 0
      have x1 : V.cell? ⟨w.heap.size, 1, none⟩ = some (.slice none 0 0) := bxV.cell 1
      refine bodyPost_ret (v := .agg #[.int .i64 0, .slice none 0 0]) (by simp [results, Tryz.results30, go_sem, x0, x1]) rfl ?_
      exact ⟨none, 0, [], rfl, rfl, OwB.nil _ _, htV⟩
end Go.Proofs.YtjcfphdjgagimaaGreatDoor

/- tenderref07.Read, Bytes. -/
namespace Go.Proofs.YtjcfphdjgagimaaGreatDoor
open Go.RowKit

end Go.Proofs.YtjcfphdjgagimaaGreatDoor

/- tenderref07.Bytes. -/
namespace Go.Proofs.YtjcfphdjgagimaaGreatDoor
open Go.RowKit

set_option maxHeartbeats 1000000 in
theorem leafBytes_any (k : Int) (A : Option Addr) (c : Nat) (l : List UInt8) (Z : Nat → Prop) (w : World) (h : By w Z A l) (hl : l.length ≤ 140737488355328) (hk : -9223372036854775808 ≤ k ∧ k < 9223372036854775808) :
    Calls Tryz.prog 36 #[.agg #[.int .i64 k, .slice A l.length c]] w fun e w' => ∃ (A' : Option Addr) (c' : Nat) (l' : List UInt8), e = .returned (.slice A' l'.length c') ∧ Hid (l' = leafB k l) ∧ OwB w' w.heap.size (.slice A' l'.length c') l' ∧ Below w.heap.size w w' := by
  have b0 := Blk.new w 46 #[.int .i64 k, .slice A l.length c]
  have hlow0 : Below w.heap.size w (w.alloc (.cells #[.int .i64 k, .slice A l.length c] 46)) := (Below.refl _ _).alloc (Nat.le_refl _) _
  have hy := h.below hlow0
  by_cases hck : checkN k l.length = 0
  · obtain ⟨hk3, hn0, hl4⟩ := checkN_ok hck
    by_cases hk1 : k = 1
    · rw [leafB_file hck hk1]
      subst hk1
      have htxt : ∀ w (h : By w Z A l), Calls Tryz.prog 35 #[.slice A l.length c] w fun e w' => ∃ v, e = .returned v ∧ OwB w' w.heap.size v (textB l) ∧ Below w.heap.size w w' := fun w h => refText_any A c l Z w h (by omega)
      have HTXT := Lib.hid htxt
      have hol := numB_len l.length
      have htl : (textB l).length ≤ 9 + l.length := by unfold textB; rw [List.length_append]; omega
      clear htxt hol
      generalize textB l = T at *
      have hnum : ∀ w : World, Calls Tryz.prog 34 #[.int .u64 1] w fun e w' => ∃ v, e = .returned v ∧ OwB w' w.heap.size v (numB 1) ∧ Below w.heap.size w w' := fun w => refNum_any 1 w (by omega)
      have HNUM := Lib.hid hnum
      have hnl := numB_len 1
      clear hnum
      generalize numB 1 = N at *
      go_enter Tryz.func36, Tryz.ntmps36
      go_wp2_with fail
      refine (leafCheckR_any 1 A l.length c _ hl).mono ?_
      rintro e w1 ⟨rfl, hb1⟩
      have b1 := b0.below hb1
      have hy1 := hy.below hb1
      have hs1 := hb1.size
      have hw1 : Below w.heap.size w w1 := hlow0.trans (hb1.mono (by simp))
      have hsw := hw1.size
      have q0 : w1.cell? ⟨w.heap.size, 0, none⟩ = some (.int .i64 1) := b1.cell 0
      simp at hs1
      clear b0 hb1 hy hlow0 h
      rw [hck]
      go_wp2_with fail
      refine (HNUM.out _).mono ?_
      rintro e w2 ⟨v2, rfl, ho2, hb2⟩
      obtain ⟨A2, c2, rfl, _⟩ := ho2.form
      have b2 := b1.below hb2
      have hy2 := hy1.below hb2
      have r0 : w2.cell? ⟨w.heap.size, 0, none⟩ = some (.int .i64 1) := b2.cell 0
      have r1 : w2.cell? ⟨w.heap.size, 1, none⟩ = some (.slice A l.length c) := b2.cell 1
      go_wp2_with fail
      refine (HTXT.out w2 hy2).mono ?_
      rintro e w3 ⟨v3, rfl, ho3, hb3⟩
      have h23 := ho2.below hb3
      obtain ⟨A3, c3, rfl, _⟩ := ho3.form
      have hs2 := hb2.size
      have hs3 := hb3.size
      go_wp2_with (at_builtin; refine wpList_append_by rfl (.tmp 15) (.tmp 18) rfl (v := .slice A2 N.length c2) rfl h23 rfl ho3.rd (by omega) (by omega) ?_; intro L4 A4 c4 w4 hL4 hown hg hat)
      go_ret
      refine ⟨A4, c4, L4, rfl, hL4, own_base hown (fun g hg2 => Nat.le_trans hsw (hown.lt g hg2).1), ?_⟩
      exact (hw1.trans (hb2.mono hsw)).trans ((hb3.mono (by omega)).trans ((Fr.of_grown hg (S := fun x => w1.heap.size ≤ x) (fun k _ e => (h23.lt k e).1)).below (by omega) (fun k hk e => by omega)))
    · rw [leafB_other hck hk1]
      have hk1b : (k == 1) = false := by simpa using hk1
      obtain ⟨n, rfl⟩ : ∃ n : Nat, k = n := ⟨k.toNat, by omega⟩
      rw [Int.toNat_natCast]
      clear hn0
      have hnum : ∀ w : World, Calls Tryz.prog 34 #[.int .u64 (n : Int)] w fun e w' => ∃ v, e = .returned v ∧ OwB w' w.heap.size v (numB n) ∧ Below w.heap.size w w' := fun w => refNum_any n w (by omega)
      have HNUM := Lib.hid hnum
      have hnl := numB_len n
      clear hnum
      generalize numB n = N at *
      go_enter Tryz.func36, Tryz.ntmps36
      go_wp2_with fail
      refine (leafCheckR_any n A l.length c _ hl).mono ?_
      rintro e w1 ⟨rfl, hb1⟩
      have b1 := b0.below hb1
      have hy1 := hy.below hb1
      have hs1 := hb1.size
      have hw1 : Below w.heap.size w w1 := hlow0.trans (hb1.mono (by simp))
      have hsw := hw1.size
      have q0 : w1.cell? ⟨w.heap.size, 0, none⟩ = some (.int .i64 n) := b1.cell 0
      simp at hs1
      clear b0 hb1 hy hlow0 h
      rw [hck]
      go_wp2_with fail
      refine (HNUM.out _).mono ?_
      rintro e w2 ⟨v2, rfl, ho2, hb2⟩
      obtain ⟨A2, c2, rfl, _⟩ := ho2.form
      have b2 := b1.below hb2
      have r0 : w2.cell? ⟨w.heap.size, 0, none⟩ = some (.int .i64 n) := b2.cell 0
      go_wp2_with fail
      go_ret
      exact ⟨A2, c2, N, rfl, rfl, own_base ho2 (fun g hg => Nat.le_trans hsw (ho2.lt g hg).1), hw1.trans (hb2.mono hsw)⟩
  · rw [leafB_bad hck]
    have hnum : ∀ w : World, Calls Tryz.prog 34 #[.int .u64 0] w fun e w' => ∃ v, e = .returned v ∧ OwB w' w.heap.size v (numB 0) ∧ Below w.heap.size w w' := fun w => refNum_any 0 w (by omega)
    have HNUM := Lib.hid hnum
    have hnl := numB_len 0
    clear hnum
    generalize numB 0 = N at *
    go_enter Tryz.func36, Tryz.ntmps36
    go_wp2_with fail
    refine (leafCheckR_any k A l.length c _ hl).mono ?_
    rintro e w1 ⟨rfl, hb1⟩
    have b1 := b0.below hb1
    have hy1 := hy.below hb1
    have hs1 := hb1.size
    have hw1 : Below w.heap.size w w1 := hlow0.trans (hb1.mono (by simp))
    have hsw := hw1.size
    have q0 : w1.cell? ⟨w.heap.size, 0, none⟩ = some (.int .i64 k) := b1.cell 0
    simp at hs1
    clear b0 hb1 hy hlow0 h
    have hckb : (checkN k l.length != 0) = true := by simpa using hck
    go_wp2_with fail
    refine (HNUM.out _).mono ?_
    rintro e w2 ⟨v2, rfl, ho2, hb2⟩
    obtain ⟨A2, c2, rfl, _⟩ := ho2.form
    go_wp2_with fail
    go_ret
    exact ⟨A2, c2, N, rfl, rfl, own_base ho2 (fun g hg => Nat.le_trans hsw (ho2.lt g hg).1), hw1.trans (hb2.mono hsw)⟩
end Go.Proofs.YtjcfphdjgagimaaGreatDoor

/- canon.Bytes: a tree's bytes. -/
namespace Go.Proofs.YtjcfphdjgagimaaGreatDoor
open Go.RowKit Go.Maps

theorem checkN_small {k : Int} {n : Nat} (h : checkN k n = 0) : n ≤ 4096 := by
  have := checkN_ok h
  omega
/-- the bytes of items -/
def itemsB (T : List (List UInt8 × LP)) : List UInt8 := T.flatMap fun y => textB y.1 ++ leafB y.2.1 y.2.2
/-- a tree's bytes -/
def canonB (T : List (List UInt8 × LP)) : List UInt8 := numB T.length ++ itemsB T
theorem itemsB_len (T : List (List UInt8 × LP)) (h : ∀ x ∈ T, goodB x.1 = true ∧ checkN x.2.1 x.2.2.length = 0) : (itemsB T).length ≤ 5000 * T.length := by
  induction T with
  | nil => simp [itemsB]
  | cons y T ih =>
    have h1 := h y (by simp)
    have h2 := goodB_len h1.1
    have h3 := checkN_small h1.2
    have h4 := leafB_len y.2.1 y.2.2
    have h5 := ih (fun x hx => h x (by simp [hx]))
    have h6 := numB_len y.1.length
    have h7 : (textB y.1).length ≤ 9 + y.1.length := by unfold textB; rw [List.length_append]; omega
    unfold itemsB at h5 ⊢
    rw [List.flatMap_cons, List.length_append, List.length_append, List.length_cons]
    omega
end Go.Proofs.YtjcfphdjgagimaaGreatDoor

/- canon.Bytes at none; canon.Sum. -/
namespace Go.Proofs.YtjcfphdjgagimaaGreatDoor
open Go.RowKit Go.Maps


theorem canonB_nil : canonB [] = [0] := by decide
theorem BV.ok.of_own' {w : World} {base : Nat} {A : Option Addr} {c : Nat} {l : List UInt8} (h : OwB w base (.slice A l.length c) l) : BV.ok w (fun b => base ≤ b ∧ b < w.heap.size) ⟨A, c, l⟩ := by
  obtain ⟨A', c', e, q1, q2, q3⟩ := h.form
  injection e with e1 e2 e3
  subst e1 e3
  exact ⟨h.rd.mono (fun b _ hb => ⟨(q3 b hb).1, (q3 b hb).2.1⟩), q1, q2⟩
/-- canon.Bytes of none -/
theorem canonBytes_nil (w : World) :
    Calls Tryz.prog 8 #[.pointer none] w fun e w' => ∃ (A : Option Addr) (c : Nat) (l : List UInt8), e = .returned (.slice A l.length c) ∧ Hid (l = canonB []) ∧ OwB w' w.heap.size (.slice A l.length c) l ∧ Below w.heap.size w w' := by
  have hba : Below w.heap.size w (w.alloc (.cells #[.slice none 0 0] 55)) := (Below.refl _ _).alloc (Nat.le_refl _) _
  have HP1 := Lib.hid (Pen.new w (base := w.heap.size))
  go_enter Tryz.func8, Tryz.ntmps8
  go_wp2_with fail
  generalize w.alloc (.cells #[.slice none 0 0] 55) = w1 at *
  refine (treeLen_nil w1).mono ?_
  rintro e w2 ⟨rfl, hb2⟩
  have hcv := IntWalk.u64_in (0 : Int) ⟨by omega, by omega⟩
  have HP2 := Lib.hid (HP1.out.below hb2)
  have hbl : Below w2.heap.size w2 (w2.alloc (.cells #[.int .u64 0] 57)) := (Below.refl _ _).alloc (Nat.le_refl _) _
  have hR : Rd (w2.alloc (.cells #[.int .u64 0] 57)) (fun b => w2.heap.size ≤ b) 1 (some ⟨w2.heap.size, 0, none⟩) 1 [u64v 0] := Rd.lit (w := w2) (t := 57) (size := 1) (n := 1) (xs := [.int .u64 0]) rfl rfl rfl
  have hp1l := HP2.out.blk.lt
  have HNM := Lib.hid (Num_any w.heap.size w.heap.size (.slice none 0 0) [] (some ⟨w2.heap.size, 0, none⟩) 1 [0] _ _ (HP2.out.below hbl) hR (fun b _ hz e => by
    have hz' : w2.heap.size ≤ b := hz
    rcases e with e | e
    · omega
    · simp [Value.ownBlock] at e) (fun n hn => by
    simp only [List.mem_cons, List.not_mem_nil, or_false] at hn
    subst hn
    omega) (by simp; omega) (by simp))
  have hs12 := hba.size
  have hw2 := hba.trans (hb2.mono hs12)
  clear hR
  go_wp2_with fail
  refine HNM.out.mono ?_
  rintro e w3 ⟨rfl, v2, h2⟩
  rw [List.nil_append, List.flatMap_cons, List.flatMap_nil, List.append_nil] at h2
  have hw3 : Below w.heap.size w w3 := (hw2.trans (hbl.mono hw2.size)).trans (h2.fr.below (B := w.heap.size) (by simp; omega) (fun k hk e => by
    rcases e with rfl | e
    · omega
    · simp [Value.ownBlock] at e))
  have HPE := Lib.hid h2.pen
  have hpb2 := h2.pen.blk.lt
  clear HNM HP1 hbl h2
  go_wp2_with fail
  refine (treeItems_nil w3).mono ?_
  rintro e w4 ⟨rfl, hb4⟩
  have HP4 := Lib.hid (HPE.out.below hb4)
  have hw4 := hw3.trans (hb4.mono hw3.size)
  have hn0 : (numB 0).length ≤ 9 := numB_len 0
  clear HPE hb4
  go_wp2_with fail
  go_loopw [14] (fun iv wr => iv = .int .i64 0 ∧ wr = w4) (fun iv _ => 0)
  case atStart => exact ⟨rfl, rfl⟩
  case round =>
    obtain ⟨rfl, rfl⟩ := hrel
    go_wp2_with fail
    refine (Bytes_any w.heap.size w.heap.size v2 (numB 0) _ HP4.out (by omega)).mono ?_
    rintro e w9 ⟨A9, c9, l9, rfl, hl9, ho9, hb9⟩
    go_wp2_with fail
    go_ret
    exact ⟨A9, c9, l9, rfl, Lib.hid (by rw [hl9.out]; simp [canonB, itemsB]), own_base ho9 (fun g hg => Nat.le_trans hw4.size (ho9.lt g hg).1), hw4.trans (hb9.mono hw4.size)⟩


set_option maxRecDepth 100000 in
set_option maxHeartbeats 2000000 in
theorem canonSum_nil  (w : World)  (hG : Globs w) :
    Calls Tryz.prog 12 #[.pointer none] w fun e w' => e = .returned (.agg ((shaS (canonB [])).map bv).toArray) ∧ Below w.heap.size w w' := by
  have x0 : Blk (w.alloc (.cells #[.int .u8 0, .int .u8 0, .int .u8 0, .int .u8 0, .int .u8 0, .int .u8 0, .int .u8 0, .int .u8 0, .int .u8 0, .int .u8 0, .int .u8 0, .int .u8 0, .int .u8 0, .int .u8 0, .int .u8 0, .int .u8 0, .int .u8 0, .int .u8 0, .int .u8 0, .int .u8 0, .int .u8 0, .int .u8 0, .int .u8 0, .int .u8 0, .int .u8 0, .int .u8 0, .int .u8 0, .int .u8 0, .int .u8 0, .int .u8 0, .int .u8 0, .int .u8 0] 37)) w.heap.size 37 (((List.replicate 32 (0 : UInt8)).map bv).toArray) := Blk.new w 37 #[.int .u8 0, .int .u8 0, .int .u8 0, .int .u8 0, .int .u8 0, .int .u8 0, .int .u8 0, .int .u8 0, .int .u8 0, .int .u8 0, .int .u8 0, .int .u8 0, .int .u8 0, .int .u8 0, .int .u8 0, .int .u8 0, .int .u8 0, .int .u8 0, .int .u8 0, .int .u8 0, .int .u8 0, .int .u8 0, .int .u8 0, .int .u8 0, .int .u8 0, .int .u8 0, .int .u8 0, .int .u8 0, .int .u8 0, .int .u8 0, .int .u8 0, .int .u8 0]
  have hw1 : Below w.heap.size w (w.alloc (.cells #[.int .u8 0, .int .u8 0, .int .u8 0, .int .u8 0, .int .u8 0, .int .u8 0, .int .u8 0, .int .u8 0, .int .u8 0, .int .u8 0, .int .u8 0, .int .u8 0, .int .u8 0, .int .u8 0, .int .u8 0, .int .u8 0, .int .u8 0, .int .u8 0, .int .u8 0, .int .u8 0, .int .u8 0, .int .u8 0, .int .u8 0, .int .u8 0, .int .u8 0, .int .u8 0, .int .u8 0, .int .u8 0, .int .u8 0, .int .u8 0, .int .u8 0, .int .u8 0] 37)) := (Below.refl _ _).alloc (Nat.le_refl _) _
  have HG := Lib.hid (hG.below hw1)
  have HLEN : Hid ((canonB []).length ≤ 1000000) := Lib.hid (by rw [canonB_nil]; decide)
  clear hG
  obtain ⟨R, hR⟩ : ∃ R, R = shaS (canonB []) := ⟨_, rfl⟩
  rw [← hR]
  have HR := Lib.hid hR
  clear hR
  go_enter Tryz.func12, Tryz.ntmps12
  go_upto_region 1 with (fail)
  generalize (w.alloc (.cells #[.int .u8 0, .int .u8 0, .int .u8 0, .int .u8 0, .int .u8 0, .int .u8 0, .int .u8 0, .int .u8 0, .int .u8 0, .int .u8 0, .int .u8 0, .int .u8 0, .int .u8 0, .int .u8 0, .int .u8 0, .int .u8 0, .int .u8 0, .int .u8 0, .int .u8 0, .int .u8 0, .int .u8 0, .int .u8 0, .int .u8 0, .int .u8 0, .int .u8 0, .int .u8 0, .int .u8 0, .int .u8 0, .int .u8 0, .int .u8 0, .int .u8 0, .int .u8 0] 37)) = w1 at *
  go_wp2_with fail
  refine (canonBytes_nil w1).mono ?_
  rintro e w2 ⟨A, c, l, rfl, hl, ho, hb2⟩
  have hw2 := hw1.trans (hb2.mono hw1.size)
  have hlen : l.length ≤ 1000000 := by
    rw [hl.out]
    exact HLEN.out
  have HS := sumB_any A c l _ w2 (BV.ok.of_own' ho) (HG.out.below hb2) (by omega)
  rw [hl.out, ← HR.out] at HS
  replace HS := Lib.hid HS
  have x2 := x0.below hb2
  rw [hl.out]
  clear x0 hb2
  go_wp2_with fail
  refine HS.out.mono ?_
  rintro e w4 ⟨rfl, hb4⟩
  have x4 := x2.below hb4
  have hRl : R.length = 32 := by rw [HR.out]; exact sha_len _
  have hsz : (R.map bv).toArray.size = 32 := by simp [hRl]
  have HSI : Hid ((Tryz.prog.info? 37).map (·.size) = some (R.map bv).toArray.size) := Lib.hid (by rw [hsz]; kernel_rfl)
  have HSZ : Hid ((((List.replicate 32 (0 : UInt8)).map bv).toArray).size = (R.map bv).toArray.size) := Lib.hid (by rw [hsz]; rfl)
  have HO : Hid (((R.map bv).toArray).all (·.oneCell') = true) := Lib.hid (by
    rw [List.all_toArray, List.all_eq_true]
    exact fun u hu => bv_one R u hu)
  have hw4 := hw2.trans (hb4.mono hw2.size)
  have hwE := hw4.trans (((Fr.refl (fun x => x = w.heap.size) w4).setRow w.heap.size rfl (R.map bv).toArray).below (B := w.heap.size) hw4.size (fun k hk e => by omega))
  clear HS x2 hb4 hsz hRl
  go_wp2_with (refine wpList_store_row rfl 37 _ _ rfl w.heap.size _ rfl rfl 37 _ x4 HSI.out HSZ.out HO.out ?_)
  refine bodyPost_ret (results_cell_row Tryz.results12 _ _ w.heap.size 37 _ (0, 0) _ rfl (x4.setRow _) Tryz.underlying37 rfl HSI.out) rfl ?_
  exact ⟨rfl, hwE⟩

end Go.Proofs.YtjcfphdjgagimaaGreatDoor
