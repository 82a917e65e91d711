/- grain.Eye: Fail, take. -/
import Derived.Test.YtpbgcbpofhbgbaaA02

namespace Go.Proofs.Ytpbgcbpofhbgbaa
open Go.RowKit

/-- The eye at block eb (of struct type T) has the bytes l and the fault f; the bytes lie in Z. -/
def EyeAt (w : World) (T eb : Nat) (Z : Nat → Prop) (A : Option Addr) (c : Nat) (l : List UInt8) (f : Int) : Prop :=
  Blk w eb T #[.slice A l.length c, .int .i64 f] ∧ By w Z A l ∧ l.length ≤ c ∧ c ≤ maxLen
/-- what a method leaves: only the eye has turned -/
structure EyeTo (w : World) (T eb : Nat) (Z : Nat → Prop) (l : List UInt8) (f : Int) (w' : World) : Prop where
  at_ : ∃ A c, EyeAt w' T eb Z A c l f
  fr : Fr (fun k => k = eb) w w'

theorem EyeAt.c0 {w : World} {T eb : Nat} {Z : Nat → Prop} {A : Option Addr} {c : Nat} {l : List UInt8} {f : Int} (h : EyeAt w T eb Z A c l f) : w.cell? ⟨eb, 0, none⟩ = some (.slice A l.length c) := h.1.cell 0
theorem EyeAt.c1 {w : World} {T eb : Nat} {Z : Nat → Prop} {A : Option Addr} {c : Nat} {l : List UInt8} {f : Int} (h : EyeAt w T eb Z A c l f) : w.cell? ⟨eb, 1, none⟩ = some (.int .i64 f) := h.1.cell 1
theorem EyeAt.f0 {w : World} {T eb : Nat} {Z : Nat → Prop} {A : Option Addr} {c : Nat} {l : List UInt8} {f : Int} (h : EyeAt w T eb Z A c l f) : w.frozen? ⟨eb, 0, none⟩ = false := h.1.frozen 0
theorem EyeAt.f1 {w : World} {T eb : Nat} {Z : Nat → Prop} {A : Option Addr} {c : Nat} {l : List UInt8} {f : Int} (h : EyeAt w T eb Z A c l f) : w.frozen? ⟨eb, 1, none⟩ = false := h.1.frozen 1
theorem EyeAt.to {w : World} {T eb : Nat} {Z : Nat → Prop} {A : Option Addr} {c : Nat} {l : List UInt8} {f : Int} (h : EyeAt w T eb Z A c l f) : EyeTo w T eb Z l f w := ⟨⟨A, c, h⟩, Fr.refl _ _⟩
theorem EyeAt.below {w w' : World} {T eb : Nat} {Z : Nat → Prop} {A : Option Addr} {c : Nat} {l : List UInt8} {f : Int} (h : EyeAt w T eb Z A c l f) (k : Below w.heap.size w w') : EyeAt w' T eb Z A c l f := ⟨h.1.below k, h.2.1.below k, h.2.2⟩
theorem EyeAt.fr {w w' : World} {T eb : Nat} {Z S : Nat → Prop} {A : Option Addr} {c : Nat} {l : List UInt8} {f : Int} (h : EyeAt w T eb Z A c l f) (k : Fr S w w') (h1 : ¬ S eb) (h2 : ∀ b, b < w.heap.size → Z b → ¬ S b) : EyeAt w' T eb Z A c l f := ⟨h.1.fr k h1, h.2.1.fr k h2, h.2.2⟩
theorem EyeTo.trans {a b c : World} {T eb : Nat} {Z : Nat → Prop} {l l' : List UInt8} {f f' : Int} (h : EyeTo a T eb Z l f b) (k : EyeTo b T eb Z l' f' c) : EyeTo a T eb Z l' f' c := ⟨k.at_, h.fr.trans k.fr (fun _ _ h => h)⟩
theorem EyeTo.then_ {a b c : World} {T eb : Nat} {Z : Nat → Prop} {l : List UInt8} {f : Int} (h : EyeTo a T eb Z l f b) (k : Below b.heap.size b c) : EyeTo a T eb Z l f c := by
  obtain ⟨A, c', h1⟩ := h.at_
  exact ⟨⟨A, c', h1.below k⟩, h.fr.then_below k⟩
/-- both cells set anew -/
theorem EyeAt.failed {w : World} {T eb : Nat} {Z : Nat → Prop} {A : Option Addr} {c : Nat} {l : List UInt8} {f : Int} (h : EyeAt w T eb Z A c l f) (code : Int) :
    EyeTo w T eb Z [] code ((w.setCell ⟨eb, 0, none⟩ (.slice none 0 0)).setCell ⟨eb, 1, none⟩ (.int .i64 code)) ∧ EyeTo w T eb Z [] code ((w.setCell ⟨eb, 1, none⟩ (.int .i64 code)).setCell ⟨eb, 0, none⟩ (.slice none 0 0)) := by
  constructor
  · refine ⟨⟨none, 0, ?_, Rd.nil, by simp, by simp [maxLen]⟩, ((Fr.refl (fun k => k = eb) w).setAt eb _ rfl _).setAt eb _ rfl _⟩
    have := (h.1.set_ 0 (.slice none 0 0)).set_ 1 (.int .i64 code)
    simpa using this
  · refine ⟨⟨none, 0, ?_, Rd.nil, by simp, by simp [maxLen]⟩, ((Fr.refl (fun k => k = eb) w).setAt eb _ rfl _).setAt eb _ rfl _⟩
    have := (h.1.set_ 1 (.int .i64 code)).set_ 0 (.slice none 0 0)
    simpa using this

set_option maxHeartbeats 400000 in
theorem fail_any (eb : Nat) (Z : Nat → Prop) (A : Option Addr) (c : Nat) (l : List UInt8) (f code : Int) (w : World) (h : EyeAt w 132 eb Z A c l f) :
    Calls Try.prog 88 #[.pointer (some ⟨eb, 0, none⟩), .int .i64 code] w fun e w' => e = .returned (.tuple #[]) ∧ EyeTo w 132 eb Z (failS l f code).1 (failS l f code).2 w' := by
  have c0 := h.c0
  have c1 := h.c1
  have f0 := h.f0
  have f1 := h.f1
  by_cases h1 : f = 0
  · by_cases h2 : code = 0
    · have e1 := Lib.hid (show failS l f code = (l, f) by unfold failS; rw [if_neg (by omega)])
      subst h1 h2
      go_enter Try.func88, Try.ntmps88
      go_wp2_with fail
      go_end0
      rw [e1.out]
      exact ⟨rfl, h.to⟩
    · have e1 := Lib.hid (show failS l f code = ([], code) by unfold failS; rw [if_pos ⟨h1, h2⟩])
      have h2b : (code != 0) = true := by simpa using h2
      subst h1
      go_enter Try.func88, Try.ntmps88
      go_wp2_with fail
      go_end0
      rw [e1.out]
      exact ⟨rfl, (h.failed code).1⟩
  · have e1 := Lib.hid (show failS l f code = (l, f) by unfold failS; rw [if_neg (by omega)])
    have h1b : (f == 0) = false := by simpa using h1
    go_enter Try.func88, Try.ntmps88
    go_wp2_with fail
    go_end0
    rw [e1.out]
    exact ⟨rfl, h.to⟩

set_option maxHeartbeats 400000 in
theorem failR_any (eb : Nat) (Z : Nat → Prop) (A : Option Addr) (c : Nat) (l : List UInt8) (f code : Int) (w : World) (h : EyeAt w 109 eb Z A c l f) :
    Calls Try.prog 67 #[.pointer (some ⟨eb, 0, none⟩), .int .i64 code] w fun e w' => e = .returned (.tuple #[]) ∧ EyeTo w 109 eb Z (failS l f code).1 (failS l f code).2 w' := by
  have c0 := h.c0
  have c1 := h.c1
  have f0 := h.f0
  have f1 := h.f1
  by_cases h1 : f = 0
  · by_cases h2 : code = 0
    · have e1 := Lib.hid (show failS l f code = (l, f) by unfold failS; rw [if_neg (by omega)])
      subst h1 h2
      go_enter Try.func67, Try.ntmps67
      go_wp2_with fail
      go_end0
      rw [e1.out]
      exact ⟨rfl, h.to⟩
    · have e1 := Lib.hid (show failS l f code = ([], code) by unfold failS; rw [if_pos ⟨h1, h2⟩])
      have h2b : (code != 0) = true := by simpa using h2
      subst h1
      go_enter Try.func67, Try.ntmps67
      go_wp2_with fail
      go_end0
      rw [e1.out]
      exact ⟨rfl, (h.failed code).2⟩
  · have e1 := Lib.hid (show failS l f code = (l, f) by unfold failS; rw [if_neg (by omega)])
    have h1b : (f == 0) = false := by simpa using h1
    go_enter Try.func67, Try.ntmps67
    go_wp2_with fail
    go_end0
    rw [e1.out]
    exact ⟨rfl, h.to⟩


theorem EyeAt.bounds {w : World} {T eb : Nat} {Z : Nat → Prop} {A : Option Addr} {c : Nat} {l : List UInt8} {f : Int} (h : EyeAt w T eb Z A c l f) : l.length ≤ c ∧ c ≤ 9223372036854775807 := ⟨h.2.2.1, h.2.2.2⟩

theorem EyeAt.cut {w : World} {T eb : Nat} {Z : Nat → Prop} {A : Option Addr} {c : Nat} {l : List UInt8} {f : Int} (h : EyeAt w T eb Z A c l f) {n : Nat} (hn : n ≤ l.length) (hz : ¬ Z eb) :
    EyeTo w T eb Z (l.drop n) f (w.setCell ⟨eb, 0, none⟩ (.slice (if c = n then A else A.map fun x => x.add n) (l.length - n) (c - n))) := by
  have hf : Fr (fun k => k = eb) w (w.setCell ⟨eb, 0, none⟩ (.slice (if c = n then A else A.map fun x => x.add n) (l.length - n) (c - n))) := (Fr.refl (fun k => k = eb) w).setAt eb _ rfl _
  have hd := Rd.drop h.2.1 hn h.2.2.1
  rw [← List.map_drop, Nat.mul_one, ← List.length_drop] at hd
  refine ⟨⟨_, c - n, ?_, hd.fr hf (by rintro b _ hb rfl; exact hz hb), by rw [List.length_drop]; have := h.2.2.1; omega, by have := h.2.2.2; omega⟩, hf⟩
  have := h.1.set_ 0 (.slice (if c = n then A else A.map fun x => x.add n) (l.length - n) (c - n))
  rw [List.length_drop]
  simpa using this

set_option maxHeartbeats 400000 in
theorem take_in (eb : Nat) (Z : Nat → Prop) (A : Option Addr) (c : Nat) (l : List UInt8) (f : Int) (n : Nat) (w : World) (h : EyeAt w 132 eb Z A c l f) (hz : ¬ Z eb) (hn : n ≤ l.length) :
    Calls Try.prog 98 #[.pointer (some ⟨eb, 0, none⟩), .int .i64 n] w fun e w' => ∃ c', e = .returned (.slice A n c') ∧ n ≤ c' ∧ c' ≤ maxLen ∧ EyeTo w 132 eb Z (l.drop n) f w' := by
  have c0 := h.c0
  have f0 := h.f0
  have hb := h.bounds
  have hm : maxLen = 9223372036854775807 := rfl
  have HM := Lib.hid hm
  clear hm
  have H := Lib.hid h
  clear h
  by_cases hcn : c = n
  · subst hcn
    go_enter Try.func98, Try.ntmps98
    go_wp2_with fail
    go_ret
    have hc := H.out.cut hn hz
    rw [if_pos rfl, Nat.sub_self, show l.length - c = 0 by omega] at hc
    exact ⟨c, rfl, Nat.le_refl _, by rw [HM.out]; omega, hc⟩
  · go_enter Try.func98, Try.ntmps98
    go_wp2_with fail
    go_ret
    have hc := H.out.cut hn hz
    rw [if_neg hcn] at hc
    exact ⟨c, rfl, by omega, by rw [HM.out]; omega, hc⟩

set_option maxHeartbeats 400000 in
theorem take_out (eb : Nat) (Z : Nat → Prop) (A : Option Addr) (c : Nat) (l : List UInt8) (n : Nat) (w : World) (h : EyeAt w 132 eb Z A c l 0) (hn : l.length < n) :
    Calls Try.prog 98 #[.pointer (some ⟨eb, 0, none⟩), .int .i64 n] w fun e w' => e = .returned (.slice none 0 0) ∧ EyeTo w 132 eb Z [] 11 w' := by
  have c0 := h.c0
  go_enter Try.func98, Try.ntmps98
  go_wp2_with fail
  refine (fail_any eb Z A c l 0 11 w h).mono ?_
  rintro e w1 ⟨rfl, h1⟩
  go_wp2_with fail
  go_ret
  exact ⟨rfl, h1⟩
end Go.Proofs.Ytpbgcbpofhbgbaa

/- grain.Eye.Num. -/
namespace Go.Proofs.Ytpbgcbpofhbgbaa
open Go.RowKit

theorem readS_bad {l : List UInt8} {f : Int} {most : Nat} (h : f ≠ 0) : readS l f most = (0, l, f) := by unfold readS; rw [if_pos h]
theorem readS_nil {most : Nat} : readS [] 0 most = (0, [], 11) := rfl
theorem readS_wide {x : UInt8} {r : List UInt8} {most : Nat} (h : 8 < x.toNat) : readS (x :: r) 0 most = (0, [], 10) := by unfold readS; rw [if_neg (by simp)]; dsimp only; rw [if_pos h]
theorem readS_short {x : UInt8} {r : List UInt8} {most : Nat} (h : ¬ 8 < x.toNat) (h2 : r.length < x.toNat) : readS (x :: r) 0 most = (0, [], 11) := by
  unfold readS; rw [if_neg (by simp)]; dsimp only; rw [if_neg h, if_pos h2]
theorem readS_zero {x : UInt8} {r : List UInt8} {most : Nat} (h : ¬ 8 < x.toNat) (h2 : ¬ r.length < x.toNat) (h3 : 0 < x.toNat ∧ r.getD 0 0 = 0) : readS (x :: r) 0 most = (0, [], 10) := by
  unfold readS; rw [if_neg (by simp)]; dsimp only; rw [if_neg h, if_neg h2, if_pos h3]
theorem readS_long {x : UInt8} {r : List UInt8} {most : Nat} (h : ¬ 8 < x.toNat) (h2 : ¬ r.length < x.toNat) (h3 : ¬ (0 < x.toNat ∧ r.getD 0 0 = 0)) (h4 : most < val (r.take x.toNat)) : readS (x :: r) 0 most = (0, [], 13) := by
  unfold readS; rw [if_neg (by simp)]; dsimp only; rw [if_neg h, if_neg h2, if_neg h3, if_pos h4]
theorem readS_ok {x : UInt8} {r : List UInt8} {most : Nat} (h : ¬ 8 < x.toNat) (h2 : ¬ r.length < x.toNat) (h3 : ¬ (0 < x.toNat ∧ r.getD 0 0 = 0)) (h4 : ¬ most < val (r.take x.toNat)) : readS (x :: r) 0 most = (val (r.take x.toNat), r.drop x.toNat, 0) := by
  unfold readS; rw [if_neg (by simp)]; dsimp only; rw [if_neg h, if_neg h2, if_neg h3, if_neg h4]

/-- what a read leaves -/
def NumTo (w : World) (T eb : Nat) (Z : Nat → Prop) (r : Nat × List UInt8 × Int) (e : Ending) (w' : World) : Prop := e = .returned (.int .u64 (r.1 : Int)) ∧ EyeTo w T eb Z r.2.1 r.2.2 w'

theorem byte_at {w w1 : World} {T eb : Nat} {Z : Nat → Prop} {A : Option Addr} {c : Nat} {x : UInt8} {r l1 : List UInt8} {f f1 : Int} (h : EyeAt w T eb Z A c (x :: r) f) (hz : ¬ Z eb) (h1 : EyeTo w T eb Z l1 f1 w1) :
    ∃ b off, A = some ⟨b, off, none⟩ ∧ w1.cell? ⟨b, off, none⟩ = some (.int .u8 (x.toNat : Int)) := by
  have := h.2.1.fr h1.fr (by rintro b _ hb rfl; exact hz hb)
  obtain ⟨b, off, e, _, _, hc⟩ := Rd.atm this (k := 0) (by simp)
  exact ⟨b, off, e, hc⟩

theorem digit0 {r : List UInt8} {k : Nat} (h : r.getD 0 0 ≠ 0) (hk : 0 < (r.take k).length) : (((r.take k)[0]'hk).toNat : Int) ≠ 0 := by
  rw [List.getElem_take]
  rcases r with _ | ⟨y, r⟩
  · simp at hk
  · simp at h ⊢
    intro e
    exact h (UInt8.toNat_inj.1 (by simpa using e))

theorem digit00 {r : List UInt8} {k : Nat} (h : r.getD 0 0 = 0) (hk : 0 < (r.take k).length) : (((r.take k)[0]'hk).toNat : Int) = 0 := by
  rw [List.getElem_take]
  rcases r with _ | ⟨y, r⟩
  · simp at hk
  · simp at h ⊢
    rw [h]; rfl

set_option maxHeartbeats 400000 in
theorem eyeNum_bad (eb : Nat) (Z : Nat → Prop) (A : Option Addr) (c : Nat) (l : List UInt8) (f : Int) (most : Nat) (w : World) (h : EyeAt w 132 eb Z A c l f) (hf : f ≠ 0) :
    Calls Try.prog 87 #[.pointer (some ⟨eb, 0, none⟩), .int .u64 most] w (NumTo w 132 eb Z (readS l f most)) := by
  have c1 := h.c1
  rw [readS_bad hf]
  have hfb : (f != 0) = true := by simpa using hf
  go_enter Try.func87, Try.ntmps87
  go_wp2_with fail
  go_ret
  exact ⟨rfl, h.to⟩

set_option maxHeartbeats 400000 in
theorem eyeNum_none (eb : Nat) (Z : Nat → Prop) (A : Option Addr) (c : Nat) (most : Nat) (w : World) (h : EyeAt w 132 eb Z A c [] 0) :
    Calls Try.prog 87 #[.pointer (some ⟨eb, 0, none⟩), .int .u64 most] w (NumTo w 132 eb Z (readS [] 0 most)) := by
  have c1 := h.c1
  rw [readS_nil]
  go_enter Try.func87, Try.ntmps87
  go_wp2_with fail
  refine (take_out eb Z A c [] 1 w h (by simp)).mono ?_
  rintro e w1 ⟨rfl, h1⟩
  go_wp2_with fail
  go_ret
  exact ⟨rfl, h1⟩

set_option maxHeartbeats 400000 in
theorem eyeNum_wide (eb : Nat) (Z : Nat → Prop) (A : Option Addr) (c : Nat) (x : UInt8) (r : List UInt8) (most : Nat) (w : World) (h : EyeAt w 132 eb Z A c (x :: r) 0) (hz : ¬ Z eb) (hx : 8 < x.toNat) :
    Calls Try.prog 87 #[.pointer (some ⟨eb, 0, none⟩), .int .u64 most] w (NumTo w 132 eb Z (readS (x :: r) 0 most)) := by
  have c1 := h.c1
  rw [readS_wide hx]
  go_enter Try.func87, Try.ntmps87
  go_wp2_with fail
  refine (take_in eb Z A c (x :: r) 0 1 w h hz (by simp)).mono ?_
  rintro e w1 ⟨c2, rfl, hc2, hm2, h1⟩
  replace h1 : EyeTo w 132 eb Z r 0 w1 := h1
  obtain ⟨b, off, rfl, hcell⟩ := byte_at h hz h1
  obtain ⟨A1, ca1, ha1⟩ := h1.at_
  go_wp2_with fail
  refine (fail_any eb Z A1 ca1 r 0 10 w1 ha1).mono ?_
  rintro e w2 ⟨rfl, h2⟩
  go_wp2_with fail
  go_ret
  exact ⟨rfl, h1.trans h2⟩

set_option maxHeartbeats 400000 in
theorem eyeNum_short (eb : Nat) (Z : Nat → Prop) (A : Option Addr) (c : Nat) (x : UInt8) (r : List UInt8) (most : Nat) (w : World) (h : EyeAt w 132 eb Z A c (x :: r) 0) (hz : ¬ Z eb) (hx : ¬ 8 < x.toNat) (hr : r.length < x.toNat) :
    Calls Try.prog 87 #[.pointer (some ⟨eb, 0, none⟩), .int .u64 most] w (NumTo w 132 eb Z (readS (x :: r) 0 most)) := by
  have c1 := h.c1
  rw [readS_short hx hr]
  go_enter Try.func87, Try.ntmps87
  go_wp2_with fail
  refine (take_in eb Z A c (x :: r) 0 1 w h hz (by simp)).mono ?_
  rintro e w1 ⟨c2, rfl, hc2, hm2, h1⟩
  replace h1 : EyeTo w 132 eb Z r 0 w1 := h1
  obtain ⟨b, off, rfl, hcell⟩ := byte_at h hz h1
  obtain ⟨A1, ca1, ha1⟩ := h1.at_
  go_wp2_with fail
  refine (take_out eb Z A1 ca1 r x.toNat w1 ha1 hr).mono ?_
  rintro e w2 ⟨rfl, h2⟩
  obtain ⟨A2, ca2, ha2⟩ := h2.at_
  have c12 := ha2.c1
  go_wp2_with fail
  go_loop [4, 48] (fun nv iv => nv = .int .u64 0 ∧ iv = .int .i64 0) (fun _ _ => 0)
  case atStart => exact ⟨rfl, rfl⟩
  case round =>
    obtain ⟨rfl, rfl⟩ := hrel
    go_wp2_with fail
    go_ret
    exact ⟨rfl, h1.trans h2⟩

set_option maxHeartbeats 300000 in
theorem eyeNum_ok0 (eb : Nat) (Z : Nat → Prop) (A : Option Addr) (c : Nat) (x : UInt8) (r : List UInt8) (most : Nat) (w : World) (h : EyeAt w 132 eb Z A c (x :: r) 0) (hz : ¬ Z eb) (hx : ¬ 8 < x.toNat) (hr : ¬ r.length < x.toNat)
    (h0 : Hid (x.toNat = 0)) :
    Calls Try.prog 87 #[.pointer (some ⟨eb, 0, none⟩), .int .u64 most] w (NumTo w 132 eb Z (readS (x :: r) 0 most)) := by
  have c1 := h.c1
  have hdl : (r.take x.toNat).length = x.toNat := by rw [List.length_take]; omega
  go_enter Try.func87, Try.ntmps87
  go_wp2_with fail
  refine (take_in eb Z A c (x :: r) 0 1 w h hz (by simp)).mono ?_
  rintro e w1 ⟨c2, rfl, hc2, hm2, h1⟩
  replace h1 : EyeTo w 132 eb Z r 0 w1 := h1
  obtain ⟨b, off, rfl, hcell⟩ := byte_at h hz h1
  obtain ⟨A1, ca1, ha1⟩ := h1.at_
  go_wp2_with fail
  refine (take_in eb Z A1 ca1 r 0 x.toNat w1 ha1 hz (by omega)).mono ?_
  rintro e w2 ⟨c3, rfl, hc3, hm3, h2⟩
  have hD : Rd w2 Z 1 A1 x.toNat ((r.take x.toNat).map bv) := by
    have := (Rd.take ha1.2.1 (k := x.toNat) (by omega)).fr h2.fr (by rintro b _ hb rfl; exact hz hb)
    rw [Nat.mul_one, ← List.map_take] at this
    exact this
  have h12 := h1.trans h2
  have HD := Lib.hid hdl
  clear hdl
  have h0b : decide (0 < x.toNat) = false := by have := h0.out; simp; omega
  go_wp2_with fail
  go_loop [4, 48] (fun nv iv => ∃ i : Nat, i ≤ x.toNat ∧ iv = .int .i64 (i : Int) ∧ nv = .int .u64 (val ((r.take x.toNat).take i) : Int)) (fun _ iv => x.toNat - (intOf iv).toNat)
  case atStart => exact ⟨0, Nat.zero_le _, rfl, rfl⟩
  case round =>
    obtain ⟨i, hi, rfl, rfl⟩ := hrel
    by_cases hlt : i < x.toNat
    · obtain ⟨b2, off2, eA, _, _, hc⟩ := hD.atm (k := i) (by rw [HD.out]; exact hlt)
      subst eA
      have hv := val_take (l := r.take x.toNat) (i := i) (by rw [HD.out]; exact hlt)
      have hb7 : val ((r.take x.toNat).take i) < 256 ^ 7 := Nat.lt_of_lt_of_le (val_lt _) (Nat.pow_le_pow_right (by decide) (by rw [List.length_take, HD.out]; omega))
      have hgd : (r.take x.toNat).getD i 0 = (r.take x.toNat)[i]'(by rw [HD.out]; exact hlt) := by rw [List.getD_eq_getElem?_getD, List.getElem?_eq_getElem (by rw [HD.out]; exact hlt)]; rfl
      rw [hgd] at hv
      generalize (r.take x.toNat)[i]'(by rw [HD.out]; exact hlt) = d at hc hv
      have HV := Lib.hid hv
      clear hv hgd
      unfold bv at hc
      generalize val ((r.take x.toNat).take i) = m at *
      have hor := or_byte (n := m) (d := d) hb7
      have hm56 : m < 72057594037927936 := hb7
      clear hb7
      have hd8 := d.toNat_lt
      go_wp2_with fail
      go_round
      case rel => exact ⟨i + 1, hlt, by go_num, by rw [HV.out]; go_num⟩
      case measure => simp [intOf]; omega
    · have e : i = x.toNat := by omega
      subst e
      rw [show ((r.take x.toNat).take x.toNat) = r.take x.toNat by rw [List.take_take]; simp]
      obtain ⟨A3, ca3, ha3⟩ := h2.at_
      have c13 := ha3.c1
      have hvl := val_lt64 (l := r.take x.toNat) (by rw [HD.out]; omega)
      by_cases hm : most < val (r.take x.toNat)
      · go_wp2_with fail
        refine (fail_any eb Z A3 ca3 (r.drop x.toNat) 0 13 _ ha3).mono ?_
        rintro e w9 ⟨rfl, h9⟩
        replace h9 : EyeTo w2 132 eb Z [] 13 w9 := h9
        obtain ⟨A4, ca4, ha4⟩ := h9.at_
        have c14 := ha4.c1
        go_wp2_with fail
        go_ret
        rw [readS_long hx hr (by have := h0.out; omega) hm]
        exact ⟨rfl, h12.trans h9⟩
      · go_wp2_with fail
        go_ret
        rw [readS_ok hx hr (by have := h0.out; omega) hm]
        exact ⟨rfl, h12⟩

set_option maxHeartbeats 300000 in
theorem eyeNum_ok1 (eb : Nat) (Z : Nat → Prop) (A : Option Addr) (c : Nat) (x : UInt8) (r : List UInt8) (most : Nat) (w : World) (h : EyeAt w 132 eb Z A c (x :: r) 0) (hz : ¬ Z eb) (hx : ¬ 8 < x.toNat) (hr : ¬ r.length < x.toNat)
    (h0 : 0 < x.toNat) (hr0 : r.getD 0 0 ≠ 0) :
    Calls Try.prog 87 #[.pointer (some ⟨eb, 0, none⟩), .int .u64 most] w (NumTo w 132 eb Z (readS (x :: r) 0 most)) := by
  have c1 := h.c1
  have hdl : (r.take x.toNat).length = x.toNat := by rw [List.length_take]; omega
  have hcl : ¬ (0 < x.toNat ∧ r.getD 0 0 = 0) := fun hh => hr0 hh.2
  have HCL := Lib.hid hcl
  clear hcl
  go_enter Try.func87, Try.ntmps87
  go_wp2_with fail
  refine (take_in eb Z A c (x :: r) 0 1 w h hz (by simp)).mono ?_
  rintro e w1 ⟨c2, rfl, hc2, hm2, h1⟩
  replace h1 : EyeTo w 132 eb Z r 0 w1 := h1
  obtain ⟨b, off, rfl, hcell⟩ := byte_at h hz h1
  obtain ⟨A1, ca1, ha1⟩ := h1.at_
  go_wp2_with fail
  refine (take_in eb Z A1 ca1 r 0 x.toNat w1 ha1 hz (by omega)).mono ?_
  rintro e w2 ⟨c3, rfl, hc3, hm3, h2⟩
  have hD : Rd w2 Z 1 A1 x.toNat ((r.take x.toNat).map bv) := by
    have := (Rd.take ha1.2.1 (k := x.toNat) (by omega)).fr h2.fr (by rintro b _ hb rfl; exact hz hb)
    rw [Nat.mul_one, ← List.map_take] at this
    exact this
  have h12 := h1.trans h2
  have HD := Lib.hid hdl
  clear hdl
  obtain ⟨b1, off1, rfl, _, _, hc0⟩ := hD.atm (k := 0) (by rw [HD.out]; exact h0)
  have hr0b : (((r.take x.toNat)[0]'(by rw [HD.out]; exact h0)).toNat : Int) ≠ 0 := digit0 hr0 (by rw [HD.out]; exact h0)
  generalize (r.take x.toNat)[0]'(by rw [HD.out]; exact h0) = d0 at hc0 hr0b
  replace hc0 : w2.cell? ⟨b1, off1, none⟩ = some (.int .u8 (d0.toNat : Int)) := hc0
  have hr0c : ((d0.toNat : Int) == 0) = false := by simpa using hr0b
  clear hr0b hr0
  go_wp2_with fail
  go_loop [4, 48] (fun nv iv => ∃ i : Nat, i ≤ x.toNat ∧ iv = .int .i64 (i : Int) ∧ nv = .int .u64 (val ((r.take x.toNat).take i) : Int)) (fun _ iv => x.toNat - (intOf iv).toNat)
  case atStart => exact ⟨0, Nat.zero_le _, rfl, rfl⟩
  case round =>
    obtain ⟨i, hi, rfl, rfl⟩ := hrel
    by_cases hlt : i < x.toNat
    · obtain ⟨b2, off2, eA, _, _, hc⟩ := hD.atm (k := i) (by rw [HD.out]; exact hlt)
      obtain ⟨rfl, rfl⟩ : b1 = b2 ∧ off1 = off2 := by simpa using eA
      have hv := val_take (l := r.take x.toNat) (i := i) (by rw [HD.out]; exact hlt)
      have hb7 : val ((r.take x.toNat).take i) < 256 ^ 7 := Nat.lt_of_lt_of_le (val_lt _) (Nat.pow_le_pow_right (by decide) (by rw [List.length_take, HD.out]; omega))
      have hgd : (r.take x.toNat).getD i 0 = (r.take x.toNat)[i]'(by rw [HD.out]; exact hlt) := by rw [List.getD_eq_getElem?_getD, List.getElem?_eq_getElem (by rw [HD.out]; exact hlt)]; rfl
      rw [hgd] at hv
      generalize (r.take x.toNat)[i]'(by rw [HD.out]; exact hlt) = d at hc hv
      have HV := Lib.hid hv
      clear hv hgd
      unfold bv at hc
      generalize val ((r.take x.toNat).take i) = m at *
      have hor := or_byte (n := m) (d := d) hb7
      have hm56 : m < 72057594037927936 := hb7
      clear hb7
      have hd8 := d.toNat_lt
      go_wp2_with fail
      go_round
      case rel => exact ⟨i + 1, hlt, by go_num, by rw [HV.out]; go_num⟩
      case measure => simp [intOf]; omega
    · have e : i = x.toNat := by omega
      subst e
      rw [show ((r.take x.toNat).take x.toNat) = r.take x.toNat by rw [List.take_take]; simp]
      obtain ⟨A3, ca3, ha3⟩ := h2.at_
      have c13 := ha3.c1
      have hvl := val_lt64 (l := r.take x.toNat) (by rw [HD.out]; omega)
      by_cases hm : most < val (r.take x.toNat)
      · go_wp2_with fail
        refine (fail_any eb Z A3 ca3 (r.drop x.toNat) 0 13 _ ha3).mono ?_
        rintro e w9 ⟨rfl, h9⟩
        replace h9 : EyeTo w2 132 eb Z [] 13 w9 := h9
        obtain ⟨A4, ca4, ha4⟩ := h9.at_
        have c14 := ha4.c1
        go_wp2_with fail
        go_ret
        rw [readS_long hx hr HCL.out hm]
        exact ⟨rfl, h12.trans h9⟩
      · go_wp2_with fail
        go_ret
        rw [readS_ok hx hr HCL.out hm]
        exact ⟨rfl, h12⟩

set_option maxHeartbeats 300000 in
theorem eyeNum_zero (eb : Nat) (Z : Nat → Prop) (A : Option Addr) (c : Nat) (x : UInt8) (r : List UInt8) (most : Nat) (w : World) (h : EyeAt w 132 eb Z A c (x :: r) 0) (hz : ¬ Z eb) (hx : ¬ 8 < x.toNat) (hr : ¬ r.length < x.toNat)
    (h0 : 0 < x.toNat) (hr0 : r.getD 0 0 = 0) :
    Calls Try.prog 87 #[.pointer (some ⟨eb, 0, none⟩), .int .u64 most] w (NumTo w 132 eb Z (readS (x :: r) 0 most)) := by
  have c1 := h.c1
  have hdl : (r.take x.toNat).length = x.toNat := by rw [List.length_take]; omega
  have hcl : 0 < x.toNat ∧ r.getD 0 0 = 0 := ⟨h0, hr0⟩
  have HCL := Lib.hid hcl
  clear hcl
  go_enter Try.func87, Try.ntmps87
  go_wp2_with fail
  refine (take_in eb Z A c (x :: r) 0 1 w h hz (by simp)).mono ?_
  rintro e w1 ⟨c2, rfl, hc2, hm2, h1⟩
  replace h1 : EyeTo w 132 eb Z r 0 w1 := h1
  obtain ⟨b, off, rfl, hcell⟩ := byte_at h hz h1
  obtain ⟨A1, ca1, ha1⟩ := h1.at_
  go_wp2_with fail
  refine (take_in eb Z A1 ca1 r 0 x.toNat w1 ha1 hz (by omega)).mono ?_
  rintro e w2 ⟨c3, rfl, hc3, hm3, h2⟩
  have hD : Rd w2 Z 1 A1 x.toNat ((r.take x.toNat).map bv) := by
    have := (Rd.take ha1.2.1 (k := x.toNat) (by omega)).fr h2.fr (by rintro b _ hb rfl; exact hz hb)
    rw [Nat.mul_one, ← List.map_take] at this
    exact this
  have h12 := h1.trans h2
  have HD := Lib.hid hdl
  clear hdl
  obtain ⟨b1, off1, rfl, _, _, hc0⟩ := hD.atm (k := 0) (by rw [HD.out]; exact h0)
  have hr0b : (((r.take x.toNat)[0]'(by rw [HD.out]; exact h0)).toNat : Int) = 0 := digit00 hr0 (by rw [HD.out]; exact h0)
  clear hr0
  unfold bv at hc0
  rw [hr0b] at hc0
  clear hr0b
  replace hc0 : w2.cell? ⟨b1, off1, none⟩ = some (.int .u8 0) := hc0
  obtain ⟨A5, ca5, ha5⟩ := h2.at_
  go_wp2_with fail
  refine (fail_any eb Z A5 ca5 (r.drop x.toNat) 0 10 _ ha5).mono ?_
  rintro e w3 ⟨rfl, h3⟩
  replace h3 : EyeTo w2 132 eb Z [] 10 w3 := h3
  replace hD := hD.fr h3.fr (by rintro b _ hb rfl; exact hz hb)
  have h13 := h12.trans h3
  go_wp2_with fail
  go_loop [4, 48] (fun nv iv => ∃ i : Nat, i ≤ x.toNat ∧ iv = .int .i64 (i : Int) ∧ nv = .int .u64 (val ((r.take x.toNat).take i) : Int)) (fun _ iv => x.toNat - (intOf iv).toNat)
  case atStart => exact ⟨0, Nat.zero_le _, rfl, rfl⟩
  case round =>
    obtain ⟨i, hi, rfl, rfl⟩ := hrel
    by_cases hlt : i < x.toNat
    · obtain ⟨b2, off2, eA, _, _, hc⟩ := hD.atm (k := i) (by rw [HD.out]; exact hlt)
      obtain ⟨rfl, rfl⟩ : b1 = b2 ∧ off1 = off2 := by simpa using eA
      have hv := val_take (l := r.take x.toNat) (i := i) (by rw [HD.out]; exact hlt)
      have hb7 : val ((r.take x.toNat).take i) < 256 ^ 7 := Nat.lt_of_lt_of_le (val_lt _) (Nat.pow_le_pow_right (by decide) (by rw [List.length_take, HD.out]; omega))
      have hgd : (r.take x.toNat).getD i 0 = (r.take x.toNat)[i]'(by rw [HD.out]; exact hlt) := by rw [List.getD_eq_getElem?_getD, List.getElem?_eq_getElem (by rw [HD.out]; exact hlt)]; rfl
      rw [hgd] at hv
      generalize (r.take x.toNat)[i]'(by rw [HD.out]; exact hlt) = d at hc hv
      have HV := Lib.hid hv
      clear hv hgd
      unfold bv at hc
      generalize val ((r.take x.toNat).take i) = m at *
      have hor := or_byte (n := m) (d := d) hb7
      have hm56 : m < 72057594037927936 := hb7
      clear hb7
      have hd8 := d.toNat_lt
      go_wp2_with fail
      go_round
      case rel => exact ⟨i + 1, hlt, by go_num, by rw [HV.out]; go_num⟩
      case measure => simp [intOf]; omega
    · have e : i = x.toNat := by omega
      subst e
      rw [show ((r.take x.toNat).take x.toNat) = r.take x.toNat by rw [List.take_take]; simp]
      obtain ⟨A3, ca3, ha3⟩ := h3.at_
      have c13 := ha3.c1
      have hvl := val_lt64 (l := r.take x.toNat) (by rw [HD.out]; omega)
      by_cases hm : most < val (r.take x.toNat)
      · go_wp2_with fail
        refine (fail_any eb Z A3 ca3 [] 10 13 _ ha3).mono ?_
        rintro e w9 ⟨rfl, h9⟩
        replace h9 : EyeTo w3 132 eb Z [] 10 w9 := h9
        obtain ⟨A4, ca4, ha4⟩ := h9.at_
        have c14 := ha4.c1
        go_wp2_with fail
        go_ret
        rw [readS_zero hx hr HCL.out]
        exact ⟨rfl, h13.trans h9⟩
      · go_wp2_with fail
        go_ret
        rw [readS_zero hx hr HCL.out]
        exact ⟨rfl, h13⟩


theorem eyeNum_any (eb : Nat) (Z : Nat → Prop) (A : Option Addr) (c : Nat) (l : List UInt8) (f : Int) (most : Nat) (w : World) (h : EyeAt w 132 eb Z A c l f) (hz : ¬ Z eb) :
    Calls Try.prog 87 #[.pointer (some ⟨eb, 0, none⟩), .int .u64 most] w (NumTo w 132 eb Z (readS l f most)) := by
  by_cases hf : f = 0
  · subst hf
    rcases l with _ | ⟨x, r⟩
    · exact eyeNum_none eb Z A c most w h
    · by_cases hx : 8 < x.toNat
      · exact eyeNum_wide eb Z A c x r most w h hz hx
      · by_cases hr : r.length < x.toNat
        · exact eyeNum_short eb Z A c x r most w h hz hx hr
        · by_cases h0 : x.toNat = 0
          · exact eyeNum_ok0 eb Z A c x r most w h hz hx hr h0
          · by_cases hr0 : r.getD 0 0 = 0
            · exact eyeNum_zero eb Z A c x r most w h hz hx hr (by omega) hr0
            · exact eyeNum_ok1 eb Z A c x r most w h hz hx hr (by omega) hr0
  · exact eyeNum_bad eb Z A c l f most w h hf
end Go.Proofs.Ytpbgcbpofhbgbaa

/- tenderref01.Eye.Read. -/
namespace Go.Proofs.Ytpbgcbpofhbgbaa
open Go.RowKit

set_option maxHeartbeats 400000 in
theorem eyeRead_bad (eb : Nat) (Z : Nat → Prop) (A : Option Addr) (c : Nat) (l : List UInt8) (f : Int) (most : Nat) (w : World) (h : EyeAt w 109 eb Z A c l f) (hf : f ≠ 0) :
    Calls Try.prog 68 #[.pointer (some ⟨eb, 0, none⟩), .int .u64 most] w (NumTo w 109 eb Z (readS l f most)) := by
  have c1 := h.c1
  rw [readS_bad hf]
  have hfb : (f != 0) = true := by simpa using hf
  go_enter Try.func68, Try.ntmps68
  go_wp2_with fail
  go_ret
  exact ⟨rfl, h.to⟩

set_option maxHeartbeats 400000 in
theorem eyeRead_none (eb : Nat) (Z : Nat → Prop) (A : Option Addr) (c : Nat) (most : Nat) (w : World) (h : EyeAt w 109 eb Z A c [] 0) :
    Calls Try.prog 68 #[.pointer (some ⟨eb, 0, none⟩), .int .u64 most] w (NumTo w 109 eb Z (readS [] 0 most)) := by
  have c1 := h.c1
  have c0 := h.c0
  rw [readS_nil]
  go_enter Try.func68, Try.ntmps68
  go_wp2_with fail
  refine (failR_any eb Z A c [] 0 11 w h).mono ?_
  rintro e w1 ⟨rfl, h1⟩
  go_wp2_with fail
  go_ret
  exact ⟨rfl, h1⟩

theorem rd_first {w : World} {T eb : Nat} {Z : Nat → Prop} {A : Option Addr} {c : Nat} {x : UInt8} {r : List UInt8} {f : Int} (h : EyeAt w T eb Z A c (x :: r) f) :
    ∃ b off, A = some ⟨b, off, none⟩ ∧ Z b ∧ w.cell? ⟨b, off, none⟩ = some (.int .u8 (x.toNat : Int)) ∧ ∀ j (hj : j < r.length), w.cell? ⟨b, off + (1 + j), none⟩ = some (.int .u8 (r[j].toNat : Int)) := by
  obtain ⟨b, off, e, hz, _, hc⟩ := Rd.atm h.2.1 (k := 0) (by simp)
  refine ⟨b, off, e, hz, hc, fun j hj => ?_⟩
  obtain ⟨b2, off2, e2, _, _, hc2⟩ := Rd.atm h.2.1 (k := 1 + j) (by simp; omega)
  rw [e] at e2
  obtain ⟨rfl, rfl⟩ : b = b2 ∧ off = off2 := by simpa using e2
  rw [hc2]
  simp [bv, Nat.add_comm 1 j]

set_option maxHeartbeats 400000 in
theorem eyeRead_wide (eb : Nat) (Z : Nat → Prop) (A : Option Addr) (c : Nat) (x : UInt8) (r : List UInt8) (most : Nat) (w : World) (h : EyeAt w 109 eb Z A c (x :: r) 0) (hx : 8 < x.toNat) :
    Calls Try.prog 68 #[.pointer (some ⟨eb, 0, none⟩), .int .u64 most] w (NumTo w 109 eb Z (readS (x :: r) 0 most)) := by
  have c1 := h.c1
  have c0 := h.c0
  rw [readS_wide hx]
  have hx8 : x.toNat < 256 := x.toNat_lt
  have hbd : r.length + 1 ≤ c ∧ c ≤ 9223372036854775807 := h.bounds
  obtain ⟨b, off, rfl, _, hcell, _⟩ := rd_first h
  go_enter Try.func68, Try.ntmps68
  go_wp2_with fail
  refine (failR_any eb Z _ c (x :: r) 0 10 w h).mono ?_
  rintro e w1 ⟨rfl, h1⟩
  go_wp2_with fail
  go_ret
  exact ⟨rfl, h1⟩

set_option maxHeartbeats 400000 in
theorem eyeRead_short (eb : Nat) (Z : Nat → Prop) (A : Option Addr) (c : Nat) (x : UInt8) (r : List UInt8) (most : Nat) (w : World) (h : EyeAt w 109 eb Z A c (x :: r) 0) (hx : ¬ 8 < x.toNat) (hr : r.length < x.toNat) :
    Calls Try.prog 68 #[.pointer (some ⟨eb, 0, none⟩), .int .u64 most] w (NumTo w 109 eb Z (readS (x :: r) 0 most)) := by
  have c1 := h.c1
  have c0 := h.c0
  rw [readS_short hx hr]
  have hx8 : x.toNat < 256 := x.toNat_lt
  have hbd : r.length + 1 ≤ c ∧ c ≤ 9223372036854775807 := h.bounds
  obtain ⟨b, off, rfl, _, hcell, _⟩ := rd_first h
  go_enter Try.func68, Try.ntmps68
  go_wp2_with fail
  refine (failR_any eb Z _ c (x :: r) 0 11 w h).mono ?_
  rintro e w1 ⟨rfl, h1⟩
  go_wp2_with fail
  go_ret
  exact ⟨rfl, h1⟩

set_option maxHeartbeats 1000000 in
theorem eyeRead_long (eb : Nat) (Z : Nat → Prop) (A : Option Addr) (c : Nat) (x : UInt8) (r : List UInt8) (most : Nat) (w : World) (h : EyeAt w 109 eb Z A c (x :: r) 0) (hz : ¬ Z eb) (hx : ¬ 8 < x.toNat) (hr : ¬ r.length < x.toNat) :
    Calls Try.prog 68 #[.pointer (some ⟨eb, 0, none⟩), .int .u64 most] w (NumTo w 109 eb Z (readS (x :: r) 0 most)) := by
  have c1 := h.c1
  have c0 := h.c0
  have f0 := h.f0
  have hbd := h.bounds
  have hll : (x :: r).length ≤ 1 + r.length := by simp; omega
  have hx8 : x.toNat < 256 := x.toNat_lt
  obtain ⟨b, off, rfl, hzb, hcell, hcells⟩ := rd_first h
  have HC := Lib.hid hcells
  clear hcells
  replace c0 : w.cell? ⟨eb, 0, none⟩ = some (.slice (some ⟨b, off, none⟩) (r.length + 1) c) := c0
  replace hbd : r.length + 1 ≤ c ∧ c ≤ 9223372036854775807 := hbd
  clear hll
  have H := Lib.hid h
  clear h
  go_enter Try.func68, Try.ntmps68
  go_wp2_with fail
  go_loop [6, 7] (fun nv iv => ∃ i : Nat, i ≤ x.toNat ∧ iv = .int .i64 ((i + 1 : Nat) : Int) ∧ nv = .int .u64 (val (r.take i) : Int)) (fun _ iv => x.toNat + 1 - (intOf iv).toNat)
  case atStart => exact ⟨0, Nat.zero_le _, rfl, rfl⟩
  case round =>
    obtain ⟨i, hi, rfl, rfl⟩ := hrel
    by_cases hlt : i < x.toNat
    · have hil : i < r.length := by omega
      have hc := HC.out i hil
      have hv := val_take (l := r) (i := i) hil
      have hb7 : val (r.take i) < 256 ^ 7 := Nat.lt_of_lt_of_le (val_lt _) (Nat.pow_le_pow_right (by decide) (by rw [List.length_take]; omega))
      have hgd : r.getD i 0 = r[i] := by rw [List.getD_eq_getElem?_getD, List.getElem?_eq_getElem hil]; rfl
      rw [hgd] at hv
      generalize r[i] = d at hc hv
      have HV := Lib.hid hv
      clear hv hgd
      generalize val (r.take i) = m at *
      have hm56 : m < 72057594037927936 := hb7
      clear hb7
      have hd8 := d.toNat_lt
      replace hc : w.cell? ⟨b, off + (i + 1), none⟩ = some (.int .u8 (d.toNat : Int)) := by rw [Nat.add_comm i 1]; exact hc
      go_wp2_with fail
      go_round
      case rel => exact ⟨i + 1, hlt, by go_num, by rw [HV.out]; go_num⟩
      case measure => simp [intOf]; omega
    · have e : i = x.toNat := by omega
      subst e
      have hvl := val_lt64 (l := r.take x.toNat) (by rw [List.length_take]; omega)
      have hend : ∀ w', EyeTo w 109 eb Z ((x :: r).drop (1 + x.toNat)) 0 w' → EyeTo w 109 eb Z (r.drop x.toNat) 0 w' := by
        intro w' hh
        rw [Nat.add_comm 1, List.drop_succ_cons] at hh
        exact hh
      by_cases h0 : 0 < x.toNat
      · have h1r : 0 < r.length := by omega
        have hc1 := HC.out 0 h1r
        have hgd : r.getD 0 0 = r[0] := by rw [List.getD_eq_getElem?_getD, List.getElem?_eq_getElem h1r]; rfl
        replace hc1 : w.cell? ⟨b, off + 1, none⟩ = some (.int .u8 (r[0].toNat : Int)) := hc1
        have HG := Lib.hid hgd
        clear hgd
        generalize r[0] = y at hc1 HG
        by_cases hy : y = 0
        · subst hy
          go_wp2_with fail
          refine (failR_any eb Z _ c (x :: r) 0 10 w H.out).mono ?_
          rintro e w1 ⟨rfl, h1⟩
          go_wp2_with fail
          go_ret
          rw [readS_zero hx hr ⟨h0, HG.out⟩]
          exact ⟨rfl, h1⟩
        · have hyb : ((y.toNat : Int) == 0) = false := by rw [beq_eq_false_iff_ne]; intro e; exact hy (UInt8.toNat_inj.1 (by simpa using e))
          have hn3 : ¬ (0 < x.toNat ∧ r.getD 0 0 = 0) := fun hh => hy (by rw [← HG.out]; exact hh.2)
          have HN3 := Lib.hid hn3
          clear hn3 hy
          by_cases hm : most < val (r.take x.toNat)
          · go_wp2_with fail
            refine (failR_any eb Z _ c (x :: r) 0 13 w H.out).mono ?_
            rintro e w1 ⟨rfl, h1⟩
            go_wp2_with fail
            go_ret
            rw [readS_long hx hr HN3.out hm]
            exact ⟨rfl, h1⟩
          · have hcut := H.out.cut (n := 1 + x.toNat) (by simp; omega) hz
            by_cases hcc : c = 1 + x.toNat
            · rw [if_pos hcc, show c - (1 + x.toNat) = 0 by omega] at hcut
              have HQ := Lib.hid hcc
              clear hcc
              go_wp2_with fail
              go_ret
              rw [readS_ok hx hr HN3.out hm]
              exact ⟨rfl, hend _ hcut⟩
            · rw [if_neg hcc, Option.map_some, add_none] at hcut
              go_wp2_with fail
              go_ret
              rw [readS_ok hx hr HN3.out hm]
              exact ⟨rfl, hend _ hcut⟩
      · have h0b : decide (0 < x.toNat) = false := by simpa using h0
        have hn3 : ¬ (0 < x.toNat ∧ r.getD 0 0 = 0) := fun hh => h0 hh.1
        have HN3 := Lib.hid hn3
        clear hn3
        by_cases hm : most < val (r.take x.toNat)
        · go_wp2_with fail
          refine (failR_any eb Z _ c (x :: r) 0 13 w H.out).mono ?_
          rintro e w1 ⟨rfl, h1⟩
          go_wp2_with fail
          go_ret
          rw [readS_long hx hr HN3.out hm]
          exact ⟨rfl, h1⟩
        · have hcut := H.out.cut (n := 1 + x.toNat) (by simp; omega) hz
          by_cases hcc : c = 1 + x.toNat
          · rw [if_pos hcc, show c - (1 + x.toNat) = 0 by omega] at hcut
            have HQ := Lib.hid hcc
            clear hcc
            go_wp2_with fail
            go_ret
            rw [readS_ok hx hr HN3.out hm]
            exact ⟨rfl, hend _ hcut⟩
          · rw [if_neg hcc, Option.map_some, add_none] at hcut
            go_wp2_with fail
            go_ret
            rw [readS_ok hx hr HN3.out hm]
            exact ⟨rfl, hend _ hcut⟩

theorem eyeRead_any (eb : Nat) (Z : Nat → Prop) (A : Option Addr) (c : Nat) (l : List UInt8) (f : Int) (most : Nat) (w : World) (h : EyeAt w 109 eb Z A c l f) (hz : ¬ Z eb) :
    Calls Try.prog 68 #[.pointer (some ⟨eb, 0, none⟩), .int .u64 most] w (NumTo w 109 eb Z (readS l f most)) := by
  by_cases hf : f = 0
  · subst hf
    rcases l with _ | ⟨x, r⟩
    · exact eyeRead_none eb Z A c most w h
    · by_cases hx : 8 < x.toNat
      · exact eyeRead_wide eb Z A c x r most w h hx
      · by_cases hr : r.length < x.toNat
        · exact eyeRead_short eb Z A c x r most w h hx hr
        · exact eyeRead_long eb Z A c x r most w h hz hx hr
  · exact eyeRead_bad eb Z A c l f most w h hf
end Go.Proofs.Ytpbgcbpofhbgbaa

/- grain.Eye: Open, Fault, Left, Close, Int, Truth; digits and their number. -/
namespace Go.Proofs.Ytpbgcbpofhbgbaa
open Go.RowKit

theorem val_pos : ∀ (m : Nat) (D : List UInt8), D.length = m → D ≠ [] → D.getD 0 0 ≠ 0 → 0 < val D
  | 0, D, h, h2, _ => absurd (List.eq_nil_of_length_eq_zero h) h2
  | m + 1, D, h, h2, h3 => by
    have e : D = D.dropLast ++ [D.getLast h2] := (List.dropLast_concat_getLast h2).symm
    rcases Nat.eq_zero_or_pos m with h0 | h0
    · subst h0
      obtain ⟨d, rfl⟩ := List.length_eq_one_iff.1 h
      simp at h3
      simp only [val, List.foldl_cons, List.foldl_nil]
      have : d.toNat ≠ 0 := fun e => h3 (UInt8.toNat_inj.1 (by simpa using e))
      omega
    · have hl : D.dropLast.length = m := by simp [h]
      have hn : D.dropLast ≠ [] := by intro e; rw [e] at hl; simp at hl; omega
      have hg : D.dropLast.getD 0 0 = D.getD 0 0 := by
        rw [List.getD_eq_getElem?_getD, List.getD_eq_getElem?_getD, List.getElem?_dropLast, if_pos (by omega)]
      have := val_pos m _ hl hn (by rw [hg]; exact h3)
      rw [e, val_snoc]
      omega

theorem digs_val : ∀ (m : Nat) (D : List UInt8), D.length = m → m ≤ 8 → (D ≠ [] → D.getD 0 0 ≠ 0) → digs (val D) = D
  | 0, D, h, _, _ => by
    have := List.eq_nil_of_length_eq_zero h
    subst this
    exact digs_zero
  | m + 1, D, h, hm, h3 => by
    have h2 : D ≠ [] := by intro e; rw [e] at h; simp at h
    have hp := val_pos _ D h h2 (h3 h2)
    have h64 := val_lt64 (l := D) (by omega)
    rw [digs_step hp h64]
    have e : D = D.dropLast ++ [D.getLast h2] := (List.dropLast_concat_getLast h2).symm
    have hv : val D = val D.dropLast * 256 + (D.getLast h2).toNat := by
      conv => lhs; rw [e]
      exact val_snoc _ _
    have hd := (D.getLast h2).toNat_lt
    have hdiv : val D / 256 = val D.dropLast := by omega
    have hmod : val D % 256 = (D.getLast h2).toNat := by omega
    rw [hdiv, hmod, digs_val m D.dropLast (by simp [h]) (by omega) ?_]
    · rw [UInt8.ofNat_toNat]
      exact e.symm
    · intro hn
      have hl : D.dropLast.length = m := by simp [h]
      have hm0 : 0 < m := by
        rcases Nat.eq_zero_or_pos m with h0 | h0
        · rw [h0] at hl; exact absurd (List.eq_nil_of_length_eq_zero hl) hn
        · exact h0
      rw [List.getD_eq_getElem?_getD, List.getElem?_dropLast, if_pos (by omega), ← List.getD_eq_getElem?_getD]
      exact h3 h2

/-- a number that was read has just the bytes of which it was read -/
theorem readS_once {l l' : List UInt8} {n most : Nat} (h : readS l 0 most = (n, l', 0)) : n ≤ most ∧ n < 18446744073709551616 ∧ ∃ k, 1 ≤ k ∧ k ≤ l.length ∧ l'.length = l.length - k ∧ l.take k = numB n ∧ l' = l.drop k := by
  rcases l with _ | ⟨x, r⟩
  · rw [readS_nil] at h; simp at h
  · by_cases h1 : 8 < x.toNat
    · rw [readS_wide h1] at h; simp at h
    · by_cases h2 : r.length < x.toNat
      · rw [readS_short h1 h2] at h; simp at h
      · by_cases h3 : 0 < x.toNat ∧ r.getD 0 0 = 0
        · rw [readS_zero h1 h2 h3] at h; simp at h
        · by_cases h4 : most < val (r.take x.toNat)
          · rw [readS_long h1 h2 h3 h4] at h; simp at h
          · rw [readS_ok h1 h2 h3 h4] at h
            simp only [Prod.mk.injEq, and_true] at h
            obtain ⟨rfl, rfl⟩ := h
            have hlen : (r.take x.toNat).length = x.toNat := by rw [List.length_take]; omega
            refine ⟨by omega, val_lt64 (by rw [hlen]; omega), x.toNat + 1, by omega, by simp; omega, by simp, ?_, by simp⟩
            have hd := digs_val _ (r.take x.toNat) hlen (by omega) (by
              intro hn e
              have h0 : 0 < x.toNat := by
                rcases Nat.eq_zero_or_pos x.toNat with h0 | h0
                · rw [h0] at hn; simp at hn
                · exact h0
              refine h3 ⟨h0, ?_⟩
              rw [List.getD_eq_getElem?_getD, List.getElem?_take, if_pos h0, ← List.getD_eq_getElem?_getD] at e
              exact e)
            unfold numB
            rw [hd, hlen, UInt8.ofNat_toNat, List.take_succ_cons]

theorem failS_pair (l : List UInt8) (f code : Int) : failS l f code = ((failS l f code).1, (failS l f code).2) := rfl

set_option maxHeartbeats 400000 in
theorem open_any (A : Option Addr) (c n : Nat) (w : World) :
    Calls Try.prog 61 #[.slice A n c] w fun e w' => e = .returned (.pointer (some ⟨w.heap.size, 0, none⟩)) ∧ w.alloc (.cells #[.slice A n c, .int .i64 0] 132) = w' := by
  go_enter Try.func61, Try.ntmps61
  go_wp2_with fail
  go_ret
  exact ⟨rfl, rfl⟩
/-- a new eye -/
theorem EyeAt.new (w : World) {T : Nat} {Z : Nat → Prop} {A : Option Addr} {c : Nat} {l : List UInt8} (h : By w Z A l) (h1 : l.length ≤ c) (h2 : c ≤ maxLen) :
    EyeAt (w.alloc (.cells #[.slice A l.length c, .int .i64 0] T)) T w.heap.size Z A c l 0 := ⟨Blk.new _ _ _, h.alloc _, h1, h2⟩

set_option maxHeartbeats 400000 in
theorem fault_any (eb : Nat) (Z : Nat → Prop) (A : Option Addr) (c : Nat) (l : List UInt8) (f : Int) (w : World) (h : EyeAt w 132 eb Z A c l f) :
    Calls Try.prog 63 #[.pointer (some ⟨eb, 0, none⟩)] w fun e w' => e = .returned (.int .i64 f) ∧ w = w' := by
  have c1 := h.c1
  go_enter Try.func63, Try.ntmps63
  go_wp2_with fail
  go_ret
  exact ⟨rfl, rfl⟩

set_option maxHeartbeats 400000 in
theorem left_any (eb : Nat) (Z : Nat → Prop) (A : Option Addr) (c : Nat) (l : List UInt8) (f : Int) (w : World) (h : EyeAt w 132 eb Z A c l f) :
    Calls Try.prog 94 #[.pointer (some ⟨eb, 0, none⟩)] w fun e w' => e = .returned (.int .i64 (l.length : Int)) ∧ w = w' := by
  have c0 := h.c0
  go_enter Try.func94, Try.ntmps94
  go_wp2_with fail
  go_ret
  exact ⟨rfl, rfl⟩

/-- what Close tells -/
def closeS (l : List UInt8) (f : Int) : Int := if f ≠ 0 then f else if 0 < l.length then 12 else 0

set_option maxHeartbeats 400000 in
theorem close_any (eb : Nat) (Z : Nat → Prop) (A : Option Addr) (c : Nat) (l : List UInt8) (f : Int) (w : World) (h : EyeAt w 132 eb Z A c l f) :
    Calls Try.prog 65 #[.pointer (some ⟨eb, 0, none⟩)] w fun e w' => e = .returned (.int .i64 (closeS l f)) ∧ w = w' := by
  by_cases hf : f = 0
  · by_cases hl : 0 < l.length
    · have e1 := Lib.hid (show closeS l f = 12 by unfold closeS; rw [if_neg (by simpa using hf), if_pos hl])
      subst hf
      go_enter Try.func65, Try.ntmps65
      go_wp2_with (first | (go_at_call 63; refine (fault_any eb Z A c l 0 _ h).mono ?_; rintro e w' ⟨rfl, rfl⟩) | (go_at_call 94; refine (left_any eb Z A c l 0 _ h).mono ?_; rintro e w' ⟨rfl, rfl⟩))
      go_ret
      exact ⟨by rw [e1.out]; rfl, rfl⟩
    · have e1 := Lib.hid (show closeS l f = 0 by unfold closeS; rw [if_neg (by simpa using hf), if_neg hl])
      subst hf
      go_enter Try.func65, Try.ntmps65
      go_wp2_with (first | (go_at_call 63; refine (fault_any eb Z A c l 0 _ h).mono ?_; rintro e w' ⟨rfl, rfl⟩) | (go_at_call 94; refine (left_any eb Z A c l 0 _ h).mono ?_; rintro e w' ⟨rfl, rfl⟩))
      go_ret
      exact ⟨by rw [e1.out]; rfl, rfl⟩
  · have e1 := Lib.hid (show closeS l f = f by unfold closeS; rw [if_pos hf])
    have hfb : (f != 0) = true := by simpa using hf
    go_enter Try.func65, Try.ntmps65
    go_wp2_with (first | (go_at_call 63; refine (fault_any eb Z A c l f _ h).mono ?_; rintro e w' ⟨rfl, rfl⟩))
    go_ret
    exact ⟨by rw [e1.out]; rfl, rfl⟩

end Go.Proofs.Ytpbgcbpofhbgbaa

/- grain.Eye and tenderref01.Eye: Int, Truth, Text; an eye that is none. -/
namespace Go.Proofs.Ytpbgcbpofhbgbaa
open Go.RowKit

theorem readS_le (l : List UInt8) (f : Int) (most : Nat) : (readS l f most).1 ≤ most := by
  by_cases hf : f = 0
  · subst hf
    rcases l with _ | ⟨x, r⟩
    · rw [readS_nil]; exact Nat.zero_le _
    · by_cases h1 : 8 < x.toNat
      · rw [readS_wide h1]; exact Nat.zero_le _
      · by_cases h2 : r.length < x.toNat
        · rw [readS_short h1 h2]; exact Nat.zero_le _
        · by_cases h3 : 0 < x.toNat ∧ r.getD 0 0 = 0
          · rw [readS_zero h1 h2 h3]; exact Nat.zero_le _
          · by_cases h4 : most < val (r.take x.toNat)
            · rw [readS_long h1 h2 h3 h4]; exact Nat.zero_le _
            · rw [readS_ok h1 h2 h3 h4]; dsimp only; omega
  · rw [readS_bad hf]; exact Nat.zero_le _
theorem readS_len (l : List UInt8) (f : Int) (most : Nat) : (readS l f most).2.1.length ≤ l.length := by
  by_cases hf : f = 0
  · subst hf
    rcases l with _ | ⟨x, r⟩
    · rw [readS_nil]; exact Nat.zero_le _
    · by_cases h1 : 8 < x.toNat
      · rw [readS_wide h1]; exact Nat.zero_le _
      · by_cases h2 : r.length < x.toNat
        · rw [readS_short h1 h2]; exact Nat.zero_le _
        · by_cases h3 : 0 < x.toNat ∧ r.getD 0 0 = 0
          · rw [readS_zero h1 h2 h3]; exact Nat.zero_le _
          · by_cases h4 : most < val (r.take x.toNat)
            · rw [readS_long h1 h2 h3 h4]; exact Nat.zero_le _
            · rw [readS_ok h1 h2 h3 h4]; simp; omega
  · rw [readS_bad hf]; exact Nat.le_refl _
theorem failS_len (l : List UInt8) (f code : Int) : (failS l f code).1.length ≤ l.length := by unfold failS; split <;> simp

theorem clone_n (A : Option Addr) (c n : Nat) (l : List UInt8) (Z : Nat → Prop) (w : World) (h : Rd w Z 1 A n (l.map bv)) (hn : n = l.length) (hlen : l.length ≤ 140737488355328) :
    Calls Try.prog 38 #[.slice A n c] w fun e w' => ∃ (A' : Option Addr) (c' : Nat) (l' : List UInt8), e = .returned (.slice A' l'.length c') ∧ Hid (l' = l) ∧ OwB w' w.heap.size (.slice A' l'.length c') l' ∧ Below w.heap.size w w' := by
  subst hn
  exact clone_any A c l Z w h hlen

/-- an int is read -/
def intS (l : List UInt8) (f : Int) (most : Int) : Nat × List UInt8 × Int :=
  if 0 ≤ most then readS l f most.toNat else (0, failS (readS l f 0).2.1 (readS l f 0).2.2 13)
def IntTo (w : World) (T eb : Nat) (Z : Nat → Prop) (r : Nat × List UInt8 × Int) (e : Ending) (w' : World) : Prop := e = .returned (.int .i64 (r.1 : Int)) ∧ EyeTo w T eb Z r.2.1 r.2.2 w'
theorem intS_len (l : List UInt8) (f most : Int) : (intS l f most).2.1.length ≤ l.length := by
  unfold intS
  split
  · exact readS_len _ _ _
  · exact Nat.le_trans (failS_len _ _ _) (readS_len _ _ _)

set_option maxHeartbeats 400000 in
theorem int_any (eb : Nat) (Z : Nat → Prop) (A : Option Addr) (c : Nat) (l : List UInt8) (f most : Int) (w : World) (h : EyeAt w 132 eb Z A c l f) (hz : ¬ Z eb) (hm : most < 9223372036854775808) :
    Calls Try.prog 62 #[.pointer (some ⟨eb, 0, none⟩), .int .i64 most] w (IntTo w 132 eb Z (intS l f most)) := by
  by_cases h0 : 0 ≤ most
  · have e1 : intS l f most = readS l f most.toNat := by unfold intS; rw [if_pos h0]
    rw [e1]
    have hle := readS_le l f most.toNat
    have hn := eyeNum_any eb Z A c l f most.toNat w h hz
    rw [Int.toNat_of_nonneg h0] at hn
    have HN := Lib.hid hn
    clear hn e1
    generalize readS l f most.toNat = r at *
    obtain ⟨n, l', f'⟩ := r
    dsimp only at *
    go_enter Try.func62, Try.ntmps62
    go_wp2_with fail
    refine HN.out.mono ?_
    rintro e w1 ⟨rfl, h1⟩
    go_wp2_with fail
    go_ret
    exact ⟨rfl, h1⟩
  · have e1 : intS l f most = (0, failS (readS l f 0).2.1 (readS l f 0).2.2 13) := by unfold intS; rw [if_neg h0]
    rw [e1]
    have hn := eyeNum_any eb Z A c l f 0 w h hz
    have HN := Lib.hid hn
    clear hn e1
    generalize readS l f 0 = r at *
    obtain ⟨n, l', f'⟩ := r
    dsimp only at *
    go_enter Try.func62, Try.ntmps62
    go_wp2_with fail
    refine HN.out.mono ?_
    rintro e w1 ⟨rfl, h1⟩
    obtain ⟨A1, c1, ha1⟩ := h1.at_
    dsimp only at ha1
    go_wp2_with fail
    refine (fail_any eb Z A1 c1 l' f' 13 w1 ha1).mono ?_
    rintro e w2 ⟨rfl, h2⟩
    go_wp2_with fail
    go_ret
    exact ⟨rfl, h1.trans h2⟩

set_option maxHeartbeats 400000 in
theorem intR_any (eb : Nat) (Z : Nat → Prop) (A : Option Addr) (c : Nat) (l : List UInt8) (f most : Int) (w : World) (h : EyeAt w 109 eb Z A c l f) (hz : ¬ Z eb) (hm : most < 9223372036854775808) :
    Calls Try.prog 66 #[.pointer (some ⟨eb, 0, none⟩), .int .i64 most] w (IntTo w 109 eb Z (intS l f most)) := by
  by_cases h0 : 0 ≤ most
  · have e1 : intS l f most = readS l f most.toNat := by unfold intS; rw [if_pos h0]
    rw [e1]
    have hle := readS_le l f most.toNat
    have hn := eyeRead_any eb Z A c l f most.toNat w h hz
    rw [Int.toNat_of_nonneg h0] at hn
    have HN := Lib.hid hn
    clear hn e1
    generalize readS l f most.toNat = r at *
    obtain ⟨n, l', f'⟩ := r
    dsimp only at *
    go_enter Try.func66, Try.ntmps66
    go_wp2_with fail
    refine HN.out.mono ?_
    rintro e w1 ⟨rfl, h1⟩
    go_wp2_with fail
    go_ret
    exact ⟨rfl, h1⟩
  · have e1 : intS l f most = (0, failS (readS l f 0).2.1 (readS l f 0).2.2 13) := by unfold intS; rw [if_neg h0]
    rw [e1]
    have hn := eyeRead_any eb Z A c l f 0 w h hz
    have HN := Lib.hid hn
    clear hn e1
    generalize readS l f 0 = r at *
    obtain ⟨n, l', f'⟩ := r
    dsimp only at *
    go_enter Try.func66, Try.ntmps66
    go_wp2_with fail
    refine HN.out.mono ?_
    rintro e w1 ⟨rfl, h1⟩
    obtain ⟨A1, c1, ha1⟩ := h1.at_
    dsimp only at ha1
    go_wp2_with fail
    refine (failR_any eb Z A1 c1 l' f' 13 w1 ha1).mono ?_
    rintro e w2 ⟨rfl, h2⟩
    go_wp2_with fail
    go_ret
    exact ⟨rfl, h1.trans h2⟩


/-- a text is read -/
def textS (l : List UInt8) (f most : Int) : List UInt8 × List UInt8 × Int :=
  let r := intS l f most
  if r.2.2 ≠ 0 then ([], r.2.1, r.2.2) else if r.2.1.length < r.1 then ([], [], 11) else (r.2.1.take r.1, r.2.1.drop r.1, 0)

set_option maxHeartbeats 400000 in
theorem text_any (eb : Nat) (Z : Nat → Prop) (A : Option Addr) (c : Nat) (l : List UInt8) (f most : Int) (w : World) (h : EyeAt w 132 eb Z A c l f) (hz : ¬ Z eb) (hm : most < 9223372036854775808) (hl : l.length ≤ 140737488355328) :
    Calls Try.prog 89 #[.pointer (some ⟨eb, 0, none⟩), .int .i64 most] w fun e w' => ∃ (A' : Option Addr) (c' : Nat) (l' : List UInt8), e = .returned (.slice A' l'.length c') ∧ Hid (l' = (textS l f most).1) ∧ OwB w' w.heap.size (.slice A' l'.length c') l' ∧ EyeTo w 132 eb Z (textS l f most).2.1 (textS l f most).2.2 w' := by
  have hn := int_any eb Z A c l f most w h hz hm
  have HN := Lib.hid hn
  have hil := intS_len l f most
  clear hn
  unfold textS
  generalize intS l f most = r at *
  obtain ⟨n, l1, f1⟩ := r
  dsimp only at *
  by_cases hf : f1 = 0
  · subst hf
    by_cases hlt : l1.length < n
    · rw [if_neg (by simp), if_pos hlt]
      go_enter Try.func89, Try.ntmps89
      go_wp2_with fail
      refine HN.out.mono ?_
      rintro e w1 ⟨rfl, h1⟩
      obtain ⟨A1, c1, ha1⟩ := h1.at_
      have k1 := ha1.c1
      dsimp only at ha1 k1
      go_wp2_with fail
      refine (take_out eb Z A1 c1 l1 n w1 ha1 hlt).mono ?_
      rintro e w2 ⟨rfl, h2⟩
      go_wp2_with fail
      refine (clone_any none 0 [] (fun _ => True) w2 Rd.nil (by simp)).mono ?_
      rintro e w3 ⟨A3, c3, l3, rfl, hl3, ho3, hb3⟩
      go_wp2_with fail
      go_ret
      exact ⟨A3, c3, l3, rfl, hl3, own_base ho3 (fun g hg => Nat.le_trans (Nat.le_trans h1.fr.size h2.fr.size) (ho3.lt _ hg).1), (h1.trans h2).then_ hb3⟩
    · rw [if_neg (by simp), if_neg hlt]
      go_enter Try.func89, Try.ntmps89
      go_wp2_with fail
      refine HN.out.mono ?_
      rintro e w1 ⟨rfl, h1⟩
      obtain ⟨A1, c1, ha1⟩ := h1.at_
      have k1 := ha1.c1
      dsimp only at ha1 k1
      go_wp2_with fail
      refine (take_in eb Z A1 c1 l1 0 n w1 ha1 hz (by omega)).mono ?_
      rintro e w2 ⟨c2, rfl, hc2, hm2, h2⟩
      have hD : Rd w2 Z 1 A1 n ((l1.take n).map bv) := by
        have := (Rd.take ha1.2.1 (k := n) (by omega)).fr h2.fr (by rintro b _ hb rfl; exact hz hb)
        rw [Nat.mul_one, ← List.map_take] at this
        exact this
      have hDn : n = (l1.take n).length := by rw [List.length_take]; omega
      have HDn := Lib.hid hDn
      clear hDn
      go_wp2_with fail
      refine (clone_n A1 c2 n (l1.take n) _ w2 hD HDn.out (by rw [← HDn.out]; omega)).mono ?_
      rintro e w3 ⟨A3, c3, l3, rfl, hl3, ho3, hb3⟩
      go_wp2_with fail
      go_ret
      exact ⟨A3, c3, l3, rfl, hl3, own_base ho3 (fun g hg => Nat.le_trans (Nat.le_trans h1.fr.size h2.fr.size) (ho3.lt _ hg).1), (h1.trans h2).then_ hb3⟩
  · rw [if_pos hf]
    have hfb : (f1 != 0) = true := by simpa using hf
    go_enter Try.func89, Try.ntmps89
    go_wp2_with fail
    refine HN.out.mono ?_
    rintro e w1 ⟨rfl, h1⟩
    obtain ⟨A1, c1, ha1⟩ := h1.at_
    have k1 := ha1.c1
    dsimp only at ha1 k1
    go_wp2_with fail
    go_ret
    exact ⟨none, 0, [], rfl, rfl, OwB.nil _ _, h1⟩

set_option maxHeartbeats 400000 in
theorem textR_any (eb : Nat) (Z : Nat → Prop) (A : Option Addr) (c : Nat) (l : List UInt8) (f most : Int) (w : World) (h : EyeAt w 109 eb Z A c l f) (hz : ¬ Z eb) (hm : most < 9223372036854775808) :
    Calls Try.prog 69 #[.pointer (some ⟨eb, 0, none⟩), .int .i64 most] w fun e w' => ∃ (A' : Option Addr) (n' c' : Nat), e = .returned (.slice A' n' c') ∧ Hid (n' = (textS l f most).1.length) ∧ Rd w' Z 1 A' n' ((textS l f most).1.map bv) ∧ n' ≤ c' ∧ c' ≤ maxLen ∧ EyeTo w 109 eb Z (textS l f most).2.1 (textS l f most).2.2 w' := by
  have hn := intR_any eb Z A c l f most w h hz hm
  have HN := Lib.hid hn
  clear hn
  unfold textS
  generalize intS l f most = r at *
  obtain ⟨n, l1, f1⟩ := r
  dsimp only at *
  by_cases hf : f1 = 0
  · subst hf
    by_cases hlt : l1.length < n
    · rw [if_neg (by simp), if_pos hlt]
      go_enter Try.func69, Try.ntmps69
      go_wp2_with fail
      refine HN.out.mono ?_
      rintro e w1 ⟨rfl, h1⟩
      obtain ⟨A1, c1, ha1⟩ := h1.at_
      have k1 := ha1.c1
      have k0 := ha1.c0
      dsimp only at ha1 k1 k0
      go_wp2_with fail
      refine (failR_any eb Z A1 c1 l1 0 11 w1 ha1).mono ?_
      rintro e w2 ⟨rfl, h2⟩
      go_wp2_with fail
      go_ret
      exact ⟨none, 0, 0, rfl, rfl, Rd.nil, Nat.le_refl _, by simp [maxLen], h1.trans h2⟩
    · rw [if_neg (by simp), if_neg hlt]
      go_enter Try.func69, Try.ntmps69
      go_wp2_with fail
      refine HN.out.mono ?_
      rintro e w1 ⟨rfl, h1⟩
      obtain ⟨A1, c1, ha1⟩ := h1.at_
      have k1 := ha1.c1
      have k0 := ha1.c0
      have f0 := ha1.f0
      have hbd := ha1.bounds
      dsimp only at ha1 k1 k0 hbd
      have hcut := ha1.cut (n := n) (by omega) hz
      have hD : ∀ w2, EyeTo w1 109 eb Z (l1.drop n) 0 w2 → Rd w2 Z 1 A1 n ((l1.take n).map bv) := by
        intro w2 h2
        have := (Rd.take ha1.2.1 (k := n) (by omega)).fr h2.fr (by rintro b _ hb rfl; exact hz hb)
        rw [Nat.mul_one, ← List.map_take] at this
        exact this
      have HD := Lib.hid hD
      clear hD
      have hDn : n = (l1.take n).length := by rw [List.length_take]; omega
      have HDn := Lib.hid hDn
      clear hDn
      have hm2 : maxLen = 9223372036854775807 := rfl
      have HM := Lib.hid hm2
      clear hm2
      by_cases hcc : c1 = n
      · subst hcc
        rw [if_pos rfl, Nat.sub_self, show l1.length - c1 = 0 by omega] at hcut
        go_wp2_with fail
        go_ret
        exact ⟨A1, c1, c1, rfl, HDn, HD.out _ hcut, Nat.le_refl _, by rw [HM.out]; omega, h1.trans hcut⟩
      · rw [if_neg hcc] at hcut
        go_wp2_with fail
        go_ret
        exact ⟨A1, n, c1, rfl, HDn, HD.out _ hcut, by omega, by rw [HM.out]; omega, h1.trans hcut⟩
  · rw [if_pos hf]
    have hfb : (f1 != 0) = true := by simpa using hf
    go_enter Try.func69, Try.ntmps69
    go_wp2_with fail
    refine HN.out.mono ?_
    rintro e w1 ⟨rfl, h1⟩
    obtain ⟨A1, c1, ha1⟩ := h1.at_
    have k1 := ha1.c1
    dsimp only at ha1 k1
    go_wp2_with fail
    go_ret
    exact ⟨none, 0, 0, rfl, rfl, Rd.nil, Nat.le_refl _, by simp [maxLen], h1⟩
end Go.Proofs.Ytpbgcbpofhbgbaa

/- Two eyes on the same bytes: grain's and the document's. -/
namespace Go.Proofs.Ytpbgcbpofhbgbaa
open Go.RowKit

/-- two eyes on old bytes, apart; below all is as in w0 -/
structure TwoE (w0 w : World) (e1 e2 : Nat) (L1 : List UInt8) (f1 : Int) (L2 : List UInt8) (f2 : Int) : Prop where
  a : ∃ A c, EyeAt w 132 e1 (fun b => b < w0.heap.size) A c L1 f1
  b : ∃ A c, EyeAt w 109 e2 (fun b => b < w0.heap.size) A c L2 f2
  low : Below w0.heap.size w0 w
  h1 : w0.heap.size ≤ e1
  h2 : w0.heap.size ≤ e2
  ne : e1 ≠ e2
  bs : w0.heap.size ≤ w.heap.size

theorem TwoE.mem {w0 w w' : World} {e1 e2 : Nat} {L1 L2 : List UInt8} {f1 f2 : Int} (h : TwoE w0 w e1 e2 L1 f1 L2 f2) (k : Below w.heap.size w w') : TwoE w0 w' e1 e2 L1 f1 L2 f2 := by
  obtain ⟨A, c, ha⟩ := h.a
  obtain ⟨B, d, hb⟩ := h.b
  exact ⟨⟨A, c, ha.below k⟩, ⟨B, d, hb.below k⟩, h.low.trans (k.mono h.bs), h.h1, h.h2, h.ne, Nat.le_trans h.bs k.size⟩
theorem TwoE.left {w0 w w' : World} {e1 e2 : Nat} {L1 L2 L : List UInt8} {f1 f2 f : Int} (h : TwoE w0 w e1 e2 L1 f1 L2 f2) (k : EyeTo w 132 e1 (fun b => b < w0.heap.size) L f w') : TwoE w0 w' e1 e2 L f L2 f2 := by
  obtain ⟨B, d, hb⟩ := h.b
  exact ⟨k.at_, ⟨B, d, hb.fr k.fr (fun e => h.ne e.symm) (fun b _ hz e => by have := h.h1; omega)⟩, h.low.trans (k.fr.below h.bs (fun x hx e => by have := h.h1; omega)), h.h1, h.h2, h.ne, Nat.le_trans h.bs k.fr.size⟩
theorem TwoE.right {w0 w w' : World} {e1 e2 : Nat} {L1 L2 L : List UInt8} {f1 f2 f : Int} (h : TwoE w0 w e1 e2 L1 f1 L2 f2) (k : EyeTo w 109 e2 (fun b => b < w0.heap.size) L f w') : TwoE w0 w' e1 e2 L1 f1 L f := by
  obtain ⟨B, d, hb⟩ := h.a
  exact ⟨⟨B, d, hb.fr k.fr h.ne (fun b _ hz e => by have := h.h2; omega)⟩, k.at_, h.low.trans (k.fr.below h.bs (fun x hx e => by have := h.h2; omega)), h.h1, h.h2, h.ne, Nat.le_trans h.bs k.fr.size⟩
theorem TwoE.z1 {w0 w : World} {e1 e2 : Nat} {L1 L2 : List UInt8} {f1 f2 : Int} (h : TwoE w0 w e1 e2 L1 f1 L2 f2) : ¬ (fun b => b < w0.heap.size) e1 := by have := h.h1; simp; omega
theorem TwoE.z2 {w0 w : World} {e1 e2 : Nat} {L1 L2 : List UInt8} {f1 f2 : Int} (h : TwoE w0 w e1 e2 L1 f1 L2 f2) : ¬ (fun b => b < w0.heap.size) e2 := by have := h.h2; simp; omega
theorem TwoE.drew {w0 w : World} {e1 e2 : Nat} {L1 L2 : List UInt8} {f1 f2 : Int} (h : TwoE w0 w e1 e2 L1 f1 L2 f2) : TwoE w0 w.drew e1 e2 L1 f1 L2 f2 := h.mem (Below.refl _ _).drew

theorem keep1 {w' w3 : World} {T eb bx o : Nat} {Z : Nat → Prop} {l : List UInt8} {f : Int} {u : Value} (hS : w'.cell? ⟨bx, o, none⟩ = some u) (h : EyeTo w' T eb Z l f w3) (hne : bx ≠ eb) : w3.cell? ⟨bx, o, none⟩ = some u :=
  (h.fr.cell (p := ⟨bx, o, none⟩) (World.block_lt_of_cell? w' ⟨bx, o, none⟩ hS) hne).trans hS

theorem sameN_any (A B : Option Addr) (c d : Nat) (l m : List UInt8) (n : Nat) (Z Z' : Nat → Prop) (w : World) (hl : By w Z A l) (hm : Rd w Z' 1 B n (m.map bv)) (hn : n = m.length) :
    Calls Try.prog 14 #[.slice A l.length c, .slice B n d] w fun e w' => e = .returned (.bool (l == m)) ∧ w = w' := by
  subst hn
  exact refSame_any A B c d l m Z Z' w hl hm
theorem textS_len (l : List UInt8) (f most : Int) : (textS l f most).2.1.length ≤ l.length := by
  have h := intS_len l f most
  unfold textS
  dsimp only
  split
  · exact h
  · split
    · exact Nat.zero_le _
    · simp; omega

theorem hB2 {W w' : World} {a : Addr} {u : Value} (hS : w'.cell? a = some u ∧ Below W.heap.size W w') : Below W.heap.size W w' := hS.2

theorem EyeAt.mono {w : World} {T eb : Nat} {Z Z' : Nat → Prop} {A : Option Addr} {c : Nat} {l : List UInt8} {f : Int} (h : EyeAt w T eb Z A c l f) (hz : ∀ b, b < w.heap.size → Z b → Z' b) : EyeAt w T eb Z' A c l f := ⟨h.1, h.2.1.mono hz, h.2.2⟩
theorem EyeTo.mono {w w' : World} {T eb : Nat} {Z Z' : Nat → Prop} {l : List UInt8} {f : Int} (h : EyeTo w T eb Z l f w') (hz : ∀ b, Z b → Z' b) : EyeTo w T eb Z' l f w' := by
  obtain ⟨A, c, ha⟩ := h.at_
  exact ⟨⟨A, c, ha.mono (fun b _ hb => hz b hb)⟩, h.fr⟩
/-- a store into a new block beside an eye -/
theorem EyeTo.side {a b c : World} {T eb bx : Nat} {Z : Nat → Prop} {l : List UInt8} {f : Int} (h : EyeTo a T eb Z l f b) (k : Fr (fun x => x = bx) b c) (hb : a.heap.size ≤ bx) (h1 : bx ≠ eb) (hz : ∀ x, Z x → x ≠ bx) : EyeTo a T eb Z l f c := by
  obtain ⟨A, c', ha⟩ := h.at_
  exact ⟨⟨A, c', ha.fr k (fun e => h1 e.symm) (fun x _ hx => hz x hx)⟩, h.fr.trans k (fun x hx e => by omega)⟩
/-- new memory ahead of an eye's method -/
theorem EyeTo.after {a b c : World} {T eb : Nat} {Z : Nat → Prop} {l : List UInt8} {f : Int} (k : Below a.heap.size a b) (h : EyeTo b T eb Z l f c) : EyeTo a T eb Z l f c :=
  ⟨h.at_, (Fr.of_below k _).trans h.fr (fun _ _ h => h)⟩
end Go.Proofs.Ytpbgcbpofhbgbaa

/- script.read's lists: what crashes keep, and choices. -/
namespace Go.Proofs.Ytpbgcbpofhbgbaa
open Go.RowKit

theorem intS_le (l : List UInt8) (f : Int) (most : Nat) : (intS l f (most : Int)).1 ≤ most := by
  unfold intS
  rw [if_pos (by omega), Int.toNat_natCast]
  exact readS_le _ _ _
theorem textS_tl (l : List UInt8) (f most : Int) : (textS l f most).1.length ≤ l.length := by
  have h := intS_len l f most
  unfold textS
  dsimp only
  split
  · simp
  · split
    · simp
    · simp only [List.length_take]; omega
/-- what a crash keeps, a choice: read -/
def keepS (l : List UInt8) (f : Int) : KV × List UInt8 × Int :=
  (⟨((intS l f 1048576).1 : Int), ((intS (intS l f 1048576).2.1 (intS l f 1048576).2.2 1048576).1 : Int)⟩, (intS (intS l f 1048576).2.1 (intS l f 1048576).2.2 1048576).2)
def choS (l : List UInt8) (f : Int) : HW × List UInt8 × Int :=
  (⟨⟨(textS l f 96).1.toArray⟩, ((intS (textS l f 96).2.1 (textS l f 96).2.2 2).1 : Int)⟩, (intS (textS l f 96).2.1 (textS l f 96).2.2 2).2)
theorem keepS_len (l : List UInt8) (f : Int) : (keepS l f).2.1.length ≤ l.length := Nat.le_trans (intS_len _ _ _) (intS_len _ _ _)
theorem choS_len (l : List UInt8) (f : Int) : (choS l f).2.1.length ≤ l.length := Nat.le_trans (intS_len _ _ _) (textS_len _ _ _)
/-- so many of them -/
def listN {α : Type} (one : List UInt8 → Int → α × List UInt8 × Int) : Nat → List UInt8 → Int → List α × List UInt8 × Int
  | 0, l, f => ([], l, f)
  | n + 1, l, f => if f = 0 then ((one l f).1 :: (listN one n (one l f).2.1 (one l f).2.2).1, (listN one n (one l f).2.1 (one l f).2.2).2) else ([], l, f)
theorem listN_bad {α : Type} {one : List UInt8 → Int → α × List UInt8 × Int} {n : Nat} {l : List UInt8} {f : Int} (h : f ≠ 0) : listN one n l f = ([], l, f) := by
  cases n
  · rfl
  · rw [listN, if_neg h]
theorem listN_ok {α : Type} {one : List UInt8 → Int → α × List UInt8 × Int} {n : Nat} {l : List UInt8} : listN one (n + 1) l 0 = ((one l 0).1 :: (listN one n (one l 0).2.1 (one l 0).2.2).1, (listN one n (one l 0).2.1 (one l 0).2.2).2) := by rw [listN, if_pos rfl]
def listS {α : Type} (one : List UInt8 → Int → α × List UInt8 × Int) (l : List UInt8) (f : Int) : List α × List UInt8 × Int :=
  listN one (intS l f 8).1 (intS l f 8).2.1 (intS l f 8).2.2
theorem listN_len {α : Type} {one : List UInt8 → Int → α × List UInt8 × Int} (h1 : ∀ l f, (one l f).2.1.length ≤ l.length) : ∀ (n : Nat) (l : List UInt8) (f : Int), (listN one n l f).1.length ≤ n ∧ (listN one n l f).2.1.length ≤ l.length
  | 0, l, f => ⟨Nat.le_refl _, Nat.le_refl _⟩
  | n + 1, l, f => by
    rw [listN]
    split
    · have h2 := listN_len h1 n (one l f).2.1 (one l f).2.2
      have h3 := h1 l f
      exact ⟨by simp; omega, by dsimp only; omega⟩
    · exact ⟨by simp, Nat.le_refl _⟩
theorem listN_all {α : Type} {one : List UInt8 → Int → α × List UInt8 × Int} {P : α → Prop} {K : Nat} (h1 : ∀ l f, l.length ≤ K → P (one l f).1) (h2 : ∀ l f, (one l f).2.1.length ≤ l.length) : ∀ (n : Nat) (l : List UInt8) (f : Int), l.length ≤ K → ∀ a ∈ (listN one n l f).1, P a
  | 0, l, f, _, a, h => by simp [listN] at h
  | n + 1, l, f, hl, a, h => by
    rw [listN] at h
    split at h
    · rcases List.mem_cons.1 h with rfl | h
      · exact h1 _ _ hl
      · exact listN_all h1 h2 n _ _ (Nat.le_trans (h2 _ _) hl) a h
    · simp at h
/-- a box of the call's own, one cell stored -/
theorem box_set {w w1 : World} {T eb bx t o : Nat} {Y : Nat → Prop} {L : List UInt8} {f : Int} {cs : Array Value} (ht : EyeTo w T eb Y L f w1) (hb : Blk w1 bx t cs) (h1 : w.heap.size ≤ bx) (h2 : bx ≠ eb) (h3 : ∀ x, Y x → x ≠ bx) (u : Value) :
    EyeTo w T eb Y L f (w1.setCell ⟨bx, o, none⟩ u) ∧ Blk (w1.setCell ⟨bx, o, none⟩ u) bx t (cs.setIfInBounds o u) ∧ Fr (fun x => x = bx) w1 (w1.setCell ⟨bx, o, none⟩ u) :=
  have k : Fr (fun x => x = bx) w1 (w1.setCell ⟨bx, o, none⟩ u) := (Fr.refl (fun x => x = bx) w1).setAt bx o rfl _
  ⟨ht.side k h1 h2 h3, hb.set_ o u, k⟩

set_option maxRecDepth 100000 in
set_option maxHeartbeats 1000000 in
theorem read1_any (eb tb : Nat) (Z : Nat → Prop) (A : Option Addr) (c : Nat) (l : List UInt8) (f : Int) (w : World) (h : EyeAt w 132 eb Z A c l f) (hZ : ∀ b, Z b → b < eb) (ht : w.cell? ⟨tb, 0, none⟩ = some (.pointer (some ⟨eb, 0, none⟩))) (hne : tb ≠ eb) (hl : l.length ≤ 140737488355328) :
    Calls Try.prog 91 #[.pointer (some ⟨tb, 0, none⟩)] w fun e w' => e = .returned (.agg #[.int .i64 (keepS l f).1.f, .int .i64 (keepS l f).1.b]) ∧ EyeTo w 132 eb Z (keepS l f).2.1 (keepS l f).2.2 w' := by
  have hz : ¬ Z eb := fun h => by have := hZ _ h; omega
  have hlt := h.1.lt
  have htl := World.block_lt_of_cell? w ⟨tb, 0, none⟩ ht
  simp only at htl
  obtain ⟨n1, L1, f1, e1⟩ : ∃ n1 L1 f1, intS l f 1048576 = (n1, L1, f1) := ⟨_, _, _, rfl⟩
  obtain ⟨n2, L2, f2, e2⟩ : ∃ n2 L2 f2, intS L1 f1 1048576 = (n2, L2, f2) := ⟨_, _, _, rfl⟩
  have hk : keepS l f = (⟨(n1 : Int), (n2 : Int)⟩, L2, f2) := by unfold keepS; rw [e1]; dsimp only; rw [e2]
  rw [hk]
  clear hk
  have H1 := Lib.hid (fun W A c h => int_any eb Z A c l f 1048576 W h hz (by omega))
  have H2 := Lib.hid (fun W A c h => int_any eb Z A c L1 f1 1048576 W h hz (by omega))
  rw [e1] at H1
  rw [e2] at H2
  clear e1 e2
  have bx0 := Blk.new w 91 #[.int .i64 0, .int .i64 0]
  have hlow0 : Below w.heap.size w (w.alloc (.cells #[.int .i64 0, .int .i64 0] 91)) := (by repeat (first | exact Below.refl _ _ | refine Below.alloc ?_ (by simp) _ | refine Below.setCell ?_ (by simp) _ | refine Below.drew ?_))
  have hnt : ¬ w.heap.size = tb := by omega
  have hnt2 : ¬ tb = w.heap.size := by omega
  have hzw : ∀ x, Z x → x ≠ w.heap.size := fun x hx e => by have := hZ x hx; omega
  go_enter Try.func91, Try.ntmps91
  go_wp2_with fail
  refine (H1.out _ A c (h.below hlow0)).mono ?_
  rintro e w1 ⟨rfl, h1⟩
  have bx1 := bx0.fr h1.fr (by omega)
  have q0 : w1.cell? ⟨w.heap.size, 0, none⟩ = some (.int .i64 0) := bx1.cell 0
  have z0 := bx1.frozen 0
  have u1 := keep1 (cellAt hlow0 htl ht) h1 hne
  go_wp2_with fail
  have ht1 := EyeTo.after hlow0 h1
  obtain ⟨ht2, bx2, hf2⟩ := box_set (o := 0) ht1 bx1 (Nat.le_refl _) (by omega) hzw (.int .i64 (n1 : Int))
  have u2 : (w1.setCell ⟨w.heap.size, 0, none⟩ (.int .i64 (n1 : Int))).cell? ⟨tb, 0, none⟩ = some (.pointer (some ⟨eb, 0, none⟩)) := (hf2.cell (p := ⟨tb, 0, none⟩) (World.block_lt_of_cell? _ _ u1) (by simpa using hnt2)).trans u1
  generalize w1.setCell ⟨w.heap.size, 0, none⟩ (.int .i64 (n1 : Int)) = W2 at *
  obtain ⟨A2, c2, ha2⟩ := ht2.at_
  refine (H2.out _ A2 c2 ha2).mono ?_
  rintro e w3 ⟨rfl, h3⟩
  have bx3 := bx2.fr h3.fr (by omega)
  have p0 := bx3.cell 0
  have p1 := bx3.cell 1
  simp at p0 p1
  have y0 := bx3.frozen 0
  have y1 := bx3.frozen 1
  go_wp2_with fail
  have bv := ((bx3.set_ 1 (.int .i64 (n2 : Int))).set_ 0 (.int .i64 (n1 : Int))).set_ 1 (.int .i64 (n2 : Int))
  simp only [List.setIfInBounds_toArray, List.set_cons_zero, List.set_cons_succ] at bv
  have fv := (((Fr.refl (fun x => x = w.heap.size) w3).setAt w.heap.size 1 rfl (.int .i64 (n2 : Int))).setAt w.heap.size 0 rfl (.int .i64 (n1 : Int))).setAt w.heap.size 1 rfl (.int .i64 (n2 : Int))
  have ht4 := (ht2.trans h3).side fv (Nat.le_refl _) (by omega) hzw
  generalize ((w3.setCell ⟨w.heap.size, 1, none⟩ (.int .i64 (n2 : Int))).setCell ⟨w.heap.size, 0, none⟩ (.int .i64 (n1 : Int))).setCell ⟨w.heap.size, 1, none⟩ (.int .i64 (n2 : Int)) = V at *
  have d0 : V.cell? ⟨w.heap.size, 0, none⟩ = some (.int .i64 (n1 : Int)) := bv.cell 0
  have d1 : V.cell? ⟨w.heap.size, 1, none⟩ = some (.int .i64 (n2 : Int)) := bv.cell 1
  refine bodyPost_ret (v := .agg #[.int .i64 (n1 : Int), .int .i64 (n2 : Int)]) (by simp [results, Try.results91, go_sem, d0, d1]) rfl ?_
  exact ⟨rfl, ht4⟩
set_option maxRecDepth 100000 in
set_option maxHeartbeats 1000000 in
theorem read2_any (eb tb : Nat) (Z : Nat → Prop) (A : Option Addr) (c : Nat) (l : List UInt8) (f : Int) (w : World) (h : EyeAt w 132 eb Z A c l f) (hZ : ∀ b, Z b → b < eb) (ht : w.cell? ⟨tb, 0, none⟩ = some (.pointer (some ⟨eb, 0, none⟩))) (hne : tb ≠ eb) (hl : l.length ≤ 140737488355328) :
    Calls Try.prog 93 #[.pointer (some ⟨tb, 0, none⟩)] w fun e w' => e = .returned (.agg #[.string (choS l f).1.p, .int .i64 (choS l f).1.w]) ∧ EyeTo w 132 eb Z (choS l f).2.1 (choS l f).2.2 w' := by
  have hz : ¬ Z eb := fun h => by have := hZ _ h; omega
  have hlt := h.1.lt
  have htl := World.block_lt_of_cell? w ⟨tb, 0, none⟩ ht
  simp only at htl
  obtain ⟨n1, L1, f1, e1⟩ : ∃ n1 L1 f1, textS l f 96 = (n1, L1, f1) := ⟨_, _, _, rfl⟩
  obtain ⟨n2, L2, f2, e2⟩ : ∃ n2 L2 f2, intS L1 f1 2 = (n2, L2, f2) := ⟨_, _, _, rfl⟩
  have hk : choS l f = (⟨⟨n1.toArray⟩, (n2 : Int)⟩, L2, f2) := by unfold choS; rw [e1]; dsimp only; rw [e2]
  rw [hk]
  clear hk
  have hn1 := textS_tl l f 96
  have hl1 := textS_len l f 96
  rw [e1] at hn1 hl1
  dsimp only at hn1 hl1
  have H1 := Lib.hid (fun W A c h => text_any eb Z A c l f 96 W h hz (by omega) (by omega))
  have H2 := Lib.hid (fun W A c h => int_any eb Z A c L1 f1 2 W h hz (by omega))
  rw [e1] at H1
  rw [e2] at H2
  clear e1 e2
  have bx0 := Blk.new w 95 #[.string ⟨#[]⟩, .int .i64 0]
  have hlow0 : Below w.heap.size w (w.alloc (.cells #[.string ⟨#[]⟩, .int .i64 0] 95)) := (by repeat (first | exact Below.refl _ _ | refine Below.alloc ?_ (by simp) _ | refine Below.setCell ?_ (by simp) _ | refine Below.drew ?_))
  have hnt : ¬ w.heap.size = tb := by omega
  have hnt2 : ¬ tb = w.heap.size := by omega
  have hzw : ∀ x, Z x → x ≠ w.heap.size := fun x hx e => by have := hZ x hx; omega
  go_enter Try.func93, Try.ntmps93
  go_wp2_with fail
  refine (H1.out _ A c (h.below hlow0)).mono ?_
  rintro e w1 ⟨A1, c1, t1, rfl, ht1, ho1, h1⟩
  obtain rfl := ht1.out
  have k1 := conv_by ho1.rd c1
  have hsm : t1.length ≤ 140737488355328 := by omega
  have bx1 := bx0.fr h1.fr (by omega)
  have q0 : w1.cell? ⟨w.heap.size, 0, none⟩ = some (.string ⟨#[]⟩) := bx1.cell 0
  have z0 := bx1.frozen 0
  have u1 := keep1 (cellAt hlow0 htl ht) h1 hne
  go_wp2_with fail
  have ht1 := EyeTo.after hlow0 h1
  obtain ⟨ht2, bx2, hf2⟩ := box_set (o := 0) ht1 bx1 (Nat.le_refl _) (by omega) hzw (.string ⟨t1.toArray⟩)
  have u2 : (w1.setCell ⟨w.heap.size, 0, none⟩ (.string ⟨t1.toArray⟩)).cell? ⟨tb, 0, none⟩ = some (.pointer (some ⟨eb, 0, none⟩)) := (hf2.cell (p := ⟨tb, 0, none⟩) (World.block_lt_of_cell? _ _ u1) (by simpa using hnt2)).trans u1
  generalize w1.setCell ⟨w.heap.size, 0, none⟩ (.string ⟨t1.toArray⟩) = W2 at *
  obtain ⟨A2, c2, ha2⟩ := ht2.at_
  refine (H2.out _ A2 c2 ha2).mono ?_
  rintro e w3 ⟨rfl, h3⟩
  have bx3 := bx2.fr h3.fr (by omega)
  have p0 := bx3.cell 0
  have p1 := bx3.cell 1
  simp at p0 p1
  have y0 := bx3.frozen 0
  have y1 := bx3.frozen 1
  go_wp2_with fail
  have bv := ((bx3.set_ 1 (.int .i64 (n2 : Int))).set_ 0 (.string ⟨t1.toArray⟩)).set_ 1 (.int .i64 (n2 : Int))
  simp only [List.setIfInBounds_toArray, List.set_cons_zero, List.set_cons_succ] at bv
  have fv := (((Fr.refl (fun x => x = w.heap.size) w3).setAt w.heap.size 1 rfl (.int .i64 (n2 : Int))).setAt w.heap.size 0 rfl (.string ⟨t1.toArray⟩)).setAt w.heap.size 1 rfl (.int .i64 (n2 : Int))
  have ht4 := (ht2.trans h3).side fv (Nat.le_refl _) (by omega) hzw
  generalize ((w3.setCell ⟨w.heap.size, 1, none⟩ (.int .i64 (n2 : Int))).setCell ⟨w.heap.size, 0, none⟩ (.string ⟨t1.toArray⟩)).setCell ⟨w.heap.size, 1, none⟩ (.int .i64 (n2 : Int)) = V at *
  have d0 : V.cell? ⟨w.heap.size, 0, none⟩ = some (.string ⟨t1.toArray⟩) := bv.cell 0
  have d1 : V.cell? ⟨w.heap.size, 1, none⟩ = some (.int .i64 (n2 : Int)) := bv.cell 1
  refine bodyPost_ret (v := .agg #[.string ⟨t1.toArray⟩, .int .i64 (n2 : Int)]) (by simp [results, Try.results93, go_sem, d0, d1]) rfl ?_
  exact ⟨rfl, ht4⟩
end Go.Proofs.Ytpbgcbpofhbgbaa

/- script.list: what crashes keep, and choices, as many as it says. -/
namespace Go.Proofs.Ytpbgcbpofhbgbaa
open Go.RowKit

theorem EyeTo.row {a b c : World} {T eb : Nat} {Z : Nat → Prop} {l : List UInt8} {f : Int} {B : Option Nat} (h : EyeTo a T eb Z l f b) (k : Fr (fun x => B = some x) b c) (hB : ∀ x, B = some x → a.heap.size ≤ x) (he : eb < a.heap.size) (hz : ∀ x, Z x → x < a.heap.size) : EyeTo a T eb Z l f c := by
  obtain ⟨A, c', ha⟩ := h.at_
  exact ⟨⟨A, c', ha.fr k (fun e => by have := hB _ e; omega) (fun x _ hx e => by have := hB _ e; have := hz x hx; omega)⟩, h.fr.trans k (fun x hx e => by have := hB _ e; omega)⟩
theorem kv_one (l : List KV) : ∀ u ∈ l.flatMap KV.cells, u.oneCell' = true := by
  intro u hu
  obtain ⟨x, _, hx⟩ := List.mem_flatMap.1 hu
  simp only [KV.cells, List.mem_cons, List.not_mem_nil, or_false] at hx
  rcases hx with rfl | rfl <;> rfl
theorem hw_one (l : List HW) : ∀ u ∈ l.flatMap HW.cells, u.oneCell' = true := by
  intro u hu
  obtain ⟨x, _, hx⟩ := List.mem_flatMap.1 hu
  simp only [HW.cells, List.mem_cons, List.not_mem_nil, or_false] at hx
  rcases hx with rfl | rfl <;> rfl
theorem kv_info : (Try.prog.info? 91).map (fun i => (i.zero, i.size, i.bytes)) = some (some (.agg #[.int .i64 0, .int .i64 0]), 2, 16) := by kernel_rfl
theorem hw_info : (Try.prog.info? 95).map (fun i => (i.zero, i.size, i.bytes)) = some (some (.agg #[.string ⟨#[]⟩, .int .i64 0]), 2, 24) := by kernel_rfl
def slLen : Value → Nat | .slice _ n _ => n | _ => 0


set_option maxRecDepth 100000 in
set_option maxHeartbeats 1000000 in
theorem list1_any (eb tb : Nat) (Z : Nat → Prop) (A : Option Addr) (c : Nat) (l : List UInt8) (f : Int) (w : World) (h : EyeAt w 132 eb Z A c l f) (hZ : ∀ b, Z b → b < eb) (ht : w.cell? ⟨tb, 0, none⟩ = some (.pointer (some ⟨eb, 0, none⟩))) (hne : tb ≠ eb) (hl : l.length ≤ 140737488355328) :
    Calls Try.prog 90 #[.pointer (some ⟨eb, 0, none⟩), .func (.func 91) #[] #[.pointer (some ⟨tb, 0, none⟩)]] w fun e w' => ∃ (B : Option Addr) (d : Nat) (s : List KV), e = .returned (.slice B s.length d) ∧ Hid (s = (listS keepS l f).1) ∧ Rd w' (fun b => w.heap.size ≤ b) 2 B s.length (s.flatMap KV.cells) ∧ EyeTo w 132 eb Z (listS keepS l f).2.1 (listS keepS l f).2.2 w' := by
  have hz : ¬ Z eb := fun h => by have := hZ _ h; omega
  have hlt := h.1.lt
  have htl := World.block_lt_of_cell? w ⟨tb, 0, none⟩ ht
  simp only at htl
  obtain ⟨R, hR⟩ : ∃ R, R = listS keepS l f := ⟨_, rfl⟩
  rw [← hR]
  have hn8 := intS_le l f 8
  have hl0 := intS_len l f 8
  have H1 := Lib.hid (int_any eb Z A c l f 8 w h hz (by omega))
  unfold listS at hR
  generalize intS l f 8 = r0 at *
  obtain ⟨n0, L0, f0⟩ := r0
  dsimp only at *
  have HR := Lib.hid hR
  clear hR
  obtain ⟨i0, hi0, hz0, hz1, hz2⟩ := info_parts kv_info
  go_enter Try.func90, Try.ntmps90
  go_wp2_with fail
  refine H1.out.mono ?_
  rintro e w1 ⟨rfl, h1⟩
  dsimp only at h1
  clear H1
  go_wp2_with fail
  go_loopw [4, 5] (fun ov nv wr => ∃ (s : List KV) (B : Option Addr) (d j : Nat) (L : List UInt8) (g : Int), ov = .slice B s.length d ∧ nv = .int .i64 (j : Int) ∧ Row wr w.heap.size 91 2 B s.length d (s.flatMap KV.cells) ∧ EyeTo w 132 eb Z L g wr ∧ Hid (listN keepS n0 L0 f0 = (s ++ (listN keepS j L g).1, (listN keepS j L g).2)) ∧ s.length + j ≤ 8 ∧ L.length ≤ l.length) (fun _ nv _ => (intOf nv).toNat)
  case atStart => exact ⟨[], none, 0, n0, L0, f0, rfl, rfl, Row.none_ _ _ _ _, h1, by show _ = _; simp, by simp; omega, hl0⟩
  case round =>
    obtain ⟨s, B, d, j, L, g, rfl, rfl, hrow, hE, hL, hj, hLl⟩ := hrel
    obtain ⟨AE, cE, hA⟩ := hE.at_
    have hBe : ablk B ≠ some eb := hrow.ne_blk hA.1 (by decide)
    have hBl := hrow.lt
    have hsz := hE.fr.size
    rcases j with _ | j
    · have hRe : R = (s, L, g) := by rw [HR.out, hL.out]; simp [listN]
      obtain rfl := hRe
      clear HR hL
      go_wp2_with fail
      go_ret
      exact ⟨B, d, s, rfl, rfl, hrow.rd.mono (fun b _ hb => (hBl b hb).1), hE⟩
    · have HF := Lib.hid (fault_any eb Z AE cE L g wr hA)
      by_cases hg : g = 0
      · subst hg
        have HRD := Lib.hid (read1_any eb tb Z AE cE L 0 wr hA hZ (keep1 ht hE hne) hne (by omega))
        have hkl := keepS_len L 0
        have hL2 : Hid (listN keepS n0 L0 f0 = ((s ++ [(keepS L 0).1]) ++ (listN keepS j (keepS L 0).2.1 (keepS L 0).2.2).1, (listN keepS j (keepS L 0).2.1 (keepS L 0).2.2).2)) := by
          show _ = _
          rw [hL.out, listN_ok]
          simp
        generalize keepS L 0 = r at *
        obtain ⟨x, L2, f2⟩ := r
        dsimp only at *
        clear hL
        go_wp2_with (first | (go_at_call 63; refine HF.out.mono ?_; rintro e w2 ⟨rfl, rfl⟩))
        refine HRD.out.mono ?_
        rintro e w3 ⟨rfl, h3⟩
        have hE3 := hE.trans h3
        have row3 := hrow.fr h3.fr (fun g hg e => hBe (by rw [hg, e]))
        have hs3 := h3.fr.size
        have hone := kv_one [x]
        simp only [List.flatMap_cons, List.flatMap_nil, List.append_nil] at hone
        clear HRD HF h3
        go_wp2_with (at_builtin; refine wpList_append_row _ rfl (.tmp 17) (.tmp 20) 54 rfl w.heap.size 91 i0 _ 2 16 Try.underlying54 hi0 hz0 hz1 hz2 rfl (by omega) rfl (row3.alloc _) rfl (Rd.lit (xs := x.cells) (n := 1) rfl rfl rfl) hone (by simp only [maxLen]; omega) (by omega) (by rw [World.size_alloc]; omega) ?_; intro B4 d4 w4 hrow4 hg4 hat4)
        have fr4 := Fr.of_grown hg4 (S := fun k => ablk B = some k) (fun k _ e => e)
        have hE4 := (hE3.then_ (c := w3.alloc (.cells #[.int .i64 x.f, .int .i64 x.b] 91)) (by repeat (first | exact Below.refl _ _ | refine Below.alloc ?_ (by simp) _ | refine Below.setCell ?_ (by simp) _ | refine Below.drew ?_))).row (B := ablk B) fr4 (fun k e => (hBl k e).1) hlt (fun b hb => by have := hZ b hb; omega)
        go_roundw
        case rel =>
          refine ⟨s ++ [x], B4, d4, j, L2, f2, by simp, by go_num, ?_, hE4, hL2, by simp; omega, by omega⟩
          rw [List.length_append, List.flatMap_append, List.flatMap_cons, List.flatMap_nil, List.append_nil]
          exact hrow4
        case measure => simp [intOf]
      · have hgb : (g == 0) = false := by simpa using hg
        have hRe : R = (s, L, g) := by rw [HR.out, hL.out, listN_bad hg]; simp
        obtain rfl := hRe
        clear HR hL
        go_wp2_with (first | (go_at_call 63; refine HF.out.mono ?_; rintro e w2 ⟨rfl, rfl⟩))
        go_ret
        exact ⟨B, d, s, rfl, rfl, hrow.rd.mono (fun b _ hb => (hBl b hb).1), hE⟩


set_option maxRecDepth 100000 in
set_option maxHeartbeats 1000000 in
theorem list2_any (eb tb : Nat) (Z : Nat → Prop) (A : Option Addr) (c : Nat) (l : List UInt8) (f : Int) (w : World) (h : EyeAt w 132 eb Z A c l f) (hZ : ∀ b, Z b → b < eb) (ht : w.cell? ⟨tb, 0, none⟩ = some (.pointer (some ⟨eb, 0, none⟩))) (hne : tb ≠ eb) (hl : l.length ≤ 140737488355328) :
    Calls Try.prog 92 #[.pointer (some ⟨eb, 0, none⟩), .func (.func 93) #[] #[.pointer (some ⟨tb, 0, none⟩)]] w fun e w' => ∃ (B : Option Addr) (d : Nat) (s : List HW), e = .returned (.slice B s.length d) ∧ Hid (s = (listS choS l f).1) ∧ Rd w' (fun b => w.heap.size ≤ b) 2 B s.length (s.flatMap HW.cells) ∧ EyeTo w 132 eb Z (listS choS l f).2.1 (listS choS l f).2.2 w' := by
  have hz : ¬ Z eb := fun h => by have := hZ _ h; omega
  have hlt := h.1.lt
  have htl := World.block_lt_of_cell? w ⟨tb, 0, none⟩ ht
  simp only at htl
  obtain ⟨R, hR⟩ : ∃ R, R = listS choS l f := ⟨_, rfl⟩
  rw [← hR]
  have hn8 := intS_le l f 8
  have hl0 := intS_len l f 8
  have H1 := Lib.hid (int_any eb Z A c l f 8 w h hz (by omega))
  unfold listS at hR
  generalize intS l f 8 = r0 at *
  obtain ⟨n0, L0, f0⟩ := r0
  dsimp only at *
  have HR := Lib.hid hR
  clear hR
  obtain ⟨i0, hi0, hz0, hz1, hz2⟩ := info_parts hw_info
  go_enter Try.func92, Try.ntmps92
  go_wp2_with fail
  refine H1.out.mono ?_
  rintro e w1 ⟨rfl, h1⟩
  dsimp only at h1
  clear H1
  go_wp2_with fail
  go_loopw [4, 5] (fun ov nv wr => ∃ (s : List HW) (B : Option Addr) (d j : Nat) (L : List UInt8) (g : Int), ov = .slice B s.length d ∧ nv = .int .i64 (j : Int) ∧ Row wr w.heap.size 95 2 B s.length d (s.flatMap HW.cells) ∧ EyeTo w 132 eb Z L g wr ∧ Hid (listN choS n0 L0 f0 = (s ++ (listN choS j L g).1, (listN choS j L g).2)) ∧ s.length + j ≤ 8 ∧ L.length ≤ l.length) (fun _ nv _ => (intOf nv).toNat)
  case atStart => exact ⟨[], none, 0, n0, L0, f0, rfl, rfl, Row.none_ _ _ _ _, h1, by show _ = _; simp, by simp; omega, hl0⟩
  case round =>
    obtain ⟨s, B, d, j, L, g, rfl, rfl, hrow, hE, hL, hj, hLl⟩ := hrel
    obtain ⟨AE, cE, hA⟩ := hE.at_
    have hBe : ablk B ≠ some eb := hrow.ne_blk hA.1 (by decide)
    have hBl := hrow.lt
    have hsz := hE.fr.size
    rcases j with _ | j
    · have hRe : R = (s, L, g) := by rw [HR.out, hL.out]; simp [listN]
      obtain rfl := hRe
      clear HR hL
      go_wp2_with fail
      go_ret
      exact ⟨B, d, s, rfl, rfl, hrow.rd.mono (fun b _ hb => (hBl b hb).1), hE⟩
    · have HF := Lib.hid (fault_any eb Z AE cE L g wr hA)
      by_cases hg : g = 0
      · subst hg
        have HRD := Lib.hid (read2_any eb tb Z AE cE L 0 wr hA hZ (keep1 ht hE hne) hne (by omega))
        have hkl := choS_len L 0
        have hL2 : Hid (listN choS n0 L0 f0 = ((s ++ [(choS L 0).1]) ++ (listN choS j (choS L 0).2.1 (choS L 0).2.2).1, (listN choS j (choS L 0).2.1 (choS L 0).2.2).2)) := by
          show _ = _
          rw [hL.out, listN_ok]
          simp
        generalize choS L 0 = r at *
        obtain ⟨x, L2, f2⟩ := r
        dsimp only at *
        clear hL
        go_wp2_with (first | (go_at_call 63; refine HF.out.mono ?_; rintro e w2 ⟨rfl, rfl⟩))
        refine HRD.out.mono ?_
        rintro e w3 ⟨rfl, h3⟩
        have hE3 := hE.trans h3
        have row3 := hrow.fr h3.fr (fun g hg e => hBe (by rw [hg, e]))
        have hs3 := h3.fr.size
        have hone := hw_one [x]
        simp only [List.flatMap_cons, List.flatMap_nil, List.append_nil] at hone
        clear HRD HF h3
        go_wp2_with (at_builtin; refine wpList_append_row _ rfl (.tmp 17) (.tmp 20) 55 rfl w.heap.size 95 i0 _ 2 24 Try.underlying55 hi0 hz0 hz1 hz2 rfl (by omega) rfl (row3.alloc _) rfl (Rd.lit (xs := x.cells) (n := 1) rfl rfl rfl) hone (by simp only [maxLen]; omega) (by omega) (by rw [World.size_alloc]; omega) ?_; intro B4 d4 w4 hrow4 hg4 hat4)
        have fr4 := Fr.of_grown hg4 (S := fun k => ablk B = some k) (fun k _ e => e)
        have hE4 := (hE3.then_ (c := w3.alloc (.cells #[.string x.p, .int .i64 x.w] 95)) (by repeat (first | exact Below.refl _ _ | refine Below.alloc ?_ (by simp) _ | refine Below.setCell ?_ (by simp) _ | refine Below.drew ?_))).row (B := ablk B) fr4 (fun k e => (hBl k e).1) hlt (fun b hb => by have := hZ b hb; omega)
        go_roundw
        case rel =>
          refine ⟨s ++ [x], B4, d4, j, L2, f2, by simp, by go_num, ?_, hE4, hL2, by simp; omega, by omega⟩
          rw [List.length_append, List.flatMap_append, List.flatMap_cons, List.flatMap_nil, List.append_nil]
          exact hrow4
        case measure => simp [intOf]
      · have hgb : (g == 0) = false := by simpa using hg
        have hRe : R = (s, L, g) := by rw [HR.out, hL.out, listN_bad hg]; simp
        obtain rfl := hRe
        clear HR hL
        go_wp2_with (first | (go_at_call 63; refine HF.out.mono ?_; rintro e w2 ⟨rfl, rfl⟩))
        go_ret
        exact ⟨B, d, s, rfl, rfl, hrow.rd.mono (fun b _ hb => (hBl b hb).1), hE⟩

end Go.Proofs.Ytpbgcbpofhbgbaa
