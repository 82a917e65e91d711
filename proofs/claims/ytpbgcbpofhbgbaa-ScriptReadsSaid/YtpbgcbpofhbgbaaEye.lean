/- grain.Eye: Fail, take. -/
import Derived.Test.YtpbgcbpofhbgbaaEyeMath
import Derived.Test.YtpbgcbpofhbgbaaPen
namespace Go.Proofs.Ytpbgcbpofhbgbaa
open Go.RowKit

/-- The eye at block eb (of struct type T) has the bytes l and the fault f; the bytes lie in Z. -/
def EyeAt (w : World) (T eb : Nat) (Z : Nat → Prop) (A : Option Addr) (c : Nat) (l : List UInt8) (f : Int) : Prop :=
  Blk w eb T #[.slice A l.length c, .int .i64 f] ∧ By w Z A l ∧ l.length ≤ c ∧ c ≤ maxLen
/-- what a method leaves: only the eye has turned -/
structure EyeTo (w : World) (T eb : Nat) (Z : Nat → Prop) (l : List UInt8) (f : Int) (w' : World) : Prop where
  at_ : ∃ A c, EyeAt w' T eb Z A c l f
  fr : Fr (fun k => k = eb) w w'

theorem EyeAt.c0 {w : World} {T eb : Nat} {Z : Nat → Prop} {A : Option Addr} {c : Nat} {l : List UInt8} {f : Int} (h : EyeAt w T eb Z A c l f) : w.cell? ⟨eb, 0, none⟩ = some (.slice A l.length c) := h.1.cell 0
theorem EyeAt.c1 {w : World} {T eb : Nat} {Z : Nat → Prop} {A : Option Addr} {c : Nat} {l : List UInt8} {f : Int} (h : EyeAt w T eb Z A c l f) : w.cell? ⟨eb, 1, none⟩ = some (.int .i64 f) := h.1.cell 1
theorem EyeAt.f0 {w : World} {T eb : Nat} {Z : Nat → Prop} {A : Option Addr} {c : Nat} {l : List UInt8} {f : Int} (h : EyeAt w T eb Z A c l f) : w.frozen? ⟨eb, 0, none⟩ = false := h.1.frozen 0
theorem EyeAt.f1 {w : World} {T eb : Nat} {Z : Nat → Prop} {A : Option Addr} {c : Nat} {l : List UInt8} {f : Int} (h : EyeAt w T eb Z A c l f) : w.frozen? ⟨eb, 1, none⟩ = false := h.1.frozen 1
theorem EyeAt.to {w : World} {T eb : Nat} {Z : Nat → Prop} {A : Option Addr} {c : Nat} {l : List UInt8} {f : Int} (h : EyeAt w T eb Z A c l f) : EyeTo w T eb Z l f w := ⟨⟨A, c, h⟩, Fr.refl _ _⟩
theorem EyeAt.below {w w' : World} {T eb : Nat} {Z : Nat → Prop} {A : Option Addr} {c : Nat} {l : List UInt8} {f : Int} (h : EyeAt w T eb Z A c l f) (k : Below w.heap.size w w') : EyeAt w' T eb Z A c l f := ⟨h.1.below k, h.2.1.below k, h.2.2⟩
theorem EyeAt.fr {w w' : World} {T eb : Nat} {Z S : Nat → Prop} {A : Option Addr} {c : Nat} {l : List UInt8} {f : Int} (h : EyeAt w T eb Z A c l f) (k : Fr S w w') (h1 : ¬ S eb) (h2 : ∀ b, b < w.heap.size → Z b → ¬ S b) : EyeAt w' T eb Z A c l f := ⟨h.1.fr k h1, h.2.1.fr k h2, h.2.2⟩
theorem EyeTo.trans {a b c : World} {T eb : Nat} {Z : Nat → Prop} {l l' : List UInt8} {f f' : Int} (h : EyeTo a T eb Z l f b) (k : EyeTo b T eb Z l' f' c) : EyeTo a T eb Z l' f' c := ⟨k.at_, h.fr.trans k.fr (fun _ _ h => h)⟩
theorem EyeTo.then_ {a b c : World} {T eb : Nat} {Z : Nat → Prop} {l : List UInt8} {f : Int} (h : EyeTo a T eb Z l f b) (k : Below b.heap.size b c) : EyeTo a T eb Z l f c := by
  obtain ⟨A, c', h1⟩ := h.at_
  exact ⟨⟨A, c', h1.below k⟩, h.fr.then_below k⟩
/-- both cells set anew -/
theorem EyeAt.failed {w : World} {T eb : Nat} {Z : Nat → Prop} {A : Option Addr} {c : Nat} {l : List UInt8} {f : Int} (h : EyeAt w T eb Z A c l f) (code : Int) :
    EyeTo w T eb Z [] code ((w.setCell ⟨eb, 0, none⟩ (.slice none 0 0)).setCell ⟨eb, 1, none⟩ (.int .i64 code)) ∧ EyeTo w T eb Z [] code ((w.setCell ⟨eb, 1, none⟩ (.int .i64 code)).setCell ⟨eb, 0, none⟩ (.slice none 0 0)) := by
  constructor
  · refine ⟨⟨none, 0, ?_, Rd.nil, by simp, by simp [maxLen]⟩, ((Fr.refl (fun k => k = eb) w).setAt eb _ rfl _).setAt eb _ rfl _⟩
    have := (h.1.set_ 0 (.slice none 0 0)).set_ 1 (.int .i64 code)
    simpa using this
  · refine ⟨⟨none, 0, ?_, Rd.nil, by simp, by simp [maxLen]⟩, ((Fr.refl (fun k => k = eb) w).setAt eb _ rfl _).setAt eb _ rfl _⟩
    have := (h.1.set_ 1 (.int .i64 code)).set_ 0 (.slice none 0 0)
    simpa using this

set_option maxHeartbeats 400000 in
theorem fail_any (eb : Nat) (Z : Nat → Prop) (A : Option Addr) (c : Nat) (l : List UInt8) (f code : Int) (w : World) (h : EyeAt w 132 eb Z A c l f) :
    Calls Try.prog 88 #[.pointer (some ⟨eb, 0, none⟩), .int .i64 code] w fun e w' => e = .returned (.tuple #[]) ∧ EyeTo w 132 eb Z (failS l f code).1 (failS l f code).2 w' := by
  have c0 := h.c0
  have c1 := h.c1
  have f0 := h.f0
  have f1 := h.f1
  by_cases h1 : f = 0
  · by_cases h2 : code = 0
    · have e1 := Lib.hid (show failS l f code = (l, f) by unfold failS; rw [if_neg (by omega)])
      subst h1 h2
      go_enter Try.func88, Try.ntmps88
      go_wp2_with fail
      go_end0
      rw [e1.out]
      exact ⟨rfl, h.to⟩
    · have e1 := Lib.hid (show failS l f code = ([], code) by unfold failS; rw [if_pos ⟨h1, h2⟩])
      have h2b : (code != 0) = true := by simpa using h2
      subst h1
      go_enter Try.func88, Try.ntmps88
      go_wp2_with fail
      go_end0
      rw [e1.out]
      exact ⟨rfl, (h.failed code).1⟩
  · have e1 := Lib.hid (show failS l f code = (l, f) by unfold failS; rw [if_neg (by omega)])
    have h1b : (f == 0) = false := by simpa using h1
    go_enter Try.func88, Try.ntmps88
    go_wp2_with fail
    go_end0
    rw [e1.out]
    exact ⟨rfl, h.to⟩

set_option maxHeartbeats 400000 in
theorem failR_any (eb : Nat) (Z : Nat → Prop) (A : Option Addr) (c : Nat) (l : List UInt8) (f code : Int) (w : World) (h : EyeAt w 109 eb Z A c l f) :
    Calls Try.prog 67 #[.pointer (some ⟨eb, 0, none⟩), .int .i64 code] w fun e w' => e = .returned (.tuple #[]) ∧ EyeTo w 109 eb Z (failS l f code).1 (failS l f code).2 w' := by
  have c0 := h.c0
  have c1 := h.c1
  have f0 := h.f0
  have f1 := h.f1
  by_cases h1 : f = 0
  · by_cases h2 : code = 0
    · have e1 := Lib.hid (show failS l f code = (l, f) by unfold failS; rw [if_neg (by omega)])
      subst h1 h2
      go_enter Try.func67, Try.ntmps67
      go_wp2_with fail
      go_end0
      rw [e1.out]
      exact ⟨rfl, h.to⟩
    · have e1 := Lib.hid (show failS l f code = ([], code) by unfold failS; rw [if_pos ⟨h1, h2⟩])
      have h2b : (code != 0) = true := by simpa using h2
      subst h1
      go_enter Try.func67, Try.ntmps67
      go_wp2_with fail
      go_end0
      rw [e1.out]
      exact ⟨rfl, (h.failed code).2⟩
  · have e1 := Lib.hid (show failS l f code = (l, f) by unfold failS; rw [if_neg (by omega)])
    have h1b : (f == 0) = false := by simpa using h1
    go_enter Try.func67, Try.ntmps67
    go_wp2_with fail
    go_end0
    rw [e1.out]
    exact ⟨rfl, h.to⟩


theorem EyeAt.bounds {w : World} {T eb : Nat} {Z : Nat → Prop} {A : Option Addr} {c : Nat} {l : List UInt8} {f : Int} (h : EyeAt w T eb Z A c l f) : l.length ≤ c ∧ c ≤ 9223372036854775807 := ⟨h.2.2.1, h.2.2.2⟩

theorem EyeAt.cut {w : World} {T eb : Nat} {Z : Nat → Prop} {A : Option Addr} {c : Nat} {l : List UInt8} {f : Int} (h : EyeAt w T eb Z A c l f) {n : Nat} (hn : n ≤ l.length) (hz : ¬ Z eb) :
    EyeTo w T eb Z (l.drop n) f (w.setCell ⟨eb, 0, none⟩ (.slice (if c = n then A else A.map fun x => x.add n) (l.length - n) (c - n))) := by
  have hf : Fr (fun k => k = eb) w (w.setCell ⟨eb, 0, none⟩ (.slice (if c = n then A else A.map fun x => x.add n) (l.length - n) (c - n))) := (Fr.refl (fun k => k = eb) w).setAt eb _ rfl _
  have hd := Rd.drop h.2.1 hn h.2.2.1
  rw [← List.map_drop, Nat.mul_one, ← List.length_drop] at hd
  refine ⟨⟨_, c - n, ?_, hd.fr hf (by rintro b _ hb rfl; exact hz hb), by rw [List.length_drop]; have := h.2.2.1; omega, by have := h.2.2.2; omega⟩, hf⟩
  have := h.1.set_ 0 (.slice (if c = n then A else A.map fun x => x.add n) (l.length - n) (c - n))
  rw [List.length_drop]
  simpa using this

set_option maxHeartbeats 400000 in
theorem take_in (eb : Nat) (Z : Nat → Prop) (A : Option Addr) (c : Nat) (l : List UInt8) (f : Int) (n : Nat) (w : World) (h : EyeAt w 132 eb Z A c l f) (hz : ¬ Z eb) (hn : n ≤ l.length) :
    Calls Try.prog 98 #[.pointer (some ⟨eb, 0, none⟩), .int .i64 n] w fun e w' => ∃ c', e = .returned (.slice A n c') ∧ n ≤ c' ∧ c' ≤ maxLen ∧ EyeTo w 132 eb Z (l.drop n) f w' := by
  have c0 := h.c0
  have f0 := h.f0
  have hb := h.bounds
  have hm : maxLen = 9223372036854775807 := rfl
  have HM := Lib.hid hm
  clear hm
  have H := Lib.hid h
  clear h
  by_cases hcn : c = n
  · subst hcn
    go_enter Try.func98, Try.ntmps98
    go_wp2_with fail
    go_ret
    have hc := H.out.cut hn hz
    rw [if_pos rfl, Nat.sub_self, show l.length - c = 0 by omega] at hc
    exact ⟨c, rfl, Nat.le_refl _, by rw [HM.out]; omega, hc⟩
  · go_enter Try.func98, Try.ntmps98
    go_wp2_with fail
    go_ret
    have hc := H.out.cut hn hz
    rw [if_neg hcn] at hc
    exact ⟨c, rfl, by omega, by rw [HM.out]; omega, hc⟩

set_option maxHeartbeats 400000 in
theorem take_out (eb : Nat) (Z : Nat → Prop) (A : Option Addr) (c : Nat) (l : List UInt8) (n : Nat) (w : World) (h : EyeAt w 132 eb Z A c l 0) (hn : l.length < n) :
    Calls Try.prog 98 #[.pointer (some ⟨eb, 0, none⟩), .int .i64 n] w fun e w' => e = .returned (.slice none 0 0) ∧ EyeTo w 132 eb Z [] 11 w' := by
  have c0 := h.c0
  go_enter Try.func98, Try.ntmps98
  go_wp2_with fail
  refine (fail_any eb Z A c l 0 11 w h).mono ?_
  rintro e w1 ⟨rfl, h1⟩
  go_wp2_with fail
  go_ret
  exact ⟨rfl, h1⟩
end Go.Proofs.Ytpbgcbpofhbgbaa
