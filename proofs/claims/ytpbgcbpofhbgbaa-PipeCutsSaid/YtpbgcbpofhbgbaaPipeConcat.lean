/- slices.Grow of nil, slices.Concat of two rows, at parcels. -/
import Derived.Test.YtpbgcbpofhbgbaaPipeMem
namespace Go.Proofs.Ytpbgcbpofhbgbaa
open Go.RowKit

theorem Row.zero {w : World} {base size n c : Nat} {e : TypeId} {A : Option Addr} {xs : List Value} (h : Row w base e size A n c xs) : Row w base e size A 0 c [] :=
  ⟨by simp, Nat.zero_le _, h.cap, fun hA => ⟨rfl, (h.nil hA).2⟩, fun a ha => by
    obtain ⟨g, off, cur, e1, hb, hk, hs, _⟩ := h.at_ a ha
    exact ⟨g, off, cur, e1, hb, hk, hs, by simp⟩⟩

set_option maxHeartbeats 400000 in
theorem growNil_any (n : Nat) (w : World) (hn : n ≤ 1099511627776) :
    Calls Try.prog 80 #[.slice none 0 0, .int .i64 n] w fun e w' => ∃ A c, e = .returned (.slice A 0 c) ∧ Row w' w.heap.size 75 3 A 0 c [] ∧ Below w.heap.size w w' := by
  by_cases h0 : n = 0
  · subst h0
    go_enter Try.func80, Try.ntmps80
    go_wp2_with fail
    go_ret
    exact ⟨none, 0, rfl, Row.none_ _ _ _ _, Below.refl _ _⟩
  · have h1 : 0 < (n : Int) := by omega
    have hby : Try.t75.bytes = 32 := by kernel_rfl
    have hA : (n : Int) * (Try.t75.bytes : Int) ≤ 281474976710656 := by rw [hby]; omega
    have hB : Builtin.nextslicecap n 0 * Try.t75.bytes ≤ 281474976710656 := growslice_fits (by omega) (by rw [hby]; omega)
    have hN : ¬ n * 3 = 0 := by omega
    have hge := grownCap_ge w n 0 75
    have hcm := grownCap_le_maxLen w n 0 75 (by simp only [maxLen]; omega)
    clear hby
    go_enter Try.func80, Try.ntmps80
    go_wp2_with fail
    unfold grownCap at hge hcm
    generalize (Question.appendCap n 0 75).cut (w.tape w.drawn (Question.appendCap n 0 75)) = k at *
    go_ret
    refine ⟨some ⟨w.heap.size, 0, none⟩, k, rfl, ⟨by simp, Nat.zero_le _, hcm, fun h => (by cases h), fun a ha => ?_⟩, ((Below.refl _ _).alloc (Nat.le_refl _) _).drew⟩
    injection ha with ha
    subst ha
    refine ⟨w.heap.size, 0, _, rfl, Nat.le_refl _, (Blk.new w _ _).drew, ?_, by simp⟩
    rw [Array.size_append, size_zeroCells, size_zeroCells]
    simp
    omega
set_option maxRecDepth 100000 in
set_option maxHeartbeats 1000000 in
/-- parcels' rows of two, one behind the other -/
theorem concat2_any (q : Nat) (A1 A2 : Option Addr) (n1 c1 n2 c2 : Nat) (xs1 xs2 : List Value) (Z : Nat → Prop) (w : World) (h1 : w.cell? ⟨q, 0, none⟩ = some (.slice A1 n1 c1)) (h2 : w.cell? ⟨q, 1, none⟩ = some (.slice A2 n2 c2)) (hq : q < w.heap.size)
    (hr1 : Rd w Z 3 A1 n1 xs1) (hr2 : Rd w Z 3 A2 n2 xs2) (ho1 : ∀ u ∈ xs1, u.oneCell' = true) (ho2 : ∀ u ∈ xs2, u.oneCell' = true) (hn : n1 + n2 ≤ 1099511627776) :
    Calls Try.prog 40 #[.slice (some ⟨q, 0, none⟩) 2 2] w fun e w' => ∃ A c, e = .returned (.slice A (n1 + n2) c) ∧ Row w' w.heap.size 75 3 A (n1 + n2) c (xs1 ++ xs2) ∧ Below w.heap.size w w' := by
  obtain ⟨i0, hi0, hz0, hz1, hz2⟩ := info_parts par_info
  go_enter Try.func40, Try.ntmps40
  go_wp2_with fail
  go_loopw [3, 11] (fun sv iv wr => w = wr ∧ ((sv = .int .i64 0 ∧ iv = .int .i64 0) ∨ (sv = .int .i64 n1 ∧ iv = .int .i64 1) ∨ (sv = .int .i64 ((n1 + n2 : Nat) : Int) ∧ iv = .int .i64 2))) (fun _ iv _ => 2 - (intOf iv).toNat)
  case atStart => exact ⟨rfl, .inl ⟨rfl, rfl⟩⟩
  case round =>
    obtain ⟨rfl, ⟨rfl, rfl⟩ | ⟨rfl, rfl⟩ | ⟨rfl, rfl⟩⟩ := hrel
    · go_wp2_with fail
      go_roundw
      case rel => exact ⟨trivial, .inr (.inl ⟨by go_num, rfl⟩)⟩
      case measure => simp [intOf]
    · go_wp2_with fail
      go_roundw
      case rel => exact ⟨trivial, .inr (.inr ⟨by go_num, rfl⟩)⟩
      case measure => simp [intOf]
    · go_wp2_with fail
      refine (growNil_any (n1 + n2) _ hn).mono ?_
      rintro e w1 ⟨A, c, rfl, hrow, hb1⟩
      have g1 := (World.cell?_of_block (w := w) (hb1.block q hq)).trans h1
      have g2 := (World.cell?_of_block (w := w) (hb1.block q hq)).trans h2
      go_wp2_with fail
      go_loopw [6, 27] (fun nv iv wr => ∃ (A : Option Addr) (n c : Nat) (xs : List Value), nv = .slice A n c ∧ Row wr w.heap.size 75 3 A n c xs ∧ Below w.heap.size w wr ∧ ((iv = .int .i64 0 ∧ n = 0 ∧ xs = []) ∨ (iv = .int .i64 1 ∧ n = n1 ∧ xs = xs1) ∨ (iv = .int .i64 2 ∧ n = n1 + n2 ∧ xs = xs1 ++ xs2))) (fun _ iv _ => 2 - (intOf iv).toNat)
      case atStart => exact ⟨A, 0, c, [], rfl, hrow, hb1, .inl ⟨rfl, rfl, rfl⟩⟩
      case round =>
      clear hrow g1 g2
      obtain ⟨A, n, c, xs, rfl, hrow, hb, ⟨rfl, rfl, rfl⟩ | ⟨rfl, rfl, rfl⟩ | ⟨rfl, rfl, rfl⟩⟩ := hrel
      · have hbw := hb.size
        have g1 := (World.cell?_of_block (w := w) (hb.block q hq)).trans h1
        have g2 := (World.cell?_of_block (w := w) (hb.block q hq)).trans h2
        go_wp2_with (at_builtin; refine wpList_append_row _ rfl (.tmp 31) (.tmp 32) 46 rfl w.heap.size 75 i0 _ 3 32 Try.underlying46 hi0 hz0 hz1 hz2 rfl (by omega) rfl hrow rfl (hr1.below hb) ho1 (by simp only [maxLen]; omega) (by omega) hbw ?_; intro A2 c2' w2 hrow2 hg2 hat2)
        have hb2 : Below w.heap.size w w2 := hb.trans ((Fr.of_grown hg2 (S := fun x => w.heap.size ≤ x) (fun k _ e => (hrow.lt k e).1)).below hbw (fun k hk e => by omega))
        go_roundw
        case rel => exact ⟨A2, n1, c2', xs1, rfl, by simpa using hrow2, hb2, .inr (.inl ⟨by go_num, rfl, rfl⟩)⟩
        case measure => simp [intOf]
      · have hbw := hb.size
        have g1 := (World.cell?_of_block (w := w) (hb.block q hq)).trans h1
        have g2 := (World.cell?_of_block (w := w) (hb.block q hq)).trans h2
        go_wp2_with (at_builtin; refine wpList_append_row _ rfl (.tmp 31) (.tmp 32) 46 rfl w.heap.size 75 i0 _ 3 32 Try.underlying46 hi0 hz0 hz1 hz2 rfl (by omega) rfl hrow rfl (hr2.below hb) ho2 (by simp only [maxLen]; omega) (by omega) hbw ?_; intro A2 c2' w2 hrow2 hg2 hat2)
        have hb2 : Below w.heap.size w w2 := hb.trans ((Fr.of_grown hg2 (S := fun x => w.heap.size ≤ x) (fun k _ e => (hrow.lt k e).1)).below hbw (fun k hk e => by omega))
        go_roundw
        case rel => exact ⟨A2, _, c2', _, rfl, hrow2, hb2, .inr (.inr ⟨by go_num, rfl, rfl⟩)⟩
        case measure => simp [intOf]
      · go_wp2_with fail
        go_ret
        exact ⟨A, c, rfl, hrow, hb⟩
end Go.Proofs.Ytpbgcbpofhbgbaa
