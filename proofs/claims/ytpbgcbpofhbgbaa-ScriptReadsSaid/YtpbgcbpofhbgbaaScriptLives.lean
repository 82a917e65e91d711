/- tenderlaw41: its example. -/
import Derived.Test.YtpbgcbpofhbgbaaScriptAnyF
namespace Go.Proofs.Ytpbgcbpofhbgbaa
open Go.RowKit

theorem any_ex : anyF 3 [15, 0, 5] = [{ k := 12 }, { k := 1, n := 1400 }, { k := 2, n := 1400 }] := by
  simp [anyF, oneS, nx]
set_option maxRecDepth 100000 in
set_option maxHeartbeats 1000000 in
theorem lives41_any (w : World) : Calls Try.prog 25 #[] w fun e w' => e = .returned (.bool true) ∧ Below w.heap.size w w' := by
  have hb1 : Below w.heap.size w (w.alloc (.cells #[.int .u8 15, .int .u8 0, .int .u8 5] 5)) := (by repeat (first | exact Below.refl _ _ | refine Below.alloc ?_ (by simp) _ | refine Below.setCell ?_ (by simp) _ | refine Below.drew ?_))
  have hok : (⟨some ⟨w.heap.size, 0, none⟩, 3, [15, 0, 5]⟩ : BV).ok (w.alloc (.cells #[.int .u8 15, .int .u8 0, .int .u8 5] 5)) (fun b => b < (w.alloc (.cells #[.int .u8 15, .int .u8 0, .int .u8 5] 5)).heap.size) :=
    ⟨(Rd.lit (xs := [15, 0, 5].map bv) (n := 3) rfl rfl rfl).mono (fun b hb _ => hb), Nat.le_refl _, by simp [maxLen]⟩
  go_enter Try.func25, Try.ntmps25
  go_wp2_with fail
  refine (any_any ⟨some ⟨w.heap.size, 0, none⟩, 3, [15, 0, 5]⟩ _ hok (by simp)).mono ?_
  rintro e w2 ⟨A, c, s, rfl, hs, ha, _, hb2⟩
  have hb3 := hb1.trans (hb2.mono hb1.size)
  have he := hs.out
  rw [show ([15, 0, 5] : List UInt8).length = 3 from rfl, any_ex] at he
  clear hs
  have hl3 : s.length = 3 := by simpa using congrArg List.length he
  obtain ⟨v0, v1, v2, rfl⟩ : ∃ v0 v1 v2, s = [v0, v1, v2] := by
    rcases s with _ | ⟨v0, _ | ⟨v1, _ | ⟨v2, _ | _⟩⟩⟩
    all_goals first
      | exact ⟨_, _, _, rfl⟩
      | (simp at hl3)
  clear hl3
  · skip
    simp only [List.map_cons, List.map_nil, List.cons.injEq, and_true] at he
    obtain ⟨e0, e1, e2⟩ := he
    obtain ⟨g, o, rfl, _, _, p0, _⟩ := av_at ha.rd (i := 0) (by simp)
    obtain ⟨g', o', h1, _, _, q0, _⟩ := av_at ha.rd (i := 1) (by simp)
    obtain ⟨g'', o'', h2, _, _, r0, _, r2, _⟩ := av_at ha.rd (i := 2) (by simp)
    injection h1 with h1
    injection h1 with h1 h1'
    injection h2 with h2
    injection h2 with h2 h2'
    subst h1 h1' h2 h2'
    have P0 : w2.cell? ⟨g, o, none⟩ = some (.int .i64 12) := by rw [show (12 : Int) = v0.a.k by rw [e0]]; simpa using p0
    have Q0 : w2.cell? ⟨g, o + 11, none⟩ = some (.int .i64 1) := by rw [show (1 : Int) = v1.a.k by rw [e1]]; simpa using q0
    have R0 : w2.cell? ⟨g, o + 22, none⟩ = some (.int .i64 2) := by rw [show (2 : Int) = v2.a.k by rw [e2]]; simpa using r0
    have R2 : w2.cell? ⟨g, o + 22 + 2, none⟩ = some (.int .i64 1400) := by rw [show (1400 : Int) = v2.a.n by rw [e2]]; simpa using r2
    clear p0 q0 r0 r2 ha e0 e1 e2
    rw [show [v0, v1, v2].length = 3 from rfl]
    clear hb1 hok hb2
    go_wp2_with fail
    go_ret
    exact ⟨rfl, hb3⟩
end Go.Proofs.Ytpbgcbpofhbgbaa
