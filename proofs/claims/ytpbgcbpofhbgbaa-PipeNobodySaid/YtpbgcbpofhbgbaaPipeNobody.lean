/- PipeNobody is true for every input: a pipe that is none is closed; a plain one is as new. No condition beyond the row's own. -/
import Derived.Test.YtpbgcbpofhbgbaaPipeNil
import Derived.Test.YtpbgcbpofhbgbaaPipeOps
import Derived.Test.YtpbgcbpofhbgbaaPipeLives
namespace Go.Proofs.Ytpbgcbpofhbgbaa
open Go.RowKit

set_option maxRecDepth 100000 in
set_option maxHeartbeats 1000000 in
theorem pipeNobody_any (o : OpP) (w : World) (ho : o.ok w (fun b => b < w.heap.size)) :
    Calls Try.prog 5 #[.agg #[.int .i64 o.kind, .int .i64 o.n, .int .i64 o.bit, .int .u32 o.mask, .slice o.x.A o.x.l.length o.x.c]] w fun e w' => e = .returned (.bool true) ∧ Below w.heap.size w w' := by
  obtain ⟨kind, n, bit, mask, xA, xc, xl⟩ := o
  dsimp only at *
  have b0 := Blk.new w 40 #[.int .i64 kind, .int .i64 n, .int .i64 bit, .int .u32 mask, .slice xA xl.length xc]
  have hl0 : Below w.heap.size w (w.alloc (.cells #[.int .i64 kind, .int .i64 n, .int .i64 bit, .int .u32 mask, .slice xA xl.length xc] 40)) := (Below.refl _ _).alloc (Nat.le_refl _) _
  have hz0 : (w.alloc (.cells #[.int .i64 kind, .int .i64 n, .int .i64 bit, .int .u32 mask, .slice xA xl.length xc] 40)).heap.size = w.heap.size + 1 := by simp
  go_enter Try.func5, Try.ntmps5
  go_wp2_with fail
  rw [← hz0]
  generalize w.alloc (.cells #[.int .i64 kind, .int .i64 n, .int .i64 bit, .int .u32 mask, .slice xA xl.length xc] 40) = w1 at *
  have hs1 := hl0.size
  refine (light16_any (some ⟨w1.heap.size, 0, none⟩) 1 [⟨kind, n, bit, mask, ⟨xA, xc, xl⟩⟩] (fun b => b < w.heap.size ∨ w1.heap.size ≤ b) _ ⟨(Rd.lit rfl rfl (by simp)).mono (fun b _ hb => .inr hb), ?_, by simp⟩).mono ?_
  · intro y hy
    obtain rfl := List.mem_singleton.1 hy
    exact ⟨ho.k, ho.n, ho.b, ho.m, (ho.x.below (hl0.alloc hs1 _)).mono (fun b _ hb => .inl hb), ho.len⟩
  rintro e w2 ⟨rfl, hb2⟩
  have hw12 : Below w1.heap.size w1 w2 := ((Below.refl _ _).alloc (Nat.le_refl _) _).trans (hb2.mono (by simp))
  have hw2 : Below w.heap.size w w2 := hl0.trans (hw12.mono hs1)
  have b2 := b0.below hw12
  have hs2 := hw2.size
  clear hb2 hl0 hz0
  cases hL : lightP [⟨kind, n, bit, mask, ⟨xA, xc, xl⟩⟩]
  · go_wp2_with fail
    refine (lives16_any _).mono ?_
    rintro e w3 ⟨rfl, hb3⟩
    go_wp2_with fail
    go_ret
    exact ⟨rfl, hw2.trans (hb3.mono hs2)⟩
  · have c1 : w2.cell? ⟨w.heap.size, 1, none⟩ = some (.int .i64 n) := b2.cell 1
    go_wp2_with fail
    refine (pipeCut_nil n _).mono ?_
    rintro e w3 ⟨rfl, hb3⟩
    have b3 := b2.below hb3
    have hw3 := hw2.trans (hb3.mono hs2)
    have hs3 := hw3.size
    go_wp2_with fail
    refine (pipeOpen_nil _).mono ?_
    rintro e w4 ⟨rfl, rfl⟩
    have d1 : w3.cell? ⟨w.heap.size, 1, none⟩ = some (.int .i64 n) := b3.cell 1
    have d2 : w3.cell? ⟨w.heap.size, 2, none⟩ = some (.int .i64 bit) := b3.cell 2
    have d3 : w3.cell? ⟨w.heap.size, 3, none⟩ = some (.int .u32 mask) := b3.cell 3
    have d4 : w3.cell? ⟨w.heap.size, 4, none⟩ = some (.slice xA xl.length xc) := b3.cell 4
    go_wp2_with (first
      | (go_at_call 11; refine (pipeSend_nil _ _ _ _).mono ?_; rintro e w5 ⟨rfl, rfl⟩)
      | (go_at_call 13; refine (pipeTake_nil _ _).mono ?_; rintro e w5 ⟨rfl, rfl⟩)
      | (go_at_call 12; refine (pipeDrop_nil _ _).mono ?_; rintro e w5 ⟨rfl, rfl⟩))
    refine (pipeFlip_nil n bit mask _).mono ?_
    rintro e w4 ⟨rfl, hb4⟩
    have hw4 := hw3.trans (hb4.mono hs3)
    have hs4 := hw4.size
    have hp4 := PipeAt.new w4 (base := w.heap.size)
    have hp5 := hp4.below ((Below.refl _ _).alloc (Nat.le_refl _) (.cells #[.int .u8 1] 5))
    clear d1 d2 d3 d4
    go_wp2_with (first
      | (go_at_call 15; refine (pipeLen_nil _).mono ?_; rintro e w5 ⟨rfl, rfl⟩)
      | (go_at_call 22; refine (pipeCount_nil _).mono ?_; rintro e w5 ⟨rfl, rfl⟩)
      | (go_at_call 23; refine (pipeClosed_nil _).mono ?_; rintro e w5 ⟨rfl, rfl⟩)
      | (go_at_call 24; refine (pipeClone_nil _).mono ?_; rintro e w5 ⟨rfl, rfl⟩))
    have hz5 : (w4.alloc (.cells #[.slice none 0 0, .bool false] 48)).heap.size = w4.heap.size + 1 := by simp
    have hl5 : Below w.heap.size w (w4.alloc (.cells #[.slice none 0 0, .bool false] 48)) := hw4.alloc hs4 _
    rw [← hz5]
    generalize w4.alloc (.cells #[.slice none 0 0, .bool false] 48) = w5 at *
    refine (pipeSend_any w.heap.size w4.heap.size none 0 [] false _ hp5 (some ⟨w5.heap.size, 0, none⟩) 1 [1] (fun _ => True) ?_ (by simp; omega) (by simp) (by simp)).mono ?_
    · have e : ([1] : List UInt8).map bv = [.int .u8 1] := by kernel_rfl
      unfold By
      rw [e]
      exact (Rd.lit rfl rfl (by simp)).mono (fun _ _ _ => trivial)
    rintro e w6 ⟨rfl, h6⟩
    rw [show (!false && decide (0 < ([1] : List UInt8).length)) = true from rfl]
    rw [if_pos ⟨rfl, by simp⟩, List.map_nil, List.nil_append] at h6
    have hw6 := (hl5.alloc (by omega) _).trans (h6.low hp5 hs4 (Nat.le_refl _) (by simp; omega))
    obtain ⟨A6, c6, ls6, hp6, hS6, hn6, _⟩ := h6.len
    have hs6 := hw6.size
    simp at hn6
    go_wp2_with fail
    refine (pipeLen_any w.heap.size w4.heap.size A6 c6 ls6 false _ hp6 (by omega) (by rw [hS6.out]; decide)).mono ?_
    rw [hS6.out, show ((flatP [([1], false, false)]).length : Int) = 1 from rfl]
    rintro e w7 ⟨rfl, hb7⟩
    go_wp2_with fail
    refine (lives16_any _).mono ?_
    rintro e w8 ⟨rfl, hb8⟩
    go_wp2_with fail
    go_ret
    exact ⟨rfl, (hw6.trans (hb7.mono hs6)).trans (hb8.mono (Nat.le_trans hs6 hb7.size))⟩
end Go.Proofs.Ytpbgcbpofhbgbaa
