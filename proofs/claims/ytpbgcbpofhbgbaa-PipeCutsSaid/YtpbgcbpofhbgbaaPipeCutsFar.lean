/- PipeCuts where it is too much: lives. -/
import Derived.Test.YtpbgcbpofhbgbaaPipeCuts
namespace Go.Proofs.Ytpbgcbpofhbgbaa
open Go.RowKit

set_option maxRecDepth 100000 in
set_option maxHeartbeats 2000000 in
theorem pipeCuts_far (A : Option Addr) (c : Nat) (l : List BV) (gA kA : Option Addr) (gc kc : Nat) (gl kl : List UInt8) (w : World) (h : Bss w (fun b => b < w.heap.size) A l)
    (hn : ¬ (l.length ≤ 100 ∧ lensB l ≤ 10000 ∧ gl.length ≤ 50 ∧ kl.length ≤ 500)) :
    Calls Try.prog 3 #[.slice A l.length c, .slice gA gl.length gc, .slice kA kl.length kc] w fun e w' => e = .returned (.bool true) ∧ Below w.heap.size w w' := by
  have hlen := h.len
  go_enter Try.func3, Try.ntmps3
  go_wp2_with fail
  go_loopw [7, 25] (fun sv iv wr => ∃ (i : Nat) (s : Int), i ≤ l.length ∧ iv = .int .i64 (i : Int) ∧ sv = .int .i64 s ∧ SeenB l i s ∧ w = wr) (fun _ iv _ => l.length - (intOf iv).toNat)
  case atStart => exact ⟨0, 0, Nat.zero_le _, rfl, rfl, by intro _; simp [lensB], rfl⟩
  case round =>
    obtain ⟨i, s, hi, rfl, rfl, hs, rfl⟩ := hrel
    by_cases hlt : i < l.length
    · obtain ⟨b, off, rfl, _, _, hc⟩ := h.rd.atm hlt
      have hxl := h.lens _ (List.getElem_mem hlt)
      have hst := Lib.hid (seenB_step hs hlt h.lens)
      generalize l[i] = x at *
      obtain ⟨xA, xc, xl⟩ := x
      dsimp only at *
      replace hc : w.cell? ⟨b, off + i, none⟩ = some (.slice xA xl.length xc) := hc
      clear hn
      go_wp2_with fail
      go_roundw
      case rel => exact ⟨i + 1, _, hlt, by go_num, rfl, hst.out, trivial⟩
      case measure => simp [intOf]; omega
    · have e : i = l.length := by omega
      subst e
      have hor : s > 10000 ∨ (l.length : Int) > 100 ∨ (gl.length : Int) > 50 ∨ (kl.length : Int) > 500 := by
        by_cases h1 : l.length ≤ 100
        · have hss := hs h1
          rw [List.take_length] at hss
          omega
        · omega
      clear hs hlt hn
      go_wp2_with (first | (go_at_call 9; refine (lives16_any _).mono ?_; rintro e w2 ⟨rfl, hb2⟩))
      all_goals first
        | (go_ret; exact ⟨rfl, hb2⟩)
        | (exfalso; omega)
end Go.Proofs.Ytpbgcbpofhbgbaa
