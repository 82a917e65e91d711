/- NameMoves is true for every input: where any path stands, once another one was moved, is the document's. No condition beyond the row's own. -/
import Derived.Test.YtffimpjjdhnajaaNameRefMove
import Derived.Test.YtffimpjjdhnajaaNameLives
namespace Go.Proofs.Ytffimpjjdhnajaa
open Go.RowKit

theorem moveT_ok (p f t : List UInt8) : (moveT p f t).2 = !(moveT p f t).1.isEmpty := by
  unfold moveT
  split
  · rename_i h
    simp only [Bool.and_eq_true] at h
    have := goodB_ne h.2
    simp [this]
  · rfl
set_option maxRecDepth 100000 in
set_option maxHeartbeats 1000000 in
theorem nameMoves_any (a b c : ByteArray) (ha : a.size ≤ 140737488355328) (hb : b.size ≤ 140737488355328) (hc : c.size ≤ 140737488355328) (w : World) : Calls Try.prog 4 #[.string a, .string b, .string c] w fun e w' => e = .returned (.bool true) ∧ Below w.heap.size w w' := by
  by_cases hn : a.size + b.size + c.size ≤ 400
  · have h1 : (a.size : Int) + (b.size : Int) + (c.size : Int) ≤ 400 := by omega
    go_enter Try.func4, Try.ntmps4
    go_wp2_with fail
    refine (move_any a b c (by omega) (by omega) (by omega) _).mono ?_
    rintro e w1 ⟨q, ok, rfl, hq, hb1⟩
    have hq1 := congrArg Prod.fst hq.out
    have hq2 := congrArg Prod.snd hq.out
    dsimp only at hq1 hq2
    rw [moveT_ok] at hq2
    have HQ1 := Lib.hid hq1
    have HOK : Hid (ok = !q.toList.isEmpty) := by show _ = _; rw [hq2, ← hq1, ByteArray.toList_eq]
    clear hq hq1 hq2
    go_wp2_with fail
    refine (refMove_any a b c (by omega) (by omega) (by omega) _).mono ?_
    rintro e w2 ⟨r, rfl, hr, hb2⟩
    replace hb2 := bthen hb1 hb2
    obtain rfl : q = r := tl_inj (HQ1.out.trans hr.out.symm)
    obtain rfl := HOK.out
    clear HOK HQ1 hr hb1
    go_wp2_with (first | (go_at_call 14; refine (lives03_any _).mono ?_; rintro e w3 ⟨rfl, hb3⟩))
    all_goals
      go_ret
      exact ⟨rfl, bthen hb2 hb3⟩
  · have h1 : 400 < (a.size : Int) + (b.size : Int) + (c.size : Int) := by omega
    go_enter Try.func4, Try.ntmps4
    go_wp2_with fail
    refine (lives03_any _).mono ?_
    rintro e w1 ⟨rfl, hb1⟩
    go_wp2_with fail
    go_ret
    exact ⟨rfl, hb1⟩
end Go.Proofs.Ytffimpjjdhnajaa
