/- fence, one change: open, moves, result; merge.Result; tenderref26: Open, Moves. -/
import Derived.Test.YtffimpjjdhnajaaNameUnder
import Derived.Test.YtffimpjjdhnajaaNameRefUnder
namespace Go.Proofs.Ytffimpjjdhnajaa
open Go.RowKit Go.WideShapes Go.ChangeShapes Go.ChangeAt

/-- a change as a value -/
abbrev chV (p : ByteArray) (b : Int) (m t : Bool) (k o s l v : Int) : Value :=
  .agg #[.string p, .int .i64 b, .bool m, .bool t, .int .i64 k, .int .i64 o, .int .i64 s, .int .i64 l, .int .i64 v]
def resK (b k o v : Int) : Int := if v = 0 then b else if v = 3 then k else if v = 1 then k else if v = 2 then o else 0
def resS (v : Int) : Bool := decide (v = 0) || decide (v = 3) || decide (v = 1) || decide (v = 2)
def openB (v : Int) : Bool := v == 4 || v == 5
def movesB (v : Int) : Bool := v == 1 || v == 2


set_option maxHeartbeats 400000 in
theorem result_any (p : ByteArray) (b : Int) (m t : Bool) (k o s l v : Int) (w : World) :
    Calls Try.prog 76 #[chV p b m t k o s l v] w fun e w' => e = .returned (.tuple #[.int .i64 (resK b k o v), .bool (resS v)]) ∧ Below w.heap.size w w' := by
  go_enter Try.func76, Try.ntmps76
  go_wp2
  all_goals
    go_ret2
    exact ⟨ret2ib (by grind [resK]) (by grind [resS]), (by repeat (first | exact Below.refl _ _ | refine Below.alloc ?_ (by simp) _ | refine Below.setCell ?_ (by simp) _ | refine Below.drew ?_))⟩


set_option maxHeartbeats 400000 in
theorem resultR_any (p : ByteArray) (b : Int) (m t : Bool) (k o s l v : Int) (w : World) :
    Calls Try.prog 78 #[chV p b m t k o s l v] w fun e w' => e = .returned (.tuple #[.int .i64 (resK b k o v), .bool (resS v)]) ∧ Below w.heap.size w w' := by
  go_enter Try.func78, Try.ntmps78
  go_wp2
  all_goals
    go_ret2
    exact ⟨ret2ib (by grind [resK]) (by grind [resS]), (by repeat (first | exact Below.refl _ _ | refine Below.alloc ?_ (by simp) _ | refine Below.setCell ?_ (by simp) _ | refine Below.drew ?_))⟩


set_option maxHeartbeats 400000 in
theorem fopen_any (p : ByteArray) (b : Int) (m t : Bool) (k o s l v : Int) (w : World) :
    Calls Try.prog 95 #[chV p b m t k o s l v] w fun e w' => e = .returned (.bool (openB v)) ∧ Below w.heap.size w w' := by
  cases h : (v == 4)
  · go_enter Try.func95, Try.ntmps95
    go_wp2_with fail
    go_ret
    exact ⟨ret_b (by unfold openB; rw [h]; simp), (by repeat (first | exact Below.refl _ _ | refine Below.alloc ?_ (by simp) _ | refine Below.setCell ?_ (by simp) _ | refine Below.drew ?_))⟩
  · go_enter Try.func95, Try.ntmps95
    go_wp2_with fail
    go_ret
    exact ⟨ret_b (by unfold openB; rw [h]; simp), (by repeat (first | exact Below.refl _ _ | refine Below.alloc ?_ (by simp) _ | refine Below.setCell ?_ (by simp) _ | refine Below.drew ?_))⟩


set_option maxHeartbeats 400000 in
theorem fmoves_any (p : ByteArray) (b : Int) (m t : Bool) (k o s l v : Int) (w : World) :
    Calls Try.prog 94 #[chV p b m t k o s l v] w fun e w' => e = .returned (.bool (movesB v)) ∧ Below w.heap.size w w' := by
  cases h : (v == 1)
  · go_enter Try.func94, Try.ntmps94
    go_wp2_with fail
    go_ret
    exact ⟨ret_b (by unfold movesB; rw [h]; simp), (by repeat (first | exact Below.refl _ _ | refine Below.alloc ?_ (by simp) _ | refine Below.setCell ?_ (by simp) _ | refine Below.drew ?_))⟩
  · go_enter Try.func94, Try.ntmps94
    go_wp2_with fail
    go_ret
    exact ⟨ret_b (by unfold movesB; rw [h]; simp), (by repeat (first | exact Below.refl _ _ | refine Below.alloc ?_ (by simp) _ | refine Below.setCell ?_ (by simp) _ | refine Below.drew ?_))⟩


set_option maxHeartbeats 400000 in
theorem openR_any (p : ByteArray) (b : Int) (m t : Bool) (k o s l v : Int) (w : World) :
    Calls Try.prog 96 #[chV p b m t k o s l v] w fun e w' => e = .returned (.bool (openB v)) ∧ Below w.heap.size w w' := by
  cases h : (v == 4)
  · go_enter Try.func96, Try.ntmps96
    go_wp2_with fail
    go_ret
    exact ⟨ret_b (by unfold openB; rw [h]; simp), (by repeat (first | exact Below.refl _ _ | refine Below.alloc ?_ (by simp) _ | refine Below.setCell ?_ (by simp) _ | refine Below.drew ?_))⟩
  · go_enter Try.func96, Try.ntmps96
    go_wp2_with fail
    go_ret
    exact ⟨ret_b (by unfold openB; rw [h]; simp), (by repeat (first | exact Below.refl _ _ | refine Below.alloc ?_ (by simp) _ | refine Below.setCell ?_ (by simp) _ | refine Below.drew ?_))⟩


set_option maxHeartbeats 400000 in
theorem movesR_any (p : ByteArray) (b : Int) (m t : Bool) (k o s l v : Int) (w : World) :
    Calls Try.prog 79 #[chV p b m t k o s l v] w fun e w' => e = .returned (.bool (movesB v)) ∧ Below w.heap.size w w' := by
  cases h : (v == 1)
  · go_enter Try.func79, Try.ntmps79
    go_wp2_with fail
    go_ret
    exact ⟨ret_b (by unfold movesB; rw [h]; simp), (by repeat (first | exact Below.refl _ _ | refine Below.alloc ?_ (by simp) _ | refine Below.setCell ?_ (by simp) _ | refine Below.drew ?_))⟩
  · go_enter Try.func79, Try.ntmps79
    go_wp2_with fail
    go_ret
    exact ⟨ret_b (by unfold movesB; rw [h]; simp), (by repeat (first | exact Below.refl _ _ | refine Below.alloc ?_ (by simp) _ | refine Below.setCell ?_ (by simp) _ | refine Below.drew ?_))⟩


set_option maxHeartbeats 400000 in
theorem fresult_any (p : ByteArray) (b : Int) (m t : Bool) (k o s l v : Int) (w : World) :
    Calls Try.prog 93 #[chV p b m t k o s l v] w fun e w' => e = .returned (.int .i64 (resK b k o v)) ∧ Below w.heap.size w w' := by
  generalize hR : resK b k o v = R
  have HR := Lib.hid (fun w => result_any p b m t k o s l v w)
  rw [hR] at HR
  clear hR
  go_enter Try.func93, Try.ntmps93
  go_wp2_with fail
  refine (HR.out _).mono ?_
  rintro e w1 ⟨rfl, hb1⟩
  go_wp2_with fail
  go_ret
  exact ⟨rfl, ((Below.refl _ _).alloc (Nat.le_refl _) _).trans (hb1.mono (by simp))⟩
end Go.Proofs.Ytffimpjjdhnajaa
