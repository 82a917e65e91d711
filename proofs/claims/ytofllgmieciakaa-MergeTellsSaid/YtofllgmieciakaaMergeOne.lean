/- merge, one change: Verdict, Result, Name. -/
import Derived.Test.YtofllgmieciakaaLift
namespace Go.Proofs.Ytofllgmieciakaa
open Go.RowKit Go.WideShapes Go.ChangeShapes Go.ChangeAt

/-- a change as a value -/
abbrev chV (p : ByteArray) (b : Int) (m t : Bool) (k o s l v : Int) : Value :=
  .agg #[.string p, .int .i64 b, .bool m, .bool t, .int .i64 k, .int .i64 o, .int .i64 s, .int .i64 l, .int .i64 v]

def verd (m t : Bool) (k o s l : Int) : Int :=
  if m = true ∧ t = true then (if k ≠ o then 5 else if k = 1 then (if s = l then 4 else 5) else 3) else if m = true then 1 else if t = true then 2 else 0
def resK (b k o v : Int) : Int := if v = 0 then b else if v = 3 then k else if v = 1 then k else if v = 2 then o else 0
def resS (v : Int) : Bool := decide (v = 0) || decide (v = 3) || decide (v = 1) || decide (v = 2)

set_option maxHeartbeats 400000 in
theorem verdict_any (p : ByteArray) (b : Int) (m t : Bool) (k o s l v : Int) (w : World) :
    Calls Try.prog 17 #[chV p b m t k o s l v] w fun e w' => e = .returned (.int .i64 (verd m t k o s l)) ∧ Below w.heap.size w w' := by
  cases m <;> cases t
  all_goals
    go_enter Try.func17, Try.ntmps17
    go_wp2
    all_goals
      go_ret
      exact ⟨ret_i (by grind [verd]), (by repeat (first | exact Below.refl _ _ | refine Below.alloc ?_ (by simp) _ | refine Below.drew ?_))⟩

set_option maxHeartbeats 400000 in
theorem verdictR_any (p : ByteArray) (b : Int) (m t : Bool) (k o s l v : Int) (w : World) :
    Calls Try.prog 18 #[chV p b m t k o s l v] w fun e w' => e = .returned (.int .i64 (verd m t k o s l)) ∧ Below w.heap.size w w' := by
  cases m <;> cases t
  all_goals
    go_enter Try.func18, Try.ntmps18
    go_wp2
    all_goals
      go_ret
      exact ⟨ret_i (by grind [verd]), (by repeat (first | exact Below.refl _ _ | refine Below.alloc ?_ (by simp) _ | refine Below.drew ?_))⟩

set_option maxHeartbeats 400000 in
theorem result_any (p : ByteArray) (b : Int) (m t : Bool) (k o s l v : Int) (w : World) :
    Calls Try.prog 15 #[chV p b m t k o s l v] w fun e w' => e = .returned (.tuple #[.int .i64 (resK b k o v), .bool (resS v)]) ∧ Below w.heap.size w w' := by
  go_enter Try.func15, Try.ntmps15
  go_wp2
  all_goals
    go_ret2
    exact ⟨ret2ib (by grind [resK]) (by grind [resS]), (by repeat (first | exact Below.refl _ _ | refine Below.alloc ?_ (by simp) _ | refine Below.drew ?_))⟩

set_option maxHeartbeats 400000 in
theorem resultR_any (p : ByteArray) (b : Int) (m t : Bool) (k o s l v : Int) (w : World) :
    Calls Try.prog 16 #[chV p b m t k o s l v] w fun e w' => e = .returned (.tuple #[.int .i64 (resK b k o v), .bool (resS v)]) ∧ Below w.heap.size w w' := by
  go_enter Try.func16, Try.ntmps16
  go_wp2
  all_goals
    go_ret2
    exact ⟨ret2ib (by grind [resK]) (by grind [resS]), (by repeat (first | exact Below.refl _ _ | refine Below.alloc ?_ (by simp) _ | refine Below.drew ?_))⟩

end Go.Proofs.Ytofllgmieciakaa
