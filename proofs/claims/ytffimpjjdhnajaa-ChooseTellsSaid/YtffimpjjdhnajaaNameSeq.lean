/- name.parts: its iterator. -/
import Derived.Test.YtffimpjjdhnajaaNameStr
import Derived.Test.YtffimpjjdhnajaaSeqCell
import Derived.Shelf.RegionOpen
import Derived.OwnWalkIn
import Derived.TacticsInMore
import Derived.LoopNIn
import Derived.LoopIn
namespace Go.Proofs.Ytffimpjjdhnajaa
open Go.RowKit

attribute [local go_sem] Oper.semAt_some

/-- a text as a value -/
def stv (l : List UInt8) : Value := .string ⟨⟨l⟩⟩
theorem stv_tl (s : ByteArray) : stv (tl s) = .string s := rfl
noncomputable def sizeAt (W : World) (b : Nat) : Nat := match W.cell? ⟨b, 0, none⟩ with | some (.string t) => t.size | _ => 0
theorem sizeAt_boxed {W : World} {b : Nat} {t : TypeId} {s : ByteArray} (h : Boxed W b t (.string s)) : sizeAt W b = s.size := by unfold sizeAt; rw [h.cell]
theorem grown_turn (W : World) (n b : Nat) (v : Value) : W.grownBy ((W.drewN n).setCell ⟨b, 0, none⟩ v) (some b) :=
  let h := grownBy_setCell' (W.drewN n) b v
  ⟨h.os, h.tape, h.output, h.size, h.block⟩
theorem pre_snoc {α : Type} {pre xs : List α} {y : α} {ys : List α} (h : xs = pre ++ y :: ys) : pre ++ [y] <+: xs := ⟨ys, by rw [h]; simp⟩
theorem boxed_eq {A B : World} {b : Nat} {t : TypeId} {v : Value} (h : Boxed A b t v) (e : B.heap[b]? = A.heap[b]?) : Boxed B b t v := e.trans h

set_option maxHeartbeats 1000000 in
theorem parts_yields (s : ByteArray) (hs : s.size ≤ 9223372036854775807) (Bn : Nat) (W : World) (hb : Boxed W Bn 9 (.string s)) :
    Yields Try.prog 88 #[.pointer (some ⟨Bn, 0, none⟩)] Bn stv (cutL (tl s)) W := by
  intro l J Jx hJ hJx hY h0
  refine callsIn_of_wp Try.func88 rfl trivial ?_ rfl
  simp only [Try.ntmps88, List.size_toArray, List.length_cons, List.length_nil, Nat.reduceAdd, Nat.reduceSub, Array.replicate_succ, Array.replicate_zero, List.push_toArray, List.append_toArray, List.nil_append, List.cons_append]
  gi_wp2
  gi_loopw [3] (fun m wr => (∃ (pre : List (List UInt8)) (t : ByteArray), m = .bool true ∧ cutL (tl s) = pre ++ cutL (tl t) ∧ t.size ≤ s.size ∧ Boxed wr Bn 9 (.string t) ∧ J pre wr) ∨ (m = .bool false ∧ J (cutL (tl s)) wr)) (fun m wr => match m with | .bool true => sizeAt wr Bn + 1 | _ => 0)
  case atStart => exact .inl ⟨[], s, rfl, rfl, Nat.le_refl _, hb, h0⟩
  case round =>
    rcases hrel with ⟨pre, t, rfl, hcut, ht, hbx, hJp⟩ | ⟨rfl, hJp⟩
    · have hc := hbx.cell
      have hf := hbx.frozen
      rcases cut_ways t with ⟨hi, hx⟩ | ⟨i, hi, hit, hx⟩
      · have HI := Lib.hid hi
        have HC := Lib.hid (hcut.trans (by rw [hx]))
        clear hi hx hcut
        gi_wp2_with (refine ⟨trivial, ?_⟩; gi_at_call 59; refine (callsIn_wide.2 (strCut_none t _ HI)).mono ?_; rintro e w1 ⟨rfl, n, rfl⟩; obtain ⟨fn, tmps, assign, body, hy, hR⟩ := hY pre (tl t) _ (hJ _ _ _ hJp (grown_turn wr n Bn (.string ⟨#[]⟩))) (pre_snoc HC.out); rw [stv_tl] at hy)
        refine hR.mono ?_
        rintro e W3 (⟨rfl, hJ3, hk3⟩ | ⟨rfl, hJx3⟩)
        · gi_wp2
          go_roundw
          case rel => exact .inr ⟨rfl, by rw [HC.out]; exact hJ3⟩
          case measure => exact Nat.succ_pos _
        · gi_wp2
          refine bodyPost_ret (results_none rfl _ _ _) rfl ?_
          exact ⟨⟨_, rfl⟩, .inr ⟨_, pre_snoc HC.out, hJx3⟩⟩
      · have HI := Lib.hid hi
        have HC := Lib.hid (hcut.trans (by rw [hx]))
        clear hi hx hcut
        gi_wp2_with (refine ⟨trivial, ?_⟩; gi_at_call 59; refine (callsIn_wide.2 (strCut_at t i _ HI hit (by omega))).mono ?_; rintro e w1 ⟨rfl, n, rfl⟩; obtain ⟨fn, tmps, assign, body, hy, hR⟩ := hY pre (tl (t.extract 0 i)) _ (hJ _ _ _ hJp (grown_turn wr n Bn (.string (t.extract (i + 1) t.size)))) (pre_snoc HC.out); rw [stv_tl] at hy)
        refine hR.mono ?_
        rintro e W3 (⟨rfl, hJ3, hk3⟩ | ⟨rfl, hJx3⟩)
        · have hb2 : Boxed ((wr.drewN n).setCell ⟨Bn, 0, none⟩ (.string (t.extract (i + 1) t.size))) Bn 9 (.string (t.extract (i + 1) t.size)) := Boxed.set (W := wr.drewN n) _ hbx
          have hb3 := boxed_eq hb2 hk3
          have hsz : (t.extract (i + 1) t.size).size = t.size - (i + 1) := by simp
          gi_wp2
          go_roundw
          case rel => exact .inl ⟨pre ++ [tl (t.extract 0 i)], t.extract (i + 1) t.size, rfl, by rw [HC.out]; simp, by omega, hb3, hJ3⟩
          case measure => simp only [sizeAt_boxed hb3, sizeAt_boxed hbx]; omega
        · gi_wp2
          refine bodyPost_ret (results_none rfl _ _ _) rfl ?_
          exact ⟨⟨_, rfl⟩, .inr ⟨_, pre_snoc HC.out, hJx3⟩⟩
    · gi_wp2
      go_end0
      exact ⟨⟨_, rfl⟩, .inl hJp⟩
theorem nameParts_any (s : ByteArray) (w : World) : Calls Try.prog 67 #[.string s] w fun e w' => e = .returned (.func (.func 88) #[] #[.pointer (some ⟨w.heap.size, 0, none⟩)]) ∧ w' = w.alloc (.cells #[.string s] 9) := by
  go_enter Try.func67, Try.ntmps67
  go_wp2_with fail
  go_ret
  exact ⟨rfl, rfl⟩
end Go.Proofs.Ytffimpjjdhnajaa
