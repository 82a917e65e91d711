/- tenderref41.Same of two acts that have the same; tenderlaw41.same. -/
import Derived.Test.YtpbgcbpofhbgbaaScriptEq
namespace Go.Proofs.Ytpbgcbpofhbgbaa
open Go.RowKit

theorem self_neq {s : ByteArray} : (!s.toList == s.toList) = false := by simp
theorem self_neql {s : List UInt8} : (!s == s) = false := by simp
set_option maxRecDepth 100000 in
set_option maxHeartbeats 4000000 in
theorem refSameEq_any (a b : AV) (Z Z' : Nat → Prop) (w : World) (h : a.a = b.a) (ha : a.ok w Z) (hb : b.ok w Z') :
    Calls Try.prog 36 #[a.val, b.val] w fun e w' => e = .returned (.bool true) ∧ Below w.heap.size w w' := by
  obtain ⟨s, axA, axc, akA, akc, acA, acc⟩ := a
  obtain ⟨s', bxA, bxc, bkA, bkc, bcA, bcc⟩ := b
  obtain rfl : s = s' := h
  obtain ⟨a1, a2, a3, fit⟩ := ha
  obtain ⟨b1, b2, b3, _⟩ := hb
  unfold AV.val
  dsimp only at a1 a2 a3 b1 b2 b3 fit ⊢
  have hkl := fit.kl
  have hcl := fit.cl
  have U1 := fun (x y : KV) W => neqKV x y W
  have U2 := fun (x y : Operand) (xs ys : Array Value) W => gdKV x y xs ys W
  have U3 := fun (x y : HW) W => neqHW x y W
  have U4 := fun (x y : Operand) (xs ys : Array Value) W => gdHW x y xs ys W
  obtain ⟨A, hA⟩ : ∃ A, A = ({ a := s, xA := axA, xc := axc, kA := akA, kc := akc, cA := acA, cc := acc } : AV).cells.toArray := ⟨_, rfl⟩
  obtain ⟨B, hB⟩ : ∃ B, B = ({ a := s, xA := bxA, xc := bxc, kA := bkA, kc := bkc, cA := bcA, cc := bcc } : AV).cells.toArray := ⟨_, rfl⟩
  rw [show Value.agg #[.int .i64 s.k, .int .i64 s.s, .int .i64 s.n, .int .i64 s.b, .int .u32 s.m, .int .i64 s.ek, .string s.p, .string s.t, .slice axA s.x.length axc, .slice akA s.kl.length akc, .slice acA s.cl.length acc] = .agg A by rw [hA]; rfl, show Value.agg #[.int .i64 s.k, .int .i64 s.s, .int .i64 s.n, .int .i64 s.b, .int .u32 s.m, .int .i64 s.ek, .string s.p, .string s.t, .slice bxA s.x.length bxc, .slice bkA s.kl.length bkc, .slice bcA s.cl.length bcc] = .agg B by rw [hB]; rfl]
  have x0 : A[0]? = some (.int .i64 s.k) := by rw [hA]; rfl
  have x1 : A[1]? = some (.int .i64 s.s) := by rw [hA]; rfl
  have x2 : A[2]? = some (.int .i64 s.n) := by rw [hA]; rfl
  have x3 : A[3]? = some (.int .i64 s.b) := by rw [hA]; rfl
  have x4 : A[4]? = some (.int .u32 s.m) := by rw [hA]; rfl
  have x5 : A[5]? = some (.int .i64 s.ek) := by rw [hA]; rfl
  have x6 : A[6]? = some (.string s.p) := by rw [hA]; rfl
  have x7 : A[7]? = some (.string s.t) := by rw [hA]; rfl
  have x8 : A[8]? = some (.slice axA s.x.length axc) := by rw [hA]; rfl
  have x9 : A[9]? = some (.slice akA s.kl.length akc) := by rw [hA]; rfl
  have x10 : A[10]? = some (.slice acA s.cl.length acc) := by rw [hA]; rfl
  have y0 : B[0]? = some (.int .i64 s.k) := by rw [hB]; rfl
  have y1 : B[1]? = some (.int .i64 s.s) := by rw [hB]; rfl
  have y2 : B[2]? = some (.int .i64 s.n) := by rw [hB]; rfl
  have y3 : B[3]? = some (.int .i64 s.b) := by rw [hB]; rfl
  have y4 : B[4]? = some (.int .u32 s.m) := by rw [hB]; rfl
  have y5 : B[5]? = some (.int .i64 s.ek) := by rw [hB]; rfl
  have y6 : B[6]? = some (.string s.p) := by rw [hB]; rfl
  have y7 : B[7]? = some (.string s.t) := by rw [hB]; rfl
  have y8 : B[8]? = some (.slice bxA s.x.length bxc) := by rw [hB]; rfl
  have y9 : B[9]? = some (.slice bkA s.kl.length bkc) := by rw [hB]; rfl
  have y10 : B[10]? = some (.slice bcA s.cl.length bcc) := by rw [hB]; rfl
  clear hA hB
  have hbw : Below w.heap.size w ((w.alloc (.cells A 57)).alloc (.cells B 57)) := (by repeat (first | exact Below.refl _ _ | refine Below.alloc ?_ (by simp) _ | refine Below.setCell ?_ (by simp) _ | refine Below.drew ?_))
  have k1 := conv_by (a1.below hbw) axc
  have k2 := conv_by (b1.below hbw) bxc
  replace a2 := a2.below hbw
  replace a3 := a3.below hbw
  replace b2 := b2.below hbw
  replace b3 := b3.below hbw
  clear a1 b1 fit
  have z1 := @self_neq s.p
  have z2 := @self_neq s.t
  have z3 := @self_neql s.x
  have bA := (Blk.new w 57 A).alloc (.cells B 57)
  have bB := Blk.new (w.alloc (.cells A 57)) 57 B
  rw [World.size_alloc] at bB
  go_enter Try.func36, Try.ntmps36
  go_wp2_with fail
  have e9 := (bA.cell 9).trans x9
  have e10 := (bA.cell 10).trans x10
  have f9 := (bB.cell 9).trans y9
  have f10 := (bB.cell 10).trans y10
  have bA' := bA.lt
  have bB' := bB.lt
  clear bA bB k1 k2 x0 x1 x2 x3 x4 x5 x6 x7 x8 x9 x10 y0 y1 y2 y3 y4 y5 y6 y7 y8 y9 y10 z1 z2 z3
  generalize (w.alloc (.cells A 57)).alloc (.cells B 57) = W at *

  go_loopw [5] (fun iv wr => ∃ i : Nat, i ≤ s.kl.length ∧ iv = .int .i64 (i : Int) ∧ Below W.heap.size W wr) (fun iv _ => s.kl.length - (intOf iv).toNat)
  case atStart => exact ⟨0, Nat.zero_le _, rfl, Below.refl _ _⟩
  case round =>
    obtain ⟨i, hi, rfl, hb⟩ := hrel
    have e := cellAt hb bA' e9
    have f := cellAt hb bB' f9
    by_cases hlt : i < s.kl.length
    · obtain ⟨b, off, rfl, _, _, p0, p1⟩ := kv_at (a2.below hb) hlt
      obtain ⟨b', off', rfl, _, _, q0, q1⟩ := kv_at (b2.below hb) hlt
      generalize s.kl[i] = x at *
      skip
      go_wp2_with fail
      go_quiet (fail)
      go_wp2_with fail
      go_roundw
      case rel => exact ⟨i + 1, hlt, by go_num, hb.trans ((below_drewN _ _).mono hb.size)⟩
      case measure => simp [intOf]; omega
    · have ee : i = s.kl.length := by omega
      subst ee
      go_wp2_with fail
      obtain ⟨wk, rfl⟩ : ∃ wk : World, wk = wr := ⟨_, rfl⟩
      have hbK := hb
      go_loopw [6] (fun iv wr => ∃ i : Nat, i ≤ s.cl.length ∧ iv = .int .i64 (i : Int) ∧ Below W.heap.size W wr) (fun iv _ => s.cl.length - (intOf iv).toNat)
      case atStart => exact ⟨0, Nat.zero_le _, rfl, hbK⟩
      case round =>
        obtain ⟨i, hi, rfl, hb⟩ := hrel
        have e := cellAt hb bA' e10
        have f := cellAt hb bB' f10
        by_cases hlt : i < s.cl.length
        · obtain ⟨b, off, rfl, _, _, p0, p1⟩ := hw_at (a3.below hb) hlt
          obtain ⟨b', off', rfl, _, _, q0, q1⟩ := hw_at (b3.below hb) hlt
          generalize s.cl[i] = x at *
          have z4 := @self_neq x.p
          go_wp2_with fail
          go_quiet (fail)
          go_wp2_with fail
          go_roundw
          case rel => exact ⟨i + 1, hlt, by go_num, hb.trans ((below_drewN _ _).mono hb.size)⟩
          case measure => simp [intOf]; omega
        · have ee : i = s.cl.length := by omega
          subst ee
          go_wp2_with fail
          go_ret
          exact ⟨rfl, hbw.trans (hb.mono hbw.size)⟩
end Go.Proofs.Ytpbgcbpofhbgbaa
