/- ScriptAny is true for every input: of any bytes come the document's acts, right ones alone, one for a byte at most. No condition beyond the row's own. -/
import Derived.Test.YtpbgcbpofhbgbaaScriptAnyR
import Derived.Test.YtpbgcbpofhbgbaaScriptLives
namespace Go.Proofs.Ytpbgcbpofhbgbaa
open Go.RowKit Go.WideShapes Go.ChangeShapes Go.ChangeAt

theorem anyF_right : ∀ (n : Nat) (l : List UInt8), ∀ a ∈ anyF n l, rightA a = true
  | 0, _, a, h => by simp [anyF] at h
  | n + 1, [], a, h => by simp [anyF] at h
  | n + 1, b :: r, a, h => by
    rw [anyF] at h
    rcases List.mem_cons.1 h with rfl | h
    · exact oneS_right _ b.toNat_lt _
    · exact anyF_right n _ a h
theorem anyF_pos (l : List UInt8) : 0 < (anyF l.length l).length ↔ 0 < l.length := by
  rcases l with _ | ⟨b, r⟩
  · simp [anyF]
  · simp [anyF]

theorem scriptAny_far (x : BV) (w : World) (hl : 2000 < x.l.length) :
    Calls Try.prog 6 #[x.v] w fun e w' => e = .returned (.bool true) ∧ Below w.heap.size w w' := by
  go_enter Try.func6, Try.ntmps6
  go_wp2_with fail
  refine (lives41_any _).mono ?_
  rintro e w1 ⟨rfl, hb1⟩
  go_wp2_with fail
  go_ret
  exact ⟨rfl, hb1⟩

set_option maxRecDepth 100000 in
set_option maxHeartbeats 1000000 in
theorem scriptAny_near (x : BV) (w : World) (hx : x.ok w (fun b => b < w.heap.size)) (hl : x.l.length ≤ 2000) :
    Calls Try.prog 6 #[x.v] w fun e w' => e = .returned (.bool true) ∧ Below w.heap.size w w' := by
  obtain ⟨xA, xc, l⟩ := x
  dsimp only at *
  unfold BV.v
  dsimp only
  have HX := Lib.hid hx
  clear hx
  go_enter Try.func6, Try.ntmps6
  go_wp2_with fail
  refine (any_any ⟨xA, xc, l⟩ w HX.out hl).mono ?_
  rintro e w1 ⟨A, c, s, rfl, hs, ha, hsl, hb1⟩
  dsimp only at hsl
  have hr : ∀ v ∈ s, rightA v.a = true := fun v hv => anyF_right _ _ v.a (by rw [← hs.out]; exact List.mem_map_of_mem hv)
  have hp : 0 < s.length ↔ 0 < l.length := by rw [← anyF_pos l, ← hs.out]; simp
  have HR := Lib.hid hr
  clear hr
  go_wp2_with fail
  go_loopw [14] (fun iv wr => ∃ i : Nat, i ≤ s.length ∧ iv = .int .i64 (i : Int) ∧ Below w1.heap.size w1 wr) (fun iv _ => s.length - (intOf iv).toNat)
  case atStart => exact ⟨0, Nat.zero_le _, rfl, Below.refl _ _⟩
  case round =>
    obtain ⟨i, hi, rfl, hb⟩ := hrel
    by_cases hlt : i < s.length
    · obtain ⟨b, off, rfl, _, hbl, p⟩ := av_at (ha.below hb).rd hlt
      have hv := (ha.below hb).ok _ (List.getElem_mem hlt)
      have hrv := HR.out _ (List.getElem_mem hlt)
      generalize s[i] = v at *
      have bl : Below wr.heap.size wr (wr.alloc (.cells #[.int .i64 v.a.k, .int .i64 v.a.s, .int .i64 v.a.n, .int .i64 v.a.b, .int .u32 v.a.m, .int .i64 v.a.ek, .string v.a.p, .string v.a.t, .slice v.xA v.a.x.length v.xc, .slice v.kA v.a.kl.length v.kc, .slice v.cA v.a.cl.length v.cc] 57)) := (by repeat (first | exact Below.refl _ _ | refine Below.alloc ?_ (by simp) _ | refine Below.setCell ?_ (by simp) _ | refine Below.drew ?_))
      have HC := Lib.hid (check_any v _ (wr.alloc (.cells #[.int .i64 v.a.k, .int .i64 v.a.s, .int .i64 v.a.n, .int .i64 v.a.b, .int .u32 v.a.m, .int .i64 v.a.ek, .string v.a.p, .string v.a.t, .slice v.xA v.a.x.length v.xc, .slice v.kA v.a.kl.length v.kc, .slice v.cA v.a.cl.length v.cc] 57)) (hv.below bl))
      rw [hrv] at HC
      obtain ⟨p0, p1, p2, p3, p4, p5, p6, p7, p8, p9, p10⟩ := p
      have hsz := hb.size
      go_wp2_with fail
      refine HC.out.mono ?_
      rintro e w3 ⟨rfl, hb3⟩
      clear HC p0 p1 p2 p3 p4 p5 p6 p7 p8 p9 p10
      go_wp2_with fail
      go_roundw
      case rel => exact ⟨i + 1, hlt, by go_num, (hb.trans (bl.mono hsz)).trans (hb3.mono (Nat.le_trans hsz bl.size))⟩
      case measure => simp [intOf]; omega
    · have e : i = s.length := by omega
      subst e
      have hbw := hb1.trans (hb.mono hb1.size)
      have hq : decide (0 < s.length) = decide (0 < l.length) := by simp only [hp]
      have ha2 := ha.below hb
      clear hp ha
      obtain ⟨B, hB1, hB2⟩ : ∃ B, decide (0 < s.length) = B ∧ decide (0 < l.length) = B := ⟨_, hq, rfl⟩
      clear hq
      have q1 : decide ((s.length : Int) ≤ (l.length : Int)) = true := by simp; omega
      go_wp2_with fail
      refine (anyR_any ⟨xA, xc, l⟩ wr (HX.out.below hbw |>.mono (fun b _ h => by have := hbw.size; omega)) hl).mono ?_
      rintro e w4 ⟨A4, c4, m, rfl, hm, ha4, _, hb4⟩
      go_wp2_with fail
      refine (same41_any A A4 c c4 s m _ _ w4 (ha2.below hb4) ha4 (by show _ = _; rw [hs.out, hm.out])).mono ?_
      rintro e w5 ⟨rfl, hb5⟩
      have hb6 := (hbw.trans (hb4.mono hbw.size)).trans (hb5.mono (Nat.le_trans hbw.size hb4.size))
      clear hm ha4 hs ha2
      cases B
      all_goals
        go_wp2_with fail
        refine (lives41_any _).mono ?_
        rintro e w6 ⟨rfl, hb7⟩
        go_wp2_with fail
        go_ret
        exact ⟨rfl, hb6.trans (hb7.mono hb6.size)⟩
end Go.Proofs.Ytpbgcbpofhbgbaa
