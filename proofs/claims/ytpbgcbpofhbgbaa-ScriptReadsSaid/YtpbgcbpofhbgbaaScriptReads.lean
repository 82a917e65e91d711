/- ScriptReads is true for every input: the acts of any bytes, or why there are none, are the document's; they have just these bytes. No condition beyond the row's own. -/
import Derived.Test.YtpbgcbpofhbgbaaScriptReadR
import Derived.Test.YtpbgcbpofhbgbaaScriptBack
import Derived.Test.YtpbgcbpofhbgbaaScriptLives
import Derived.Test.YtpbgcbpofhbgbaaGrainNum
namespace Go.Proofs.Ytpbgcbpofhbgbaa
open Go.RowKit Go.WideShapes Go.ChangeShapes Go.ChangeAt

theorem scriptReads_far (x : BV) (w : World) (hl : 4000 < x.l.length) :
    Calls Try.prog 7 #[x.v] w fun e w' => e = .returned (.bool true) ∧ Below w.heap.size w w' := by
  go_enter Try.func7, Try.ntmps7
  go_wp2_with fail
  refine (lives41_any _).mono ?_
  rintro e w1 ⟨rfl, hb1⟩
  go_wp2_with fail
  go_ret
  exact ⟨rfl, hb1⟩

set_option maxRecDepth 100000 in
set_option maxHeartbeats 1000000 in
theorem scriptReads_near (x : BV) (w : World) (hx : x.ok w (fun b => b < w.heap.size)) (hl : x.l.length ≤ 4000) :
    Calls Try.prog 7 #[x.v] w fun e w' => e = .returned (.bool true) ∧ Below w.heap.size w w' := by
  obtain ⟨xA, xc, l⟩ := x
  dsimp only at *
  unfold BV.v
  dsimp only
  have HX := Lib.hid hx
  clear hx
  go_enter Try.func7, Try.ntmps7
  go_wp2_with fail
  refine (readP_any ⟨xA, xc, l⟩ w HX.out (by dsimp only; omega)).mono ?_
  rintro e w1 ⟨A, c, s, g, rfl, hs, ha, hb1, hcap⟩
  go_wp2_with fail
  refine (readR_any ⟨xA, xc, l⟩ w1 ((HX.out.below hb1).mono (fun b _ h => by have := hb1.size; omega)) (by dsimp only; omega)).mono ?_
  rintro e w2 ⟨B, d, t, g2, rfl, ht, hb, hb2⟩
  obtain ⟨hst, rfl⟩ := hs.one ht
  have hw2 := hb1.trans (hb2.mono hb1.size)
  have HS := Lib.hid hs
  have HST := Lib.hid hst
  have HCP := Lib.hid hcap
  clear hs ht hst hcap
  have gg : (g != g) = false := by simp
  go_wp2_with fail
  refine (same41_any A B c d s t _ _ w2 (ha.below hb2) hb HST).mono ?_
  rintro e w3 ⟨rfl, hb3⟩
  have hw3 := hw2.trans (hb3.mono hw2.size)
  have ha3 := (ha.below hb2).below hb3
  clear ha hb HST
  cases hg : (g != 0)
  · obtain rfl : g = 0 := by simpa using hg
    have hws := HS.out.back
    have hs1 := hb1.size
    have hs2 := hb2.size
    have hs3 := hb3.size
    go_wp2_with fail
    refine (write_any A c s w3 ⟨ha3.rd.mono (fun b hb _ => hb), fun v hv => (ha3.ok v hv).mono (fun b hb _ => hb), ha3.len⟩ HCP.out).mono ?_
    rintro e w4 ⟨C, k, b, rfl, hbb, hby, _, _, hb4⟩
    have hbl := hbb.out
    (try dsimp only at hws)
    rw [hws] at hbl
    (try dsimp only at hbl)
    obtain rfl : l = b := hbl.symm
    rw [hws]
    have hw4 := hw3.trans (hb4.mono hw3.size)
    clear hws hbb HS ha3
    go_wp2_with fail
    refine (refSame_any C xA k xc l l _ _ w4 hby (HX.out.below hw4).1).mono ?_
    rintro e w5 ⟨rfl, rfl⟩
    have hll : (l == l) = true := by simp
    rw [hll]
    go_wp2_with fail
    refine (lives41_any _).mono ?_
    rintro e w6 ⟨rfl, hb6⟩
    go_wp2_with fail
    go_ret
    exact ⟨rfl, hw4.trans (hb6.mono hw4.size)⟩
  · go_wp2_with fail
    refine (lives41_any _).mono ?_
    rintro e w6 ⟨rfl, hb6⟩
    go_wp2_with fail
    go_ret
    exact ⟨rfl, hw3.trans (hb6.mono hw3.size)⟩
end Go.Proofs.Ytpbgcbpofhbgbaa
