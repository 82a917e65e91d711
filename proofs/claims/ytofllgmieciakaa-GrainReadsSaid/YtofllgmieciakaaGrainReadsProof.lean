/- GrainReads is true for every input: whatever is read of any bytes, and the fault, is what the document says; a nil eye reads nothing. No condition beyond the row's own. -/
import Derived.Test.YtofllgmieciakaaGrainReads
namespace Go.Proofs.Ytofllgmieciakaa
open Go.RowKit Go.WideShapes Go.ChangeShapes Go.ChangeAt

set_option maxRecDepth 100000 in
set_option maxHeartbeats 400000 in
theorem grainReads_far (xA : Option Addr) (xn xc : Nat) (A : Option Addr) (c : Nat) (l : List OpV) (w : World) (h : Ops w (fun b => b < w.heap.size) A l) (hx : 3000 < xn ∨ lightB l = false) :
    Calls Try.prog 7 #[.slice xA xn xc, .slice A l.length c] w fun e w' => e = .returned (.bool true) ∧ Below w.heap.size w w' := by
  by_cases h1 : 3000 < xn
  · clear hx
    go_enter Try.func7, Try.ntmps7
    go_wp2_with fail
    refine (lives01_any _).mono ?_
    rintro e w2 ⟨rfl, hb2⟩
    go_wp2_with fail
    go_ret
    exact ⟨rfl, hb2⟩
  · have hl : lightB l = false := hx.resolve_left h1
    clear hx
    go_enter Try.func7, Try.ntmps7
    go_wp2_with fail
    refine (light01_any A c l _ w h).mono ?_
    rintro e w1 ⟨rfl, hb1⟩
    rw [hl]
    go_wp2_with fail
    refine (lives01_any _).mono ?_
    rintro e w2 ⟨rfl, hb2⟩
    go_wp2_with fail
    go_ret
    exact ⟨rfl, bthen hb1 hb2⟩

set_option maxRecDepth 100000 in
theorem grainReads_lifted (os : Os) (started : os.Started) (H : Type) (enc : TypeId × Value → H) :
    ReturnsInHanded {} Try.checked os 7 .any (Rows.grainReadsSpec.pre6 enc Try.prog Try.f7 Rows.grainReadsRow.domain false) (Rows.grainReadsSpec.post enc Try.prog Try.f7 false true false false) := by
  refine law_lift started (by kernel_rfl) Try.func7 (by kernel_rfl) rfl ?_ ?_
    (ChangeSpec.witness6 (enc := enc) (C := Try.checked) false ⟨#[], #[.slice none 0 0, .slice none 0 0], []⟩ 8 (by kernel_rfl) (by kernel_rfl) (by kernel_rfl) (by kernel_rfl)) ?_
  · rw [Try.params7]
    intro t ht
    exact law_reads (by kernel_rfl) t ht
  · rw [Try.params7]
    intro ds hds
    match ds, hds with
    | [d1, d2], _ => rfl
  · intro W base args ds ps hval hA hlt hsz
    rw [Try.params7] at hA hval hsz
    obtain ⟨v0, v1, d0, d1, p0, p1, rfl, rfl, rfl, h0, h1⟩ := trodAll_two hA
    obtain ⟨n0, hn0⟩ := h0
    obtain ⟨n1, hn1⟩ := h1
    obtain ⟨A0, m0, c0, rfl⟩ := okWide_slice Try.underlying41 (hval 0 41 v0 rfl rfl)
    obtain ⟨A1, m1, c1, rfl⟩ := okWide_slice Try.underlying39 (hval 1 39 v1 rfl rfl)
    obtain ⟨x, hv0, hx, _⟩ := open_bv hn0 (within_of (j := 0) hsz rfl rfl)
    obtain ⟨A, c, l, hv1, hl⟩ := open_ops hn1 (within_of (j := 1) hsz rfl rfl)
    rw [hv0, hv1]
    by_cases hxl : 3000 < x.l.length
    · exact grainReads_far x.A x.l.length x.c A c l W hl (.inl hxl)
    · cases hg : lightB l
      · exact grainReads_far x.A x.l.length x.c A c l W hl (.inr hg)
      · exact grainReads_near x A c l W hx hl hxl hg


theorem grainReads_holds : Rows.GrainReadsSaid :=
  OpenClaim.holds_of_wide 7 Try.f7 rfl rfl rfl rfl rfl rfl rfl ⟨rfl, rfl, rfl, rfl, rfl⟩ rfl rfl rfl rfl rfl (by kernel_rfl) Try.func7 (by kernel_rfl)
    (of_decide_eq_true (by kernel_rfl)) (by unfold Func.isWrapper; rw [if_neg (of_decide_eq_false (by kernel_rfl))]; exact ⟨rfl, rfl⟩)
    (fun os started H enc _ => grainReads_lifted os started H enc)
end Go.Proofs.Ytofllgmieciakaa
