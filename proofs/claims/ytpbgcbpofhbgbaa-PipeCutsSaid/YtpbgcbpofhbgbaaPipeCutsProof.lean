/- PipeCuts is true for every input: what is taken, however it is cut, is what was sent, parcel by parcel, but for those that were dropped. No condition beyond the row's own. -/
import Derived.Test.YtpbgcbpofhbgbaaPipeCutsFar
import Derived.Test.YtpbgcbpofhbgbaaOpenP
namespace Go.Proofs.Ytpbgcbpofhbgbaa
open Go.RowKit Go.WideShapes Go.ChangeShapes Go.ChangeAt Go.Deep

section
variable {H : Type} {enc : TypeId × Value → H} {w : World} {spare : Nat → Bool} {held : Bool}
/-- a [][]byte -/
theorem open_bss {n : Nat} {v : Value} {x : DataW H × List MemPlace} (h : DataW.trod enc Try.prog w 0 spare held n 22 [v] = some x) (hw : Within 22 x) :
    ∃ (A : Option Addr) (c : Nat) (l : List BV), v = .slice A l.length c ∧ Bss w (fun b => b < w.heap.size) A l := by
  obtain ⟨A, c, l, rfl, h1, h2, h3, h4, h5⟩ := open_sl (w := w) (enc := enc) (spare := spare) (held := held) (fun x : BV => [x.v]) (fun x => x.ok w (fun b => b < w.heap.size) ∧ x.l.length ≤ 140737488355328) 1 24 (t := 22) (e := 23) Try.underlying22 (by kernel_rfl) (by kernel_rfl) (by omega)
    (fun n cs x hx hw => by
      obtain ⟨u, rfl⟩ : ∃ u, cs = [u] := by
        rcases open_slice Try.underlying23 hx with ⟨hcs, _⟩ | ⟨a, len, cap, m, n', D, Pl, hcs, _⟩
        · exact ⟨_, hcs⟩
        · exact ⟨_, hcs⟩
      obtain ⟨b, rfl, hb, hbl⟩ := open_bv hx hw
      exact ⟨b, rfl, hb, hbl⟩) h hw
  refine ⟨A, c, l, rfl, ⟨by rw [flat_single] at h3; exact h3, fun x hx => (h4 x hx).1, fun x hx => (h4 x hx).2, ?_⟩⟩
  have := reachBytes_lt
  omega
end

set_option maxRecDepth 100000 in
theorem pipeCuts_lifted (os : Os) (started : os.Started) (H : Type) (enc : TypeId × Value → H) :
    ReturnsInHanded {} Try.checked os 3 .any (Rows.pipeCutsSpec.pre6 enc Try.prog Try.f3 Rows.pipeCutsRow.domain false) (Rows.pipeCutsSpec.post enc Try.prog Try.f3 false true false false) := by
  refine law_lift started (by kernel_rfl) Try.func3 (by kernel_rfl) rfl ?_ ?_
    (ChangeSpec.witness6 (enc := enc) (C := Try.checked) false ⟨#[], #[.slice none 0 0, .slice none 0 0, .slice none 0 0], []⟩ 8 (by kernel_rfl) (by kernel_rfl) (by kernel_rfl) (by kernel_rfl)) ?_
  · rw [Try.params3]
    intro t ht
    exact law_reads (by kernel_rfl) t ht
  · rw [Try.params3]
    intro ds hds
    match ds, hds with
    | [d1, d2, d3], _ => rfl
  · intro W base args ds ps hval hA hlt hsz
    rw [Try.params3] at hA hval hsz
    obtain ⟨v0, v1, v2, d0, d1, d2, p0, p1, p2, rfl, rfl, rfl, h0, h1, h2⟩ := trodAll_three hA
    obtain ⟨A0, n0, c0, rfl⟩ := okWide_slice Try.underlying22 (hval 0 22 v0 rfl rfl)
    obtain ⟨A1, n1, c1, rfl⟩ := okWide_slice Try.underlying23 (hval 1 23 v1 rfl rfl)
    obtain ⟨A2, n2, c2, rfl⟩ := okWide_slice Try.underlying23 (hval 2 23 v2 rfl rfl)
    obtain ⟨k0, h0⟩ := h0
    obtain ⟨k1, h1⟩ := h1
    obtain ⟨k2, h2⟩ := h2
    obtain ⟨A, c, l, e0, hl⟩ := open_bss h0 (within_of (j := 0) hsz rfl rfl)
    obtain ⟨⟨gA, gc, gl⟩, e1, hg, hgl⟩ := open_bv h1 (within_of (j := 1) hsz rfl rfl)
    obtain ⟨⟨kA, kc, kl⟩, e2, hk, hkl⟩ := open_bv h2 (within_of (j := 2) hsz rfl rfl)
    rw [e0, e1, e2]
    by_cases hn : l.length ≤ 100 ∧ lensB l ≤ 10000 ∧ gl.length ≤ 50 ∧ kl.length ≤ 500
    · exact pipeCuts_near A c l gA kA gc kc gl kl W hl hg.by_ hk.by_ hn.1 hn.2.1 hn.2.2.1 hn.2.2.2
    · exact pipeCuts_far A c l gA kA gc kc gl kl W hl hn


theorem pipeCuts_holds : Rows.PipeCutsSaid :=
  OpenClaim.holds_of_wide 3 Try.f3 rfl rfl rfl rfl rfl rfl rfl ⟨rfl, rfl, rfl, rfl, rfl⟩ rfl rfl rfl rfl rfl (by kernel_rfl) Try.func3 (by kernel_rfl)
    (of_decide_eq_true (by kernel_rfl)) (by unfold Func.isWrapper; rw [if_neg (of_decide_eq_false (by kernel_rfl))]; exact ⟨rfl, rfl⟩)
    (fun os started H enc _ => pipeCuts_lifted os started H enc)
end Go.Proofs.Ytpbgcbpofhbgbaa
