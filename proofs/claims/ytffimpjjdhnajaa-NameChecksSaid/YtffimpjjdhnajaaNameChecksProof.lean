/- NameChecks is true for every input: whether any text is a path, and a user's, its parts, and how many, are the document's; parts make the path that they say, if it is one. No condition beyond the row's own. -/
import Derived.Test.YtffimpjjdhnajaaNameChecks
import Derived.Test.YtffimpjjdhnajaaOpenStr
namespace Go.Proofs.Ytffimpjjdhnajaa
open Go.RowKit Go.WideShapes Go.ChangeShapes Go.ChangeAt Go.ChangeMaps

section
variable {H : Type} {enc : TypeId × Value → H} {w : World} {spare : Nat → Bool} {held : Bool}
/-- a []string -/
theorem open_texts {n : Nat} {v : Value} {x : DataW H × List MemPlace} (h : DataW.trod enc Try.prog w 0 spare held n 31 [v] = some x) (hw : Within 31 x) :
    ∃ (A : Option Addr) (c : Nat) (l : List (List UInt8)), v = .slice A l.length c ∧ Texts w (fun b => b < w.heap.size) A c l := by
  obtain ⟨A, c, l, rfl, h1, h2, h3, h4, h5⟩ := open_sl (w := w) (enc := enc) (spare := spare) (held := held) (fun x : List UInt8 => [stv x]) (fun x => x.length ≤ 140737488355328) 1 16 (t := 31) (e := 9) Try.underlying31 (by kernel_rfl) (by kernel_rfl) (by omega)
    (fun n cs x hx hw => by
      obtain ⟨s, rfl, hx2, _⟩ := DataW.trod_string Try.underlying9 hx
      refine ⟨tl s, rfl, ?_⟩
      have h1 := hw s.data.toList.length (by rw [hx2]; simp [DataW.weights])
      have h2 := reachBytes_lt
      show s.data.toList.length ≤ _
      omega) h hw
  refine ⟨A, c, l, rfl, ⟨by rw [flat_single] at h3; exact h3, h4, ?_, h1⟩⟩
  have := reachBytes_lt
  omega
end

set_option maxRecDepth 100000 in
theorem nameChecks_lifted (os : Os) (started : os.Started) (H : Type) (enc : TypeId × Value → H) :
    ReturnsInHanded {} Try.checked os 6 .any (Rows.nameChecksSpec.pre6 enc Try.prog Try.f6 Rows.nameChecksRow.domain false) (Rows.nameChecksSpec.post enc Try.prog Try.f6 false true false false) := by
  refine law_lift started (by kernel_rfl) Try.func6 (by kernel_rfl) rfl ?_ ?_
    (ChangeSpec.witness6 (enc := enc) (C := Try.checked) false ⟨#[], #[.string ⟨#[]⟩, .slice none 0 0], []⟩ 8 (by kernel_rfl) (by kernel_rfl) (by kernel_rfl) (by kernel_rfl)) ?_
  · rw [Try.params6]
    intro t ht
    exact law_reads (by kernel_rfl) t ht
  · rw [Try.params6]
    intro ds hds
    match ds, hds with
    | [d1, d2], _ => rfl
  · intro W base args ds ps hval hA hlt hsz
    rw [Try.params6] at hA hval hsz
    obtain ⟨v0, v1, d0, d1, p0, p1, rfl, rfl, rfl, h0, h1⟩ := trodAll_two hA
    obtain ⟨p, rfl, hp⟩ := open_str (hval 0 9 v0 rfl rfl) h0 (within_of (j := 0) hsz rfl rfl)
    obtain ⟨A0, n0, c0, rfl⟩ := okWide_slice Try.underlying31 (hval 1 31 v1 rfl rfl)
    obtain ⟨k1, h1⟩ := h1
    obtain ⟨A, c, l, e, hl⟩ := open_texts h1 (within_of (j := 1) hsz rfl rfl)
    rw [e]
    by_cases hn : p.size ≤ 200 ∧ sumS l ≤ 200 ∧ l.length ≤ 20
    · obtain ⟨n1, n2, n3⟩ := hn
      cases hg : goodB (tl p) <;> cases hj : goodB (pasteL l)
      · exact nameChecks_no0 p A c l W hl n1 n2 n3 hg hj trivial
      · cases hjl : (cutL (pasteL l) == l)
        · exact nameChecks_no1 p A c l W hl n1 n2 n3 hg hj hjl
        · exact nameChecks_no2 p A c l W hl n1 n2 n3 hg hj hjl
      · exact nameChecks_yes0 p A c l W hl n1 n2 n3 hg hj trivial
      · cases hjl : (cutL (pasteL l) == l)
        · exact nameChecks_yes1 p A c l W hl n1 n2 n3 hg hj hjl
        · exact nameChecks_yes2 p A c l W hl n1 n2 n3 hg hj hjl
    · exact nameChecks_far p A c l W hl hn


theorem nameChecks_holds : Rows.NameChecksSaid :=
  OpenClaim.holds_of_wide 6 Try.f6 rfl rfl rfl rfl rfl rfl rfl ⟨rfl, rfl, rfl, rfl, rfl⟩ rfl rfl rfl rfl rfl (by kernel_rfl) Try.func6 (by kernel_rfl)
    (of_decide_eq_true (by kernel_rfl)) (by unfold Func.isWrapper; rw [if_neg (of_decide_eq_false (by kernel_rfl))]; exact ⟨rfl, rfl⟩)
    (fun os started H enc _ => nameChecks_lifted os started H enc)
end Go.Proofs.Ytffimpjjdhnajaa
