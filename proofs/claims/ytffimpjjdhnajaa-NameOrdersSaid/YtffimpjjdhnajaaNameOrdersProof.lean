/- NameOrders is true for every input: how any texts stand is the document's order: of three texts, too; whatever is under a path stands right behind it, ahead of all other paths that are behind it. No condition beyond the row's own. -/
import Derived.Test.YtffimpjjdhnajaaNameOrders
import Derived.Test.YtffimpjjdhnajaaOpen2
import Derived.ChangeMaps5
namespace Go.Proofs.Ytffimpjjdhnajaa
open Go.RowKit Go.WideShapes Go.ChangeShapes Go.ChangeAt Go.ChangeMaps

section
variable {H : Type} {enc : TypeId × Value → H} {w : World} {spare : Nat → Bool} {held : Bool}
/-- a string -/
theorem open_str {r : Reach} {b0 : Nat} {v : Value} {d : DataW H} {p : List MemPlace} (hv : Value.okWide Try.prog w r b0 9 v) (h : DataW.Trod enc Try.prog w 0 spare held 9 v d p) (hw : Within 9 (d, p)) :
    ∃ s : ByteArray, v = .string s ∧ s.size ≤ 140737488355328 := by
  obtain ⟨s, rfl, hd, _, _⟩ := open_string Try.underlying9 hv h
  refine ⟨s, rfl, ?_⟩
  have h1 := hw s.data.toList.length (by rw [hd]; simp [DataW.weights])
  have h2 := reachBytes_lt
  have h3 : s.data.toList.length = s.size := tl_len s
  omega
end

set_option maxRecDepth 100000 in
theorem nameOrders_lifted (os : Os) (started : os.Started) (H : Type) (enc : TypeId × Value → H) :
    ReturnsInHanded {} Try.checked os 3 .any (Rows.nameOrdersSpec.pre6 enc Try.prog Try.f3 Rows.nameOrdersRow.domain false) (Rows.nameOrdersSpec.post enc Try.prog Try.f3 false true false false) := by
  refine law_lift started (by kernel_rfl) Try.func3 (by kernel_rfl) rfl ?_ ?_
    (ChangeSpec.witness6 (enc := enc) (C := Try.checked) false ⟨#[], #[.string ⟨#[]⟩, .string ⟨#[]⟩, .string ⟨#[]⟩], []⟩ 8 (by kernel_rfl) (by kernel_rfl) (by kernel_rfl) (by kernel_rfl)) ?_
  · rw [Try.params3]
    intro t ht
    exact law_reads (by kernel_rfl) t ht
  · rw [Try.params3]
    intro ds hds
    match ds, hds with
    | [d1, d2, d3], _ => rfl
  · intro W base args ds ps hval hA hlt hsz
    rw [Try.params3] at hA hval hsz
    obtain ⟨v0, v1, v2, d0, d1, d2, p0, p1, p2, rfl, rfl, rfl, h0, h1, h2⟩ := trodAll_three hA
    obtain ⟨a, rfl, ha⟩ := open_str (hval 0 9 v0 rfl rfl) h0 (within_of (j := 0) hsz rfl rfl)
    obtain ⟨b, rfl, hb⟩ := open_str (hval 1 9 v1 rfl rfl) h1 (within_of (j := 1) hsz rfl rfl)
    obtain ⟨c, rfl, hc⟩ := open_str (hval 2 9 v2 rfl rfl) h2 (within_of (j := 2) hsz rfl rfl)
    exact nameOrders_any a b c ha hb hc W


theorem nameOrders_holds : Rows.NameOrdersSaid :=
  OpenClaim.holds_of_wide 3 Try.f3 rfl rfl rfl rfl rfl rfl rfl ⟨rfl, rfl, rfl, rfl, rfl⟩ rfl rfl rfl rfl rfl (by kernel_rfl) Try.func3 (by kernel_rfl)
    (of_decide_eq_true (by kernel_rfl)) (by unfold Func.isWrapper; rw [if_neg (of_decide_eq_false (by kernel_rfl))]; exact ⟨rfl, rfl⟩)
    (fun os started H enc _ => nameOrders_lifted os started H enc)
end Go.Proofs.Ytffimpjjdhnajaa
