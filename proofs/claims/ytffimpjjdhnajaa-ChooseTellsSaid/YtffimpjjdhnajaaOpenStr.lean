/- Arguments opened: strings. -/
import Derived.Test.YtffimpjjdhnajaaOpen2
import Derived.Test.YtffimpjjdhnajaaNameStr
import Derived.ChangeMaps5
namespace Go.Proofs.Ytffimpjjdhnajaa
open Go.RowKit Go.WideShapes Go.ChangeShapes Go.ChangeAt Go.ChangeMaps

section
variable {H : Type} {enc : TypeId × Value → H} {w : World} {spare : Nat → Bool} {held : Bool}
/-- a string -/
theorem open_str {r : Reach} {b0 : Nat} {v : Value} {d : DataW H} {p : List MemPlace} (hv : Value.okWide Try.prog w r b0 9 v) (h : DataW.Trod enc Try.prog w 0 spare held 9 v d p) (hw : Within 9 (d, p)) :
    ∃ s : ByteArray, v = .string s ∧ s.size ≤ 140737488355328 := by
  obtain ⟨s, rfl, hd, _, _⟩ := open_string Try.underlying9 hv h
  refine ⟨s, rfl, ?_⟩
  have h1 := hw s.data.toList.length (by rw [hd]; simp [DataW.weights])
  have h2 := reachBytes_lt
  have h3 : s.data.toList.length = s.size := tl_len s
  omega
end

end Go.Proofs.Ytffimpjjdhnajaa
