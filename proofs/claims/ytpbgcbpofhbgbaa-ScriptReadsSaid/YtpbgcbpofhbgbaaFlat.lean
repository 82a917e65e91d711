/- Flat lists of cells. -/
import Derived.Test.YtpbgcbpofhbgbaaMem
namespace Go.Proofs.Ytpbgcbpofhbgbaa
open Go.RowKit

theorem flat_get {α : Type} {f : α → List Value} {k : Nat} (hk : ∀ x, (f x).length = k) : ∀ (l : List α) (i j : Nat) (hi : i < l.length), j < k → (l.flatMap f)[i * k + j]? = (f l[i])[j]?
  | x :: l, 0, j, _, hj => by
    rw [List.flatMap_cons, List.getElem?_append_left (by rw [hk]; omega)]
    simp
  | x :: l, i + 1, j, hi, hj => by
    have e : (i + 1) * k + j - (f x).length = i * k + j := by rw [hk, Nat.add_mul]; omega
    rw [List.flatMap_cons, List.getElem?_append_right (by rw [hk, Nat.add_mul]; omega), e, flat_get hk l i j (by simpa using hi) hj]
    simp
theorem flat_len {α : Type} {f : α → List Value} {k : Nat} (hk : ∀ x, (f x).length = k) : ∀ (l : List α), (l.flatMap f).length = l.length * k
  | [] => by simp
  | x :: l => by rw [List.flatMap_cons, List.length_append, hk, flat_len hk l, List.length_cons, Nat.add_mul]; omega

end Go.Proofs.Ytpbgcbpofhbgbaa
