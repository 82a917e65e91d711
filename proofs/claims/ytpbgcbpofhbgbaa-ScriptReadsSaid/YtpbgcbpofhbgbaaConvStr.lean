/- []byte(s). -/
import Derived.Test.YtpbgcbpofhbgbaaMem
import Derived.Lib.ConvBytes
namespace Go.Proofs.Ytpbgcbpofhbgbaa
open Go.RowKit

theorem conv_str (w : World) (l : List UInt8) (hl : l.length ≤ maxLen) : ∃ c W, (convert 9 23 (.string ⟨⟨l⟩⟩)).run Try.prog w = .ok (.slice (some ⟨w.heap.size, 0, none⟩) l.length c) W ∧ By W (fun b => b = w.heap.size) (some ⟨w.heap.size, 0, none⟩) l ∧ l.length ≤ c ∧ c ≤ maxLen ∧ Below w.heap.size w W ∧ W.heap.size = w.heap.size + 1 := by
  refine ⟨_, _, Lib.run_convert_string_bytes w _ _ 5 ⟨⟨l⟩⟩ Try.underlying9 Try.underlying23 Try.underlying5, ?_, grownCap_ge _ _ _ _, grownCap_le_maxLen _ _ _ _ hl, ?_, Lib.bytesWorld_size _ _ _⟩
  · refine ⟨by simp, fun h => ⟨w.heap.size, 0, rfl, rfl, by rw [Lib.bytesWorld_size]; omega, fun j u hj => ?_⟩⟩
    have hjl : j < l.length := by
      by_cases h2 : j < l.length
      · exact h2
      · rw [List.getElem?_eq_none (by simpa using h2)] at hj; cases hj
    rw [Nat.zero_add, Lib.bytesWorld_cell w 5 ⟨⟨l⟩⟩ j hjl]
    simp [hjl, List.getD] at hj ⊢
    exact hj
  · exact ⟨rfl, rfl, rfl, by rw [Lib.bytesWorld_size]; omega, fun k hk => Lib.bytesWorld_at_old _ _ _ _ hk⟩
end Go.Proofs.Ytpbgcbpofhbgbaa
