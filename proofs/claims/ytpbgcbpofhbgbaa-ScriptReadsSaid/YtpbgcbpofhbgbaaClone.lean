/- bytes.Clone. -/
import Derived.Test.YtpbgcbpofhbgbaaMem
import Derived.Test.YtpbgcbpofhbgbaaShelf
namespace Go.Proofs.Ytpbgcbpofhbgbaa
open Go.RowKit

theorem clone_any (A : Option Addr) (c : Nat) (l : List UInt8) (Z : Nat → Prop) (w : World) (h : By w Z A l) (hlen : l.length ≤ 140737488355328) :
    Calls Try.prog 38 #[.slice A l.length c] w fun e w' => ∃ (A' : Option Addr) (c' : Nat) (l' : List UInt8), e = .returned (.slice A' l'.length c') ∧ Hid (l' = l) ∧ OwB w' w.heap.size (.slice A' l'.length c') l' ∧ Below w.heap.size w w' := by
  rcases A with _ | a
  · have hl : l = [] := by
      rcases l with _ | ⟨x, l⟩
      · rfl
      · obtain ⟨b, off, e, _⟩ := h.2 (by simp); cases e
    subst hl
    refine (Try.bytes_Clone_nil 0 c w).mono ?_
    rintro e w' ⟨rfl, rfl⟩
    exact ⟨none, 0, [], rfl, rfl, OwB.nil _ _, Below.refl _ _⟩
  · refine (Try.bytes_Clone_at a l.length c (l.map fun x => (x.toNat : Int)) w (by simp) hlen ?_).mono ?_
    · intro i hi
      have hg : (l.map bv)[i]? = some (bv l[i]) := by rw [List.getElem?_map, List.getElem?_eq_getElem hi]; rfl
      obtain ⟨b, off, e, _, _, hc⟩ := Rd.atj h hg
      injection e with e
      subst e
      rw [add_none, hc, List.getD_eq_getElem?_getD, List.getElem?_map, List.getElem?_eq_getElem hi]
      rfl
    · rintro e w' ⟨v, rfl, h1, _, hb⟩
      have ho : OwB w' w.heap.size v l := by
        unfold OwB
        have e2 : (l.map fun x => (x.toNat : Int)).map (Value.int .u8) = l.map bv := by simp [bv, Function.comp_def]
        rw [← e2]
        exact h1
      obtain ⟨A', c', rfl, _⟩ := ho.form
      exact ⟨A', c', l, rfl, rfl, ho, hb⟩

theorem own_ablk {w : World} {base : Nat} {A : Option Addr} {n c : Nat} {l : List UInt8} (h : OwB w base (.slice A n c) l) : ∀ b, ablk A = some b → base ≤ b ∧ b < w.heap.size := by
  intro b hb
  rcases A with _ | a
  · cases hb
  · exact h.lt b (by simpa [ablk, Value.ownBlock] using hb)

end Go.Proofs.Ytpbgcbpofhbgbaa
