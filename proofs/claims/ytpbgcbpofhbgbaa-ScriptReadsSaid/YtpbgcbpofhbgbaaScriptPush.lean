/- Rows of acts that a call makes: one more act. -/
import Derived.Test.YtpbgcbpofhbgbaaScriptRow
namespace Go.Proofs.Ytpbgcbpofhbgbaa
open Go.RowKit

/-- a row of acts of a call's own; what they hold lies in blocks of Z -/
structure ActRow (w : World) (base : Nat) (Z : Nat → Prop) (A : Option Addr) (c : Nat) (s : List AV) : Prop where
  row : Row w base 57 11 A s.length c (s.flatMap AV.cells)
  ok : ∀ v ∈ s, v.ok w (fun b => Z b ∧ ablk A ≠ some b)
namespace ActRow
variable {w w' : World} {base c : Nat} {Z : Nat → Prop} {A : Option Addr} {s : List AV}
theorem none_ (w : World) (base : Nat) (Z : Nat → Prop) : ActRow w base Z none 0 [] := ⟨Row.none_ _ _ _ _, by simp⟩
theorem fr {S : Nat → Prop} (h : ActRow w base Z A c s) (k : Fr S w w') (h1 : ∀ g, ablk A = some g → ¬ S g) (h2 : ∀ b, b < w.heap.size → Z b → ablk A ≠ some b → ¬ S b) : ActRow w' base Z A c s :=
  ⟨h.row.fr k h1, fun v hv => (h.ok v hv).fr k (fun b hb hz => h2 b hb hz.1 hz.2)⟩
theorem below (h : ActRow w base Z A c s) (k : Below w.heap.size w w') : ActRow w' base Z A c s := h.fr (Fr.of_below k (fun _ => False)) (fun _ _ h => h) (fun _ _ _ _ h => h)
theorem acts (h : ActRow w base Z A c s) (hz : ∀ b, base ≤ b → b < w.heap.size → Z b) (hl : s.length ≤ 4398046511104) : Acts w Z A s :=
  ⟨h.row.rd.mono (fun b hb e => hz b (h.row.lt b e).1 hb), fun v hv => (h.ok v hv).mono (fun _ _ h => h.1), hl⟩
theorem push {w4 : World} {A4 : Option Addr} {c4 : Nat} {v : AV} (h : ActRow w base Z A c s) (hv : v.ok w (fun b => Z b ∧ ablk A ≠ some b))
    (hrow : Row w4 base 57 11 A4 (s.length + 1) c4 (s.flatMap AV.cells ++ v.cells)) (hg : (w.alloc (.cells v.cells.toArray 57)).grownBy w4 (ablk A))
    (hat : ∀ g, ablk A4 = some g → ablk A = some g ∨ (w.alloc (.cells v.cells.toArray 57)).heap.size ≤ g) :
    ActRow w4 base Z A4 c4 (s ++ [v]) ∧ Fr (fun k => ablk A = some k) w w4 := by
  have fr4 := Fr.of_grown hg (S := fun k => ablk A = some k) (fun k _ e => e)
  have bl4 : Below w.heap.size w (w.alloc (.cells v.cells.toArray 57)) := (by repeat (first | exact Below.refl _ _ | refine Below.alloc ?_ (by simp) _ | refine Below.setCell ?_ (by simp) _ | refine Below.drew ?_))
  have fr5 : Fr (fun k => ablk A = some k) w w4 := (Fr.of_below bl4 _).trans fr4 (fun _ _ h => h)
  have hst : ∀ b, b < w.heap.size → ablk A ≠ some b → ablk A4 ≠ some b := fun b hb hn e => by
    rcases hat b e with h | h
    · exact hn h
    · simp at h; omega
  refine ⟨⟨?_, fun u hu => ?_⟩, fr5⟩
  · rw [List.length_append, List.flatMap_append, List.flatMap_cons, List.flatMap_nil, List.append_nil]
    exact hrow
  · have key : ∀ u : AV, u.ok w (fun b => Z b ∧ ablk A ≠ some b) → u.ok w4 (fun b => Z b ∧ ablk A4 ≠ some b) := fun u q =>
      ((q.mono (Z' := fun b => (Z b ∧ ablk A ≠ some b) ∧ b < w.heap.size) (fun b hb hz => ⟨hz, hb⟩)).fr fr5 (fun b _ hz e => hz.1.2 e)).mono (fun b _ hz => ⟨hz.1.1, hst b hz.2 hz.1.2⟩)
    rcases List.mem_append.1 hu with hu | hu
    · exact key u (h.ok u hu)
    · obtain rfl := List.mem_singleton.1 hu
      exact key u hv
end ActRow
theorem act_one1 (v : AV) : ∀ u ∈ v.cells, u.oneCell' = true := fun u hu => act_one [v] u (by simpa using hu)
end Go.Proofs.Ytpbgcbpofhbgbaa
