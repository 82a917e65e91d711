/- A store into an owned row of bytes. -/
import Derived.Test.YtofllgmieciakabPenNew
namespace Go.Proofs.Ytofllgmieciakab
open Go.RowKit

theorem OwB.cellAt {w : World} {base g c : Nat} {l : List UInt8} (h : OwB w base (.slice (some ⟨g, 0, none⟩) l.length c) l) {i : Nat} (hi : i < l.length) : w.cell? ⟨g, i, none⟩ = some (bv l[i]) := by
  have := World.ownsRow.cellAt h i (by omega)
  rw [this, List.getElem?_map, List.getElem?_eq_getElem hi]
  rfl
theorem OwB.frozenAt {w : World} {base g c : Nat} {l : List UInt8} (h : OwB w base (.slice (some ⟨g, 0, none⟩) l.length c) l) (i : Nat) : w.frozen? ⟨g, i, none⟩ = false := World.ownsRow.frozenAt h i
theorem OwB.put {w : World} {base g c : Nat} {l : List UInt8} (h : OwB w base (.slice (some ⟨g, 0, none⟩) l.length c) l) (i : Nat) (d : UInt8) : OwB (w.setCell ⟨g, i, none⟩ (bv d)) base (.slice (some ⟨g, 0, none⟩) (l.set i d).length c) (l.set i d) := by
  have := World.ownsRow.stored h i (bv d)
  unfold OwB
  rw [List.length_set, List.map_set]
  exact this.1
/-- a row that is not empty has a block -/
theorem OwB.block {w : World} {base c : Nat} {A : Option Addr} {l : List UInt8} (h : OwB w base (.slice A l.length c) l) (hl : 0 < l.length) : ∃ g, A = some ⟨g, 0, none⟩ ∧ base ≤ g ∧ g < w.heap.size := by
  obtain ⟨g, cap, hv, _, hlt⟩ := World.ownsRow.form h hl
  injection hv with hA
  exact ⟨g, hA, (h.lt g (by rw [hA]; rfl)).1, hlt⟩
/-- []byte{} -/
theorem OwB.lit0 (w : World) {base : Nat} (hb : base ≤ w.heap.size) : OwB (w.alloc (.cells #[] 5)) base (.slice (some ⟨w.heap.size, 0, none⟩) 0 0) [] := by
  have := World.ownsRow_lit (base := base) (e := 5) (size := 1) w #[] 0 hb (by simp [maxLen]) (by simp)
  exact this
theorem bv_inc (d : UInt8) : Value.int .u8 (IntKind.u8.wrap ((d.toNat : Int) + 1)) = bv (d + 1) := by
  have hd := d.toNat_lt
  unfold bv
  rw [UInt8.toNat_add]
  have h1 : (1 : UInt8).toNat = 1 := rfl
  rw [h1]
  congr 1
end Go.Proofs.Ytofllgmieciakab
