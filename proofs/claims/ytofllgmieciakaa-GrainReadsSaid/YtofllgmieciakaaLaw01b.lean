/- tenderlaw01.lives; a new pen. -/
import Derived.Test.YtofllgmieciakaaLaw01
namespace Go.Proofs.Ytofllgmieciakaa
open Go.RowKit

theorem PenTo.low {a b : World} {base pb B : Nat} {v v' : Value} {l l' : List UInt8} (h : PenTo a base pb v l' b v') (ho : OwB a base v l) (hp : B ≤ pb) (hB : B ≤ base) (hs : B ≤ a.heap.size) : Below B a b :=
  h.fr.below hs (fun k hk => by
    rintro (rfl | e)
    · omega
    · have := (ho.lt _ e).1; omega)
theorem Pen.low {a b : World} {base pb B : Nat} {v v' : Value} {l l' : List UInt8} (h : Pen a base pb v l) (k : PenTo a base pb v l' b v') (hp : B ≤ pb) (hB : B ≤ base) (hs : B ≤ a.heap.size) : Below B a b := k.low h.own hp hB hs
/-- var p grain.Pen -/
theorem Pen.new (w : World) {base : Nat} : Pen (w.alloc (.cells #[.slice none 0 0] 43)) base w.heap.size (.slice none 0 0) [] := ⟨Blk.new _ _ _, OwB.nil _ _⟩

set_option maxHeartbeats 400000 in
theorem lives01_any (w : World) : Calls Try.prog 21 #[] w fun e w' => e = .returned (.bool true) ∧ Below w.heap.size w w' := by
  go_enter Try.func21, Try.ntmps21
  go_wp2_with fail
  refine (Num_any w.heap.size w.heap.size (.slice none 0 0) [] _ _ [0, 5, 256] (fun b => (w.alloc (.cells #[.slice none 0 0] 43)).heap.size ≤ b) _ ?_ ?_ ?_ ?_ (by simp; omega) (by simp)).mono ?_
  · exact (Pen.new w).alloc _
  · exact Rd.lit rfl rfl (by simp)
  · rintro b _ hb (rfl | h)
    · simp at hb; omega
    · simp [Value.ownBlock] at h
  · simp
  rintro e w1 ⟨rfl, v1, h1⟩
  have hb1 := ((Pen.new w).alloc _).low h1 (Nat.le_refl _) (Nat.le_refl _) (by simp; omega)
  go_wp2_with fail
  refine (Bytes_any _ _ _ _ _ h1.pen (by have := flat9 [0, 5, 256]; simp only [List.length_append, List.length_nil, List.length_cons] at this ⊢; omega)).mono ?_
  rintro e w2 ⟨A, c, l, rfl, hx, ho, hb2⟩
  have k := conv_by ho.rd c
  have e1 : (l == [0, 1, 5, 2, 1, 0]) = true := by rw [hx.out]; kernel_rfl
  go_wp2_with fail
  go_ret
  exact ⟨rfl, ((((Below.refl _ _).alloc (Nat.le_refl _) _).alloc (by simp) _).trans hb1).trans (hb2.mono (by have := hb1.size; simp at this; omega))⟩
end Go.Proofs.Ytofllgmieciakaa
