/- A new pen, what stays beside it; flat lists of cells. -/
import Derived.Test.YtpbgcbpofhbgbaaPenText
import Derived.Test.YtpbgcbpofhbgbaaFlat
namespace Go.Proofs.Ytpbgcbpofhbgbaa
open Go.RowKit

theorem PenTo.low {a b : World} {base pb B : Nat} {v v' : Value} {l l' : List UInt8} (h : PenTo a base pb v l' b v') (ho : OwB a base v l) (hp : B ≤ pb) (hB : B ≤ base) (hs : B ≤ a.heap.size) : Below B a b :=
  h.fr.below hs (fun k hk => by
    rintro (rfl | e)
    · omega
    · have := (ho.lt _ e).1; omega)
theorem Pen.low {a b : World} {base pb B : Nat} {v v' : Value} {l l' : List UInt8} (h : Pen a base pb v l) (k : PenTo a base pb v l' b v') (hp : B ≤ pb) (hB : B ≤ base) (hs : B ≤ a.heap.size) : Below B a b := k.low h.own hp hB hs
/-- var p grain.Pen -/
theorem Pen.new (w : World) {base : Nat} : Pen (w.alloc (.cells #[.slice none 0 0] 113)) base w.heap.size (.slice none 0 0) [] := ⟨Blk.new _ _ _, OwB.nil _ _⟩

theorem box_keep {B pb : Nat} {a c : World} {vp vp' : Value} {Lp' : List UInt8} (k : PenTo a B pb vp Lp' c vp') {g : Nat} {t : TypeId} {cs : Array Value} (hb : Blk a g t cs) (h1 : g ≠ pb) (h2 : vp.ownBlock ≠ some g) : Blk c g t cs :=
  hb.fr k.fr (by rintro (e | e); exact h1 e; exact h2 e)

/-- new memory behind a pen's method -/
theorem PenTo.mem {a b c : World} {base pb : Nat} {v v' : Value} {l' : List UInt8} (h : PenTo a base pb v l' b v') (k : Below b.heap.size b c) : PenTo a base pb v l' c v' :=
  ⟨h.pen.below k, h.fr.then_below k, h.at_⟩
/-- a store into a new block beside a pen -/
theorem PenTo.side {a b c : World} {base pb bx : Nat} {v v' : Value} {l' : List UInt8} (h : PenTo a base pb v l' b v') (k : Fr (fun x => x = bx) b c) (hb : a.heap.size ≤ bx) (h1 : bx ≠ pb) (h2 : v'.ownBlock ≠ some bx) : PenTo a base pb v l' c v' :=
  ⟨⟨h.pen.blk.fr k (fun e => h1 e.symm), h.pen.own.fr k (fun g hg e => h2 (by rw [hg, e]))⟩, h.fr.trans k (fun x hx e => by omega), h.at_⟩
end Go.Proofs.Ytpbgcbpofhbgbaa
