/- tenderlaw16.Op: as an argument, in slices. -/
import Derived.Test.YtpbgcbpofhbgbaaOpen2
import Derived.Test.YtpbgcbpofhbgbaaOpen
import Derived.Test.YtpbgcbpofhbgbaaPipeOps
namespace Go.Proofs.Ytpbgcbpofhbgbaa
open Go.RowKit Go.WideShapes Go.ChangeShapes Go.ChangeAt Go.Deep Go.Joins

section
variable {H : Type} {enc : TypeId × Value → H} {w : World} {spare : Nat → Bool} {held : Bool}
theorem list5 {α : Type} {l : List α} (h : l.length = 5) : ∃ a0 a1 a2 a3 a4, l = [a0, a1, a2, a3, a4] := by
  match l, h with
  | [a0, a1, a2, a3, a4], _ => exact ⟨_, _, _, _, _, rfl⟩
set_option maxRecDepth 100000 in
theorem open_opP {n : Nat} {cs : List Value} {x : DataW H × List MemPlace} (h : DataW.trod enc Try.prog w 0 spare held n 40 cs = some x) (hw : Within 40 x) :
    ∃ o : OpP, cs = o.cells ∧ o.ok w (fun b => b < w.heap.size) := by
  obtain ⟨ys, n', hcl, hyl, hf⟩ := open_st Try.underlying40 (by kernel_rfl) h (by kernel_rfl) hw
  obtain ⟨a0, a1, a2, a3, a4, rfl⟩ := list5 hcl
  obtain ⟨y0, y1, y2, y3, y4, rfl⟩ := list5 hyl
  obtain ⟨k, e, _, wk⟩ := DataW.trod_int Try.underlying3 (hf 0 _ _ _ rfl rfl rfl).1
  obtain rfl := List.singleton_inj.1 e
  obtain ⟨m, e, _, wm⟩ := DataW.trod_int Try.underlying3 (hf 1 _ _ _ rfl rfl rfl).1
  obtain rfl := List.singleton_inj.1 e
  obtain ⟨q, e, _, wq⟩ := DataW.trod_int Try.underlying3 (hf 2 _ _ _ rfl rfl rfl).1
  obtain rfl := List.singleton_inj.1 e
  obtain ⟨r, e, _, wr⟩ := DataW.trod_int Try.underlying38 (hf 3 _ _ _ rfl rfl rfl).1
  obtain rfl := List.singleton_inj.1 e
  obtain ⟨b, rfl, hb, hbl⟩ := open_bv (hf 4 _ _ _ rfl rfl rfl).1 (hf 4 _ _ _ rfl rfl rfl).2
  exact ⟨⟨k, m, q, r, b⟩, rfl, i64_bd wk, i64_bd wm, i64_bd wq, u32_bd wr, hb, hbl⟩
set_option maxRecDepth 100000 in
theorem open_opPv {r : Reach} {b0 : Nat} {v : Value} {d : DataW H} {p : List MemPlace} (hv : Value.okWide Try.prog w r b0 40 v) (h : DataW.Trod enc Try.prog w 0 spare held 40 v d p) (hw : Within 40 (d, p)) :
    ∃ o : OpP, v = .agg #[.int .i64 o.kind, .int .i64 o.n, .int .i64 o.bit, .int .u32 o.mask, .slice o.x.A o.x.l.length o.x.c] ∧ o.ok w (fun b => b < w.heap.size) := by
  obtain ⟨cs, rfl, hsz⟩ := okWide_struct Try.underlying40 hv
  obtain ⟨l⟩ := cs
  obtain ⟨n, hn⟩ := h
  obtain ⟨o, e, ho⟩ := open_opP (cs := l) hn hw
  subst e
  exact ⟨o, rfl, ho⟩
end
end Go.Proofs.Ytpbgcbpofhbgbaa
