/- tenderlaw01.Op's slices, opened. -/
import Derived.Test.YtofllgmieciakaaOpen2
import Derived.Test.YtofllgmieciakaaLaw01
namespace Go.Proofs.Ytofllgmieciakaa
open Go.RowKit Go.WideShapes Go.ChangeShapes Go.ChangeAt Go.Deep

section
variable {H : Type} {enc : TypeId × Value → H} {w : World} {spare : Nat → Bool} {held : Bool}
theorem open_op {n : Nat} {cs : List Value} {x : DataW H × List MemPlace} (h : DataW.trod enc Try.prog w 0 spare held n 46 cs = some x) (hw : Within 46 x) :
    ∃ o : OpV, cs = o.cells ∧ o.ok w (fun b => b < w.heap.size) := by
  obtain ⟨ys, n', hcl, hyl, hf⟩ := open_st Try.underlying46 (by kernel_rfl) h (by kernel_rfl) hw
  obtain ⟨a0, a1, a2, a3, rfl⟩ := list4 hcl
  obtain ⟨y0, y1, y2, y3, rfl⟩ := list4 hyl
  obtain ⟨k, e, _, wk⟩ := DataW.trod_int Try.underlying3 (hf 0 _ _ _ rfl rfl rfl).1
  obtain rfl := List.singleton_inj.1 e
  obtain ⟨m, e, _, wm⟩ := DataW.trod_int Try.underlying22 (hf 1 _ _ _ rfl rfl rfl).1
  obtain rfl := List.singleton_inj.1 e
  obtain ⟨q, e, _, wq⟩ := DataW.trod_int Try.underlying3 (hf 2 _ _ _ rfl rfl rfl).1
  obtain rfl := List.singleton_inj.1 e
  obtain ⟨b, rfl, hb, hbl⟩ := open_bv (hf 3 _ _ _ rfl rfl rfl).1 (hf 3 _ _ _ rfl rfl rfl).2
  have bk := i64_bd wk
  have bm := u64_bd wm
  have bq := i64_bd wq
  obtain ⟨m, rfl⟩ := Int.eq_ofNat_of_zero_le bm.1
  exact ⟨⟨k, m, q, b⟩, rfl, ⟨bk.1, bk.2, by have := bm.2; simp only; omega, bq.1, bq.2, hb, hbl⟩⟩

theorem open_ops {n : Nat} {v : Value} {x : DataW H × List MemPlace} (h : DataW.trod enc Try.prog w 0 spare held n 39 [v] = some x) (hw : Within 39 x) :
    ∃ (A : Option Addr) (c : Nat) (l : List OpV), v = .slice A l.length c ∧ Ops w (fun b => b < w.heap.size) A l := by
  obtain ⟨A, c, l, rfl, _, _, h3, h4, h5⟩ := open_sl (w := w) (enc := enc) (spare := spare) (held := held) OpV.cells (fun o => o.ok w (fun b => b < w.heap.size)) 4 48 (t := 39) (e := 46) Try.underlying39 (by kernel_rfl) (by kernel_rfl) (by omega) (fun n cs x hx hx2 => open_op hx hx2) h hw
  refine ⟨A, c, l, rfl, h3, h4, ?_⟩
  have := reachBytes_lt
  omega
end
end Go.Proofs.Ytofllgmieciakaa
