/- api.Leaf: as an argument, in slices. -/
import Derived.Test.YtofllgmieciakabOpen2
import Derived.Test.YtofllgmieciakabLeafLives
namespace Go.Proofs.Ytofllgmieciakab
open Go.RowKit Go.WideShapes Go.ChangeShapes Go.ChangeAt Go.Deep Go.Joins

section
variable {H : Type} {enc : TypeId × Value → H} {w : World} {spare : Nat → Bool} {held : Bool}
/-- what is known of a leaf -/
structure LV.okAt (w : World) (Z : Nat → Prop) (o : LV) : Prop where
  x : o.x.ok w Z
  len : o.x.l.length ≤ 140737488355328
  k : -9223372036854775808 ≤ o.k ∧ o.k < 9223372036854775808
theorem list2 {α : Type} {l : List α} (h : l.length = 2) : ∃ a0 a1, l = [a0, a1] := by
  match l, h with
  | [a0, a1], _ => exact ⟨_, _, rfl⟩
set_option maxRecDepth 100000 in
theorem open_leaf {n : Nat} {cs : List Value} {x : DataW H × List MemPlace} (h : DataW.trod enc Try.prog w 0 spare held n 24 cs = some x) (hw : Within 24 x) :
    ∃ o : LV, cs = o.cells ∧ o.okAt w (fun b => b < w.heap.size) := by
  obtain ⟨ys, n', hcl, hyl, hf⟩ := open_st Try.underlying24 (by kernel_rfl) h (by kernel_rfl) hw
  obtain ⟨a0, a1, rfl⟩ := list2 hcl
  obtain ⟨y0, y1, rfl⟩ := list2 hyl
  obtain ⟨k, e, _, wk⟩ := DataW.trod_int Try.underlying3 (hf 0 _ _ _ rfl rfl rfl).1
  obtain rfl := List.singleton_inj.1 e
  obtain ⟨b, rfl, hb, hbl⟩ := open_bv (hf 1 _ _ _ rfl rfl rfl).1 (hf 1 _ _ _ rfl rfl rfl).2
  have bk := i64_bd wk
  exact ⟨⟨k, b⟩, rfl, hb, hbl, bk⟩
set_option maxRecDepth 100000 in
theorem open_leafv {r : Reach} {b0 : Nat} {v : Value} {d : DataW H} {p : List MemPlace} (hv : Value.okWide Try.prog w r b0 24 v) (h : DataW.Trod enc Try.prog w 0 spare held 24 v d p) (hw : Within 24 (d, p)) :
    ∃ o : LV, v = .agg #[.int .i64 o.k, .slice o.x.A o.x.l.length o.x.c] ∧ o.okAt w (fun b => b < w.heap.size) := by
  obtain ⟨cs, rfl, hsz⟩ := okWide_struct Try.underlying24 hv
  obtain ⟨l⟩ := cs
  obtain ⟨n, hn⟩ := h
  obtain ⟨o, e, ho⟩ := open_leaf (cs := l) hn hw
  subst e
  exact ⟨o, rfl, ho⟩
set_option maxRecDepth 100000 in
theorem open_leaves {n : Nat} {v : Value} {x : DataW H × List MemPlace} (h : DataW.trod enc Try.prog w 0 spare held n 47 [v] = some x) (hw : Within 47 x) :
    ∃ (A : Option Addr) (c : Nat) (l : List LV), v = .slice A l.length c ∧ Leaves w (fun b => b < w.heap.size) A l := by
  obtain ⟨A, c, l, rfl, _, _, h3, h4, h5⟩ := open_sl (w := w) (enc := enc) (spare := spare) (held := held) LV.cells (fun o => o.okAt w (fun b => b < w.heap.size)) 2 32 (t := 47) (e := 24) Try.underlying47 (by kernel_rfl) (by kernel_rfl) (by omega) (fun n cs x hx hx2 => open_leaf hx hx2) h hw
  refine ⟨A, c, l, rfl, h3, fun o ho => (h4 o ho).x, fun o ho => (h4 o ho).len, fun o ho => (h4 o ho).k, ?_⟩
  have := reachBytes_lt
  omega
end
end Go.Proofs.Ytofllgmieciakab
