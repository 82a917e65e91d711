/- api.Entry: as an argument, in slices. -/
import Derived.Test.YtofllgmieciakabOpenLeaf
import Derived.Test.YtofllgmieciakabEntryLight
import Derived.ChangeMaps5
namespace Go.Proofs.Ytofllgmieciakab
open Go.RowKit Go.WideShapes Go.ChangeShapes Go.ChangeAt Go.ChangeMaps Go.Deep Go.Joins

section
variable {H : Type} {enc : TypeId × Value → H} {w : World} {spare : Nat → Bool} {held : Bool}
/-- a struct of fields of any number of cells -/
theorem open_stg {t : TypeId} {fs : Array Field} {N : Nat} (hs : Try.prog.underlying t = some (.struct fs)) {n : Nat} {cs : List Value} {x : DataW H × List MemPlace} (h : DataW.trod enc Try.prog w 0 spare held n t cs = some x) (hC : Try.prog.cellsOf t = N) (hw : Within t x) :
    ∃ (ys : List (DataW H × List MemPlace)) (n' : Nat), cs.length = N ∧ ys.length = fs.size ∧
      ∀ (j : Nat) (f : Field) (y : DataW H × List MemPlace), fs[j]? = some f → ys[j]? = some y → DataW.trod enc Try.prog w 0 spare held n' f.type ((cs.drop f.offset).take (Try.prog.cellsOf f.type)) = some y ∧ Within f.type y := by
  obtain ⟨xs, n', _, hx, hl, hlen, hg⟩ := DataW.trod_struct hs h
  rw [hC] at hl
  refine ⟨xs, n', hl, hlen, fun j f y hj hy => ⟨by rw [hg j f hj, hy], fun k hk => hw k ?_⟩⟩
  rw [hx]
  simp only [DataW.weights, hs]
  refine DataW.weights_mem_each (j := j) (t := f.type) (d := y.1) ?_ ?_ k hk
  · rw [List.getElem?_map]
    have : fs.toList[j]? = some f := by simpa using hj
    rw [this]; rfl
  · rw [List.getElem?_map, hy]; rfl
theorem list3 {α : Type} {l : List α} (h : l.length = 3) : ∃ a0 a1 a2, l = [a0, a1, a2] := by
  match l, h with
  | [a0, a1, a2], _ => exact ⟨_, _, _, rfl⟩
theorem str_within {b : List UInt8} {p : List MemPlace} (hw : Within 9 ((DataW.lit (Lit.string b) : DataW H), p)) : b.length ≤ 140737488355328 := by
  have h1 := hw b.length (by simp [DataW.weights])
  have h2 := reachBytes_lt
  omega
set_option maxRecDepth 100000 in
theorem open_ent {n : Nat} {cs : List Value} {x : DataW H × List MemPlace} (h : DataW.trod enc Try.prog w 0 spare held n 58 cs = some x) (hw : Within 58 x) :
    ∃ o : EV, cs = o.cells ∧ o.ok w (fun b => b < w.heap.size) := by
  obtain ⟨ys, n', hcl, hyl, hf⟩ := open_stg (N := 4) Try.underlying58 h (by kernel_rfl) hw
  obtain ⟨a0, a1, a2, a3, rfl⟩ := list4 hcl
  obtain ⟨y0, y1, y2, rfl⟩ := list3 hyl
  obtain ⟨f0, w0⟩ := hf 0 _ _ rfl rfl
  obtain ⟨f1, w1⟩ := hf 1 _ _ rfl rfl
  obtain ⟨f2, w2⟩ := hf 2 _ _ rfl rfl
  have c0 : Try.prog.cellsOf 9 = 1 := by kernel_rfl
  have c1 : Try.prog.cellsOf 56 = 1 := by kernel_rfl
  have c2 : Try.prog.cellsOf 24 = 2 := by kernel_rfl
  replace f0 : DataW.trod enc Try.prog w 0 spare held n' 9 (([a0, a1, a2, a3].drop 0).take (Try.prog.cellsOf 9)) = some y0 := f0
  replace f1 : DataW.trod enc Try.prog w 0 spare held n' 56 (([a0, a1, a2, a3].drop 1).take (Try.prog.cellsOf 56)) = some y1 := f1
  replace f2 : DataW.trod enc Try.prog w 0 spare held n' 24 (([a0, a1, a2, a3].drop 2).take (Try.prog.cellsOf 24)) = some y2 := f2
  rw [c0] at f0
  rw [c1] at f1
  rw [c2] at f2
  obtain ⟨p, e, hx0, _⟩ := DataW.trod_string Try.underlying9 f0
  obtain ⟨v, e1, _, wv⟩ := DataW.trod_int Try.underlying56 f1
  obtain ⟨o, e2, ho⟩ := open_leaf f2 w2
  obtain rfl : a0 = .string p := by simpa using e
  obtain rfl : a1 = .int .u64 v := by simpa using e1
  obtain ⟨k, xx⟩ := o
  obtain ⟨rfl, rfl⟩ : a2 = .int .i64 k ∧ a3 = .slice xx.A xx.l.length xx.c := by simpa [LV.cells] using e2
  rw [hx0] at w0
  refine ⟨⟨p, v, k, xx⟩, rfl, ho.x, ho.len, ?_, u64_bd wv, ho.k⟩
  have h1 := str_within w0
  have h2 : p.data.toList.length = p.size := by simp
  show p.size ≤ _
  omega
set_option maxRecDepth 100000 in
theorem open_entv {r : Reach} {b0 : Nat} {v : Value} {d : DataW H} {p : List MemPlace} (hv : Value.okWide Try.prog w r b0 58 v) (h : DataW.Trod enc Try.prog w 0 spare held 58 v d p) (hw : Within 58 (d, p)) :
    ∃ o : EV, v = .agg #[.string o.p, .int .u64 o.v, .int .i64 o.k, .slice o.x.A o.x.l.length o.x.c] ∧ o.ok w (fun b => b < w.heap.size) := by
  obtain ⟨cs, rfl, hsz⟩ := okWide_struct Try.underlying58 hv
  obtain ⟨l⟩ := cs
  obtain ⟨n, hn⟩ := h
  obtain ⟨o, e, ho⟩ := open_ent (cs := l) hn hw
  subst e
  exact ⟨o, rfl, ho⟩
set_option maxRecDepth 100000 in
theorem open_ents {n : Nat} {v : Value} {x : DataW H × List MemPlace} (h : DataW.trod enc Try.prog w 0 spare held n 70 [v] = some x) (hw : Within 70 x) :
    ∃ (A : Option Addr) (c : Nat) (l : List EV), v = .slice A l.length c ∧ Ents w (fun b => b < w.heap.size) A l := by
  obtain ⟨A, c, l, rfl, _, _, h3, h4, h5⟩ := open_sl (w := w) (enc := enc) (spare := spare) (held := held) EV.cells (fun o => o.ok w (fun b => b < w.heap.size)) 4 56 (t := 70) (e := 58) Try.underlying70 (by kernel_rfl) (by kernel_rfl) (by omega) (fun n cs x hx hx2 => open_ent hx hx2) h hw
  refine ⟨A, c, l, rfl, h3, h4, ?_⟩
  have := reachBytes_lt
  omega
end
end Go.Proofs.Ytofllgmieciakab
