/- api.Change: as an argument, in slices. -/
import Derived.Test.YtffimpjjdhnajaaFenceRow
import Derived.Test.YtffimpjjdhnajaaOpenStr
namespace Go.Proofs.Ytffimpjjdhnajaa
open Go.RowKit Go.WideShapes Go.ChangeShapes Go.ChangeAt Go.ChangeMaps Go.Deep Go.Joins

section
variable {H : Type} {enc : TypeId × Value → H} {w : World} {spare : Nat → Bool} {held : Bool}
theorem list9c {α : Type} {l : List α} (h : l.length = 9) : ∃ a0 a1 a2 a3 a4 a5 a6 a7 a8, l = [a0, a1, a2, a3, a4, a5, a6, a7, a8] := by
  match l, h with
  | [a0, a1, a2, a3, a4, a5, a6, a7, a8], _ => exact ⟨_, _, _, _, _, _, _, _, _, rfl⟩
theorem str_within {b : List UInt8} {p : List MemPlace} (hw : Within 9 ((DataW.lit (Lit.string b) : DataW H), p)) : b.length ≤ 140737488355328 := by
  have h1 := hw b.length (by simp [DataW.weights])
  have h2 := reachBytes_lt
  omega
set_option maxRecDepth 100000 in
theorem open_chg {n : Nat} {cs : List Value} {x : DataW H × List MemPlace} (h : DataW.trod enc Try.prog w 0 spare held n 44 cs = some x) (hw : Within 44 x) :
    ∃ o : CV, cs = o.cells ∧ o.p.size ≤ 140737488355328 := by
  obtain ⟨ys, n', hcl, hyl, hf⟩ := open_st Try.underlying44 (by kernel_rfl) h (by kernel_rfl) hw
  obtain ⟨a0, a1, a2, a3, a4, a5, a6, a7, a8, rfl⟩ := list9c hcl
  obtain ⟨y0, y1, y2, y3, y4, y5, y6, y7, y8, rfl⟩ := list9c hyl
  obtain ⟨f0, w0⟩ := hf 0 _ _ _ rfl rfl rfl
  obtain ⟨f1, _⟩ := hf 1 _ _ _ rfl rfl rfl
  obtain ⟨f2, _⟩ := hf 2 _ _ _ rfl rfl rfl
  obtain ⟨f3, _⟩ := hf 3 _ _ _ rfl rfl rfl
  obtain ⟨f4, _⟩ := hf 4 _ _ _ rfl rfl rfl
  obtain ⟨f5, _⟩ := hf 5 _ _ _ rfl rfl rfl
  obtain ⟨f6, _⟩ := hf 6 _ _ _ rfl rfl rfl
  obtain ⟨f7, _⟩ := hf 7 _ _ _ rfl rfl rfl
  obtain ⟨f8, _⟩ := hf 8 _ _ _ rfl rfl rfl
  obtain ⟨p, e0, hx0, _⟩ := DataW.trod_string Try.underlying9 f0
  obtain rfl := List.singleton_inj.1 e0
  obtain ⟨v1, e1, _, _⟩ := DataW.trod_int Try.underlying3 f1
  obtain rfl := List.singleton_inj.1 e1
  obtain ⟨v2, e2, _⟩ := DataW.trod_bool Try.underlying4 f2
  obtain rfl := List.singleton_inj.1 e2
  obtain ⟨v3, e3, _⟩ := DataW.trod_bool Try.underlying4 f3
  obtain rfl := List.singleton_inj.1 e3
  obtain ⟨v4, e4, _, _⟩ := DataW.trod_int Try.underlying3 f4
  obtain rfl := List.singleton_inj.1 e4
  obtain ⟨v5, e5, _, _⟩ := DataW.trod_int Try.underlying3 f5
  obtain rfl := List.singleton_inj.1 e5
  obtain ⟨v6, e6, _, _⟩ := DataW.trod_int Try.underlying3 f6
  obtain rfl := List.singleton_inj.1 e6
  obtain ⟨v7, e7, _, _⟩ := DataW.trod_int Try.underlying3 f7
  obtain rfl := List.singleton_inj.1 e7
  obtain ⟨v8, e8, _, _⟩ := DataW.trod_int Try.underlying3 f8
  obtain rfl := List.singleton_inj.1 e8
  refine ⟨⟨p, v1, v2, v3, v4, v5, v6, v7, v8⟩, rfl, ?_⟩
  rw [hx0] at w0
  have h1 := str_within w0
  have h2 : p.data.toList.length = p.size := tl_len p
  show p.size ≤ _
  omega
set_option maxRecDepth 100000 in
theorem open_chv {r : Reach} {b0 : Nat} {v : Value} {d : DataW H} {p : List MemPlace} (hv : Value.okWide Try.prog w r b0 44 v) (h : DataW.Trod enc Try.prog w 0 spare held 44 v d p) (hw : Within 44 (d, p)) :
    ∃ o : CV, v = o.val ∧ o.p.size ≤ 140737488355328 := by
  obtain ⟨cs, rfl, hsz⟩ := okWide_struct Try.underlying44 hv
  obtain ⟨l⟩ := cs
  obtain ⟨n, hn⟩ := h
  obtain ⟨o, e, ho⟩ := open_chg (cs := l) hn hw
  subst e
  exact ⟨o, rfl, ho⟩
set_option maxRecDepth 100000 in
theorem open_chs {n : Nat} {v : Value} {x : DataW H × List MemPlace} (h : DataW.trod enc Try.prog w 0 spare held n 41 [v] = some x) (hw : Within 41 x) :
    ∃ (A : Option Addr) (c : Nat) (l : List CV), v = .slice A l.length c ∧ Chs w (fun b => b < w.heap.size) A l := by
  obtain ⟨A, c, l, rfl, _, _, h3, h4, h5⟩ := open_sl (w := w) (enc := enc) (spare := spare) (held := held) CV.cells (fun o => o.p.size ≤ 140737488355328) 9 72 (t := 41) (e := 44) Try.underlying41 (by kernel_rfl) (by kernel_rfl) (by omega) (fun n cs x hx hx2 => open_chg hx hx2) h hw
  refine ⟨A, c, l, rfl, h3, h4, ?_⟩
  have := reachBytes_lt
  omega
end
end Go.Proofs.Ytffimpjjdhnajaa
