/- A call whose result is an act that stands in a variable. -/
import Derived.Test.YtpbgcbpofhbgbaaScriptAct
namespace Go.Proofs.Ytpbgcbpofhbgbaa
open Go.RowKit

theorem list11 {α : Type} {l : List α} (h : l.length = 11) : ∃ a0 a1 a2 a3 a4 a5 a6 a7 a8 a9 a10, l = [a0, a1, a2, a3, a4, a5, a6, a7, a8, a9, a10] := by
  match l, h with
  | [a0, a1, a2, a3, a4, a5, a6, a7, a8, a9, a10], _ => exact ⟨_, _, _, _, _, _, _, _, _, _, _, rfl⟩

/-- an act's cells, all written -/
theorem act_put {w : World} {r : Nat} {old : Array Value} (hb : Blk w r 57 old) (hn : old.size = 11) (v0 v1 v2 v3 v4 v5 v6 v7 v8 v9 v10 : Value) :
    Blk (((((((((((w.setCell ⟨r, 0, none⟩ v0).setCell ⟨r, 1, none⟩ v1).setCell ⟨r, 2, none⟩ v2).setCell ⟨r, 3, none⟩ v3).setCell ⟨r, 4, none⟩ v4).setCell ⟨r, 5, none⟩ v5).setCell ⟨r, 6, none⟩ v6).setCell ⟨r, 7, none⟩ v7).setCell ⟨r, 8, none⟩ v8).setCell ⟨r, 9, none⟩ v9).setCell ⟨r, 10, none⟩ v10) r 57 #[v0, v1, v2, v3, v4, v5, v6, v7, v8, v9, v10] ∧ Fr (fun g => g = r) w (((((((((((w.setCell ⟨r, 0, none⟩ v0).setCell ⟨r, 1, none⟩ v1).setCell ⟨r, 2, none⟩ v2).setCell ⟨r, 3, none⟩ v3).setCell ⟨r, 4, none⟩ v4).setCell ⟨r, 5, none⟩ v5).setCell ⟨r, 6, none⟩ v6).setCell ⟨r, 7, none⟩ v7).setCell ⟨r, 8, none⟩ v8).setCell ⟨r, 9, none⟩ v9).setCell ⟨r, 10, none⟩ v10) := by
  obtain ⟨l⟩ := old
  obtain ⟨a0, a1, a2, a3, a4, a5, a6, a7, a8, a9, a10, rfl⟩ := list11 (l := l) (by simpa using hn)
  refine ⟨?_, ((((((((((((Fr.refl (fun g => g = r) w).setAt r 0 rfl v0).setAt r 1 rfl v1).setAt r 2 rfl v2).setAt r 3 rfl v3).setAt r 4 rfl v4).setAt r 5 rfl v5).setAt r 6 rfl v6).setAt r 7 rfl v7).setAt r 8 rfl v8).setAt r 9 rfl v9).setAt r 10 rfl v10)⟩
  have h := (((((((((((hb.set_ 0 v0).set_ 1 v1).set_ 2 v2).set_ 3 v3).set_ 4 v4).set_ 5 v5).set_ 6 v6).set_ 7 v7).set_ 8 v8).set_ 9 v9).set_ 10 v10)
  simp only [List.setIfInBounds_toArray, List.set_cons_zero, List.set_cons_succ] at h
  exact h

set_option maxRecDepth 100000 in
/-- the end of a call whose result is an act in a variable -/
theorem act_res {fn : Func} {s : Tmp} {Q : Ending → World → Prop} {a : Act} {w : World} {r : Nat} {v0 v1 v2 v3 v4 v5 v6 v7 v8 v9 v10 : Value} (hres : fn.results = #[.cell s 57]) (hs : a.tmps.getD s undef = .pointer (some ⟨r, 0, none⟩)) (hd : a.defers = [])
    (hb : Blk w r 57 #[v0, v1, v2, v3, v4, v5, v6, v7, v8, v9, v10]) (hQ : Q (.returned (.agg #[v0, v1, v2, v3, v4, v5, v6, v7, v8, v9, v10])) w) : bodyPost Try.prog fn Q .ret a w := by
  have d0 : w.cell? ⟨r, 0, none⟩ = some v0 := hb.cell 0
  have d1 : w.cell? ⟨r, 1, none⟩ = some v1 := hb.cell 1
  have d2 : w.cell? ⟨r, 2, none⟩ = some v2 := hb.cell 2
  have d3 : w.cell? ⟨r, 3, none⟩ = some v3 := hb.cell 3
  have d4 : w.cell? ⟨r, 4, none⟩ = some v4 := hb.cell 4
  have d5 : w.cell? ⟨r, 5, none⟩ = some v5 := hb.cell 5
  have d6 : w.cell? ⟨r, 6, none⟩ = some v6 := hb.cell 6
  have d7 : w.cell? ⟨r, 7, none⟩ = some v7 := hb.cell 7
  have d8 : w.cell? ⟨r, 8, none⟩ = some v8 := hb.cell 8
  have d9 : w.cell? ⟨r, 9, none⟩ = some v9 := hb.cell 9
  have d10 : w.cell? ⟨r, 10, none⟩ = some v10 := hb.cell 10
  rw [Array.getD_eq_getD_getElem?] at hs
  exact bodyPost_ret (v := .agg #[v0, v1, v2, v3, v4, v5, v6, v7, v8, v9, v10]) (by simp only [results, hres]; simp [go_sem, hs, d0, d1, d2, d3, d4, d5, d6, d7, d8, d9, d10]) hd hQ
/-- .. and is written there whole just ahead -/
theorem act_ret {fn : Func} {s : Tmp} {Q : Ending → World → Prop} {a : Act} {w : World} {r : Nat} {old : Array Value} {v0 v1 v2 v3 v4 v5 v6 v7 v8 v9 v10 : Value} (hb : Blk w r 57 old) (hn : old.size = 11) (hres : fn.results = #[.cell s 57]) (hs : a.tmps.getD s undef = .pointer (some ⟨r, 0, none⟩)) (hd : a.defers = [])
    (hQ : ∀ V, Blk V r 57 #[v0, v1, v2, v3, v4, v5, v6, v7, v8, v9, v10] → Fr (fun g => g = r) w V → Q (.returned (.agg #[v0, v1, v2, v3, v4, v5, v6, v7, v8, v9, v10])) V) : bodyPost Try.prog fn Q .ret a (((((((((((w.setCell ⟨r, 0, none⟩ v0).setCell ⟨r, 1, none⟩ v1).setCell ⟨r, 2, none⟩ v2).setCell ⟨r, 3, none⟩ v3).setCell ⟨r, 4, none⟩ v4).setCell ⟨r, 5, none⟩ v5).setCell ⟨r, 6, none⟩ v6).setCell ⟨r, 7, none⟩ v7).setCell ⟨r, 8, none⟩ v8).setCell ⟨r, 9, none⟩ v9).setCell ⟨r, 10, none⟩ v10) := by
  obtain ⟨h1, h2⟩ := act_put hb hn v0 v1 v2 v3 v4 v5 v6 v7 v8 v9 v10
  exact act_res hres hs hd h1 (hQ _ h1 h2)
/-- .. and a block was made beside it -/
theorem act_ret_new {fn : Func} {s : Tmp} {Q : Ending → World → Prop} {a : Act} {w : World} {r : Nat} {old : Array Value} {v0 v1 v2 v3 v4 v5 v6 v7 v8 v9 v10 : Value} {o : Obj} (hb : Blk w r 57 old) (hn : old.size = 11) (hres : fn.results = #[.cell s 57]) (hs : a.tmps.getD s undef = .pointer (some ⟨r, 0, none⟩)) (hd : a.defers = [])
    (hQ : ∀ V, Blk V r 57 #[v0, v1, v2, v3, v4, v5, v6, v7, v8, v9, v10] → Fr (fun g => g = r) w V → V.heap.size = w.heap.size → Q (.returned (.agg #[v0, v1, v2, v3, v4, v5, v6, v7, v8, v9, v10])) (V.alloc o)) : bodyPost Try.prog fn Q .ret a ((((((((((((w.setCell ⟨r, 0, none⟩ v0).setCell ⟨r, 1, none⟩ v1).setCell ⟨r, 2, none⟩ v2).setCell ⟨r, 3, none⟩ v3).setCell ⟨r, 4, none⟩ v4).setCell ⟨r, 5, none⟩ v5).setCell ⟨r, 6, none⟩ v6).setCell ⟨r, 7, none⟩ v7).setCell ⟨r, 8, none⟩ v8).setCell ⟨r, 9, none⟩ v9).setCell ⟨r, 10, none⟩ v10).alloc o) := by
  obtain ⟨h1, h2⟩ := act_put hb hn v0 v1 v2 v3 v4 v5 v6 v7 v8 v9 v10
  exact act_res hres hs hd (h1.alloc _) (hQ _ h1 h2 (by simp [World.setCell]))

end Go.Proofs.Ytpbgcbpofhbgbaa
