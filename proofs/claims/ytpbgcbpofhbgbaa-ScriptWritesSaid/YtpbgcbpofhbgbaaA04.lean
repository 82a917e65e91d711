/- A call whose result is an act that stands in a variable. -/
import Derived.Test.YtpbgcbpofhbgbaaA03
import Derived.Lib.ConvBytes

namespace Go.Proofs.Ytpbgcbpofhbgbaa
open Go.RowKit

theorem list11 {α : Type} {l : List α} (h : l.length = 11) : ∃ a0 a1 a2 a3 a4 a5 a6 a7 a8 a9 a10, l = [a0, a1, a2, a3, a4, a5, a6, a7, a8, a9, a10] := by
  match l, h with
  | [a0, a1, a2, a3, a4, a5, a6, a7, a8, a9, a10], _ => exact ⟨_, _, _, _, _, _, _, _, _, _, _, rfl⟩

/-- an act's cells, all written -/
theorem act_put {w : World} {r : Nat} {old : Array Value} (hb : Blk w r 57 old) (hn : old.size = 11) (v0 v1 v2 v3 v4 v5 v6 v7 v8 v9 v10 : Value) :
    Blk (((((((((((w.setCell ⟨r, 0, none⟩ v0).setCell ⟨r, 1, none⟩ v1).setCell ⟨r, 2, none⟩ v2).setCell ⟨r, 3, none⟩ v3).setCell ⟨r, 4, none⟩ v4).setCell ⟨r, 5, none⟩ v5).setCell ⟨r, 6, none⟩ v6).setCell ⟨r, 7, none⟩ v7).setCell ⟨r, 8, none⟩ v8).setCell ⟨r, 9, none⟩ v9).setCell ⟨r, 10, none⟩ v10) r 57 #[v0, v1, v2, v3, v4, v5, v6, v7, v8, v9, v10] ∧ Fr (fun g => g = r) w (((((((((((w.setCell ⟨r, 0, none⟩ v0).setCell ⟨r, 1, none⟩ v1).setCell ⟨r, 2, none⟩ v2).setCell ⟨r, 3, none⟩ v3).setCell ⟨r, 4, none⟩ v4).setCell ⟨r, 5, none⟩ v5).setCell ⟨r, 6, none⟩ v6).setCell ⟨r, 7, none⟩ v7).setCell ⟨r, 8, none⟩ v8).setCell ⟨r, 9, none⟩ v9).setCell ⟨r, 10, none⟩ v10) := by
  obtain ⟨l⟩ := old
  obtain ⟨a0, a1, a2, a3, a4, a5, a6, a7, a8, a9, a10, rfl⟩ := list11 (l := l) (by simpa using hn)
  refine ⟨?_, ((((((((((((Fr.refl (fun g => g = r) w).setAt r 0 rfl v0).setAt r 1 rfl v1).setAt r 2 rfl v2).setAt r 3 rfl v3).setAt r 4 rfl v4).setAt r 5 rfl v5).setAt r 6 rfl v6).setAt r 7 rfl v7).setAt r 8 rfl v8).setAt r 9 rfl v9).setAt r 10 rfl v10)⟩
  have h := (((((((((((hb.set_ 0 v0).set_ 1 v1).set_ 2 v2).set_ 3 v3).set_ 4 v4).set_ 5 v5).set_ 6 v6).set_ 7 v7).set_ 8 v8).set_ 9 v9).set_ 10 v10)
  simp only [List.setIfInBounds_toArray, List.set_cons_zero, List.set_cons_succ] at h
  exact h

set_option maxRecDepth 100000 in
/-- the end of a call whose result is an act in a variable -/
theorem act_res {fn : Func} {s : Tmp} {Q : Ending → World → Prop} {a : Act} {w : World} {r : Nat} {v0 v1 v2 v3 v4 v5 v6 v7 v8 v9 v10 : Value} (hres : fn.results = #[.cell s 57]) (hs : a.tmps.getD s undef = .pointer (some ⟨r, 0, none⟩)) (hd : a.defers = [])
    (hb : Blk w r 57 #[v0, v1, v2, v3, v4, v5, v6, v7, v8, v9, v10]) (hQ : Q (.returned (.agg #[v0, v1, v2, v3, v4, v5, v6, v7, v8, v9, v10])) w) : bodyPost Try.prog fn Q .ret a w := by
  have d0 : w.cell? ⟨r, 0, none⟩ = some v0 := hb.cell 0
  have d1 : w.cell? ⟨r, 1, none⟩ = some v1 := hb.cell 1
  have d2 : w.cell? ⟨r, 2, none⟩ = some v2 := hb.cell 2
  have d3 : w.cell? ⟨r, 3, none⟩ = some v3 := hb.cell 3
  have d4 : w.cell? ⟨r, 4, none⟩ = some v4 := hb.cell 4
  have d5 : w.cell? ⟨r, 5, none⟩ = some v5 := hb.cell 5
  have d6 : w.cell? ⟨r, 6, none⟩ = some v6 := hb.cell 6
  have d7 : w.cell? ⟨r, 7, none⟩ = some v7 := hb.cell 7
  have d8 : w.cell? ⟨r, 8, none⟩ = some v8 := hb.cell 8
  have d9 : w.cell? ⟨r, 9, none⟩ = some v9 := hb.cell 9
  have d10 : w.cell? ⟨r, 10, none⟩ = some v10 := hb.cell 10
  rw [Array.getD_eq_getD_getElem?] at hs
  exact bodyPost_ret (v := .agg #[v0, v1, v2, v3, v4, v5, v6, v7, v8, v9, v10]) (by simp only [results, hres]; simp [go_sem, hs, d0, d1, d2, d3, d4, d5, d6, d7, d8, d9, d10]) hd hQ
/-- .. and is written there whole just ahead -/
theorem act_ret {fn : Func} {s : Tmp} {Q : Ending → World → Prop} {a : Act} {w : World} {r : Nat} {old : Array Value} {v0 v1 v2 v3 v4 v5 v6 v7 v8 v9 v10 : Value} (hb : Blk w r 57 old) (hn : old.size = 11) (hres : fn.results = #[.cell s 57]) (hs : a.tmps.getD s undef = .pointer (some ⟨r, 0, none⟩)) (hd : a.defers = [])
    (hQ : ∀ V, Blk V r 57 #[v0, v1, v2, v3, v4, v5, v6, v7, v8, v9, v10] → Fr (fun g => g = r) w V → Q (.returned (.agg #[v0, v1, v2, v3, v4, v5, v6, v7, v8, v9, v10])) V) : bodyPost Try.prog fn Q .ret a (((((((((((w.setCell ⟨r, 0, none⟩ v0).setCell ⟨r, 1, none⟩ v1).setCell ⟨r, 2, none⟩ v2).setCell ⟨r, 3, none⟩ v3).setCell ⟨r, 4, none⟩ v4).setCell ⟨r, 5, none⟩ v5).setCell ⟨r, 6, none⟩ v6).setCell ⟨r, 7, none⟩ v7).setCell ⟨r, 8, none⟩ v8).setCell ⟨r, 9, none⟩ v9).setCell ⟨r, 10, none⟩ v10) := by
  obtain ⟨h1, h2⟩ := act_put hb hn v0 v1 v2 v3 v4 v5 v6 v7 v8 v9 v10
  exact act_res hres hs hd h1 (hQ _ h1 h2)
/-- .. and a block was made beside it -/
theorem act_ret_new {fn : Func} {s : Tmp} {Q : Ending → World → Prop} {a : Act} {w : World} {r : Nat} {old : Array Value} {v0 v1 v2 v3 v4 v5 v6 v7 v8 v9 v10 : Value} {o : Obj} (hb : Blk w r 57 old) (hn : old.size = 11) (hres : fn.results = #[.cell s 57]) (hs : a.tmps.getD s undef = .pointer (some ⟨r, 0, none⟩)) (hd : a.defers = [])
    (hQ : ∀ V, Blk V r 57 #[v0, v1, v2, v3, v4, v5, v6, v7, v8, v9, v10] → Fr (fun g => g = r) w V → V.heap.size = w.heap.size → Q (.returned (.agg #[v0, v1, v2, v3, v4, v5, v6, v7, v8, v9, v10])) (V.alloc o)) : bodyPost Try.prog fn Q .ret a ((((((((((((w.setCell ⟨r, 0, none⟩ v0).setCell ⟨r, 1, none⟩ v1).setCell ⟨r, 2, none⟩ v2).setCell ⟨r, 3, none⟩ v3).setCell ⟨r, 4, none⟩ v4).setCell ⟨r, 5, none⟩ v5).setCell ⟨r, 6, none⟩ v6).setCell ⟨r, 7, none⟩ v7).setCell ⟨r, 8, none⟩ v8).setCell ⟨r, 9, none⟩ v9).setCell ⟨r, 10, none⟩ v10).alloc o) := by
  obtain ⟨h1, h2⟩ := act_put hb hn v0 v1 v2 v3 v4 v5 v6 v7 v8 v9 v10
  exact act_res hres hs hd (h1.alloc _) (hQ _ h1 h2 (by simp [World.setCell]))

end Go.Proofs.Ytpbgcbpofhbgbaa

/- script.read: an act is read. -/
namespace Go.Proofs.Ytpbgcbpofhbgbaa
open Go.RowKit

/-- of these bytes, with this fault, an act is read, and so much is left -/
def RdA (l : List UInt8) (f : Int) (a : AS) (l' : List UInt8) (f' : Int) : Prop :=
  ∃ (n0 n1 n2 n3 n4 n5 : Nat) (t6 t7 t8 : List UInt8) (kl : List KV) (cl : List HW) (L0 M0 L1 L2 L3 L4 L5 L6 L7 L8 L9 : List UInt8) (f0 g0 f1 f2 f3 f4 f5 f6 f7 f8 f9 : Int),
    intS l f 12 = (n0, L0, f0) ∧ (if n0 = 0 then failS L0 f0 2 else (L0, f0)) = (M0, g0) ∧ intS M0 g0 2 = (n1, L1, f1) ∧ intS L1 f1 1048577 = (n2, L2, f2) ∧ intS L2 f2 1048577 = (n3, L3, f3) ∧
    readS L3 f3 4294967295 = (n4, L4, f4) ∧ intS L4 f4 5 = (n5, L5, f5) ∧ textS L5 f5 96 = (t6, L6, f6) ∧ textS L6 f6 96 = (t7, L7, f7) ∧ textS L7 f7 4096 = (t8, L8, f8) ∧
    listS keepS L8 f8 = (kl, L9, f9) ∧ listS choS L9 f9 = (cl, l', f') ∧
    a = { k := (n0 : Int), s := (n1 : Int), n := (n2 : Int) - 1, b := (n3 : Int) - 1, m := (n4 : Int), ek := (n5 : Int), p := ⟨t6.toArray⟩, t := ⟨t7.toArray⟩, x := t8, kl := kl, cl := cl }
theorem RdA.one {l : List UInt8} {f : Int} {a b : AS} {l1 l2 : List UInt8} {f1 f2 : Int} (h : RdA l f a l1 f1) (k : RdA l f b l2 f2) : a = b ∧ l1 = l2 ∧ f1 = f2 := by
  obtain ⟨a0, a1, a2, a3, a4, a5, a6, a7, a8, a9, a10, L0, M0, L1, L2, L3, L4, L5, L6, L7, L8, L9, f0, g0, f1, f2, f3, f4, f5, f6, f7, f8, f9, h0, hg, h1, h2, h3, h4, h5, h6, h7, h8, h9, h10, rfl⟩ := h
  obtain ⟨b0, b1, b2, b3, b4, b5, b6, b7, b8, b9, b10, K0, N0, K1, K2, K3, K4, K5, K6, K7, K8, K9, e0, d0, e1, e2, e3, e4, e5, e6, e7, e8, e9, k0, kg, k1, k2, k3, k4, k5, k6, k7, k8, k9, k10, rfl⟩ := k
  rw [h0] at k0; obtain ⟨rfl, rfl, rfl⟩ : _ ∧ _ ∧ _ := by simpa using k0
  rw [hg] at kg; obtain ⟨rfl, rfl⟩ : _ ∧ _ := by simpa using kg
  rw [h1] at k1; obtain ⟨rfl, rfl, rfl⟩ : _ ∧ _ ∧ _ := by simpa using k1
  rw [h2] at k2; obtain ⟨rfl, rfl, rfl⟩ : _ ∧ _ ∧ _ := by simpa using k2
  rw [h3] at k3; obtain ⟨rfl, rfl, rfl⟩ : _ ∧ _ ∧ _ := by simpa using k3
  rw [h4] at k4; obtain ⟨rfl, rfl, rfl⟩ : _ ∧ _ ∧ _ := by simpa using k4
  rw [h5] at k5; obtain ⟨rfl, rfl, rfl⟩ : _ ∧ _ ∧ _ := by simpa using k5
  rw [h6] at k6; obtain ⟨rfl, rfl, rfl⟩ : _ ∧ _ ∧ _ := by simpa using k6
  rw [h7] at k7; obtain ⟨rfl, rfl, rfl⟩ : _ ∧ _ ∧ _ := by simpa using k7
  rw [h8] at k8; obtain ⟨rfl, rfl, rfl⟩ : _ ∧ _ ∧ _ := by simpa using k8
  rw [h9] at k9; obtain ⟨rfl, rfl, rfl⟩ : _ ∧ _ ∧ _ := by simpa using k9
  rw [h10] at k10; obtain ⟨rfl, rfl, rfl⟩ : _ ∧ _ ∧ _ := by simpa using k10
  exact ⟨rfl, rfl, rfl⟩
theorem intS_lt {l : List UInt8} {f : Int} {n m : Nat} {L : List UInt8} {g : Int} (h : intS l f (m : Int) = (n, L, g)) : n ≤ m ∧ L.length ≤ l.length := by
  have h1 := intS_le l f m
  have h2 := intS_len l f (m : Int)
  rw [h] at h1 h2
  exact ⟨h1, h2⟩
theorem readS_lt {l : List UInt8} {f : Int} {n m : Nat} {L : List UInt8} {g : Int} (h : readS l f m = (n, L, g)) : n ≤ m ∧ L.length ≤ l.length := by
  have h1 := readS_le l f m
  have h2 := readS_len l f m
  rw [h] at h1 h2
  exact ⟨h1, h2⟩
theorem textS_lt {l : List UInt8} {f m : Int} {t : List UInt8} {L : List UInt8} {g : Int} (h : textS l f m = (t, L, g)) : t.length ≤ l.length ∧ L.length ≤ l.length := by
  have h1 := textS_tl l f m
  have h2 := textS_len l f m
  rw [h] at h1 h2
  exact ⟨h1, h2⟩
theorem keepS_fit (l : List UInt8) (f : Int) : 0 ≤ (keepS l f).1.f ∧ (keepS l f).1.f ≤ 1048576 ∧ 0 ≤ (keepS l f).1.b ∧ (keepS l f).1.b ≤ 1048576 := by
  have h1 : (intS l f 1048576).1 ≤ 1048576 := intS_le l f 1048576
  have h2 : (intS (intS l f 1048576).2.1 (intS l f 1048576).2.2 1048576).1 ≤ 1048576 := intS_le (intS l f 1048576).2.1 (intS l f 1048576).2.2 1048576
  unfold keepS
  dsimp only
  omega
theorem choS_fit (l : List UInt8) (f : Int) : (choS l f).1.p.size ≤ l.length ∧ 0 ≤ (choS l f).1.w ∧ (choS l f).1.w ≤ 2 := by
  have h1 := textS_tl l f 96
  have h2 : (intS (textS l f 96).2.1 (textS l f 96).2.2 2).1 ≤ 2 := intS_le (textS l f 96).2.1 (textS l f 96).2.2 2
  unfold choS
  dsimp only
  refine ⟨?_, by omega, by omega⟩
  show (textS l f 96).1.toArray.size ≤ l.length
  simpa using h1
theorem list_fit {α : Type} {one : List UInt8 → Int → α × List UInt8 × Int} {P : α → Prop} {K : Nat} (h1 : ∀ l f, l.length ≤ K → P (one l f).1) (h2 : ∀ l f, (one l f).2.1.length ≤ l.length) {l L : List UInt8} {f g : Int} {s : List α} (h : listS one l f = (s, L, g)) (hl : l.length ≤ K) :
    s.length ≤ 8 ∧ L.length ≤ l.length ∧ ∀ a ∈ s, P a := by
  have q1 : (intS l f 8).1 ≤ 8 := intS_le l f 8
  have q2 := intS_len l f 8
  unfold listS at h
  have q3 := listN_len h2 (intS l f 8).1 (intS l f 8).2.1 (intS l f 8).2.2
  have q4 := listN_all h1 h2 (intS l f 8).1 (intS l f 8).2.1 (intS l f 8).2.2 (by omega)
  rw [h] at q3 q4
  dsimp only at q3 q4
  exact ⟨by omega, by omega, q4⟩
/-- in the bounds of its types -/
theorem RdA.fit {l l' : List UInt8} {f f' : Int} {a : AS} (h : RdA l f a l' f') (hl : l.length ≤ 140737488355328) : a.fit ∧ l'.length ≤ l.length := by
  obtain ⟨a0, a1, a2, a3, a4, a5, a6, a7, a8, a9, a10, L0, M0, L1, L2, L3, L4, L5, L6, L7, L8, L9, f0, g0, f1, f2, f3, f4, f5, f6, f7, f8, f9, h0, hg, h1, h2, h3, h4, h5, h6, h7, h8, h9, h10, rfl⟩ := h
  have q0 := intS_lt (m := 12) h0
  have qg : M0.length ≤ L0.length := by
    have := failS_len L0 f0 2
    split at hg
    · rw [hg] at this; exact this
    · injection hg with hg; rw [hg]; exact Nat.le_refl _
  have q1 := intS_lt (m := 2) h1
  have q2 := intS_lt (m := 1048577) h2
  have q3 := intS_lt (m := 1048577) h3
  have q4 := readS_lt h4
  have q5 := intS_lt (m := 5) h5
  have q6 := textS_lt h6
  have q7 := textS_lt h7
  have q8 := textS_lt h8
  have q9 := list_fit (P := fun x => 0 ≤ x.f ∧ x.f ≤ 1048576 ∧ 0 ≤ x.b ∧ x.b ≤ 1048576) (K := 140737488355328) (fun l f _ => keepS_fit l f) keepS_len h9 (by omega)
  have q10 := list_fit (P := fun x => x.p.size ≤ 140737488355328 ∧ 0 ≤ x.w ∧ x.w ≤ 2) (K := 140737488355328) (fun l f hl => ⟨Nat.le_trans (choS_fit l f).1 hl, (choS_fit l f).2⟩) choS_len h10 (by omega)
  refine ⟨⟨by dsimp only; omega, by dsimp only; omega, by dsimp only; omega, by dsimp only; omega, by dsimp only; omega, by dsimp only; omega, by show a6.toArray.size ≤ _; simp; omega, by show a7.toArray.size ≤ _; simp; omega, by dsimp only; omega, by dsimp only; omega, by dsimp only; omega, ?_, ?_⟩, by omega⟩
  · intro o ho
    have := q9.2.2 o ho
    omega
  · intro o ho
    have := q10.2.2 o ho
    exact ⟨this.1, by omega, by omega⟩


set_option maxRecDepth 100000 in
set_option maxHeartbeats 8000000 in
theorem read_any (eb : Nat) (Z : Nat → Prop) (A : Option Addr) (c : Nat) (l : List UInt8) (f : Int) (w : World) (h : EyeAt w 132 eb Z A c l f) (hZ : ∀ b, Z b → b < eb) (hl : l.length ≤ 140737488355328) :
    Calls Try.prog 64 #[.pointer (some ⟨eb, 0, none⟩)] w fun e w' => ∃ (a : AV) (l' : List UInt8) (f' : Int), e = .returned a.val ∧ RdA l f a.a l' f' ∧ a.ok w' (fun b => w.heap.size ≤ b) ∧ EyeTo w 132 eb Z l' f' w' ∧ (a.a.x.length ≤ a.xc ∧ a.xc ≤ maxLen) := by
  have hz : ¬ Z eb := fun h => by have := hZ _ h; omega
  have hlt := h.1.lt
  have hzw : ∀ x, Z x → x ≠ w.heap.size + 1 := fun x hx e => by have := hZ x hx; omega
  obtain ⟨n0, L0, f0, e0⟩ : ∃ n L g, intS l f 12 = (n, L, g) := ⟨_, _, _, rfl⟩
  obtain ⟨M0, g0, eg⟩ : ∃ L g, (if n0 = 0 then failS L0 f0 2 else (L0, f0)) = (L, g) := ⟨_, _, rfl⟩
  obtain ⟨n1, L1, f1, e1⟩ : ∃ n L g, intS M0 g0 2 = (n, L, g) := ⟨_, _, _, rfl⟩
  obtain ⟨n2, L2, f2, e2⟩ : ∃ n L g, intS L1 f1 1048577 = (n, L, g) := ⟨_, _, _, rfl⟩
  obtain ⟨n3, L3, f3, e3⟩ : ∃ n L g, intS L2 f2 1048577 = (n, L, g) := ⟨_, _, _, rfl⟩
  obtain ⟨n4, L4, f4, e4⟩ : ∃ n L g, readS L3 f3 4294967295 = (n, L, g) := ⟨_, _, _, rfl⟩
  obtain ⟨n5, L5, f5, e5⟩ : ∃ n L g, intS L4 f4 5 = (n, L, g) := ⟨_, _, _, rfl⟩
  obtain ⟨t6, L6, f6, e6⟩ : ∃ n L g, textS L5 f5 96 = (n, L, g) := ⟨_, _, _, rfl⟩
  obtain ⟨t7, L7, f7, e7⟩ : ∃ n L g, textS L6 f6 96 = (n, L, g) := ⟨_, _, _, rfl⟩
  obtain ⟨t8, L8, f8, e8⟩ : ∃ n L g, textS L7 f7 4096 = (n, L, g) := ⟨_, _, _, rfl⟩
  obtain ⟨kl, L9, f9, e9⟩ : ∃ n L g, listS keepS L8 f8 = (n, L, g) := ⟨_, _, _, rfl⟩
  obtain ⟨cl, L10, f10, e10⟩ : ∃ n L g, listS choS L9 f9 = (n, L, g) := ⟨_, _, _, rfl⟩
  have hR : RdA l f { k := (n0 : Int), s := (n1 : Int), n := (n2 : Int) - 1, b := (n3 : Int) - 1, m := (n4 : Int), ek := (n5 : Int), p := ⟨t6.toArray⟩, t := ⟨t7.toArray⟩, x := t8, kl := kl, cl := cl } L10 f10 :=
    ⟨n0, n1, n2, n3, n4, n5, t6, t7, t8, kl, cl, L0, M0, L1, L2, L3, L4, L5, L6, L7, L8, L9, f0, g0, f1, f2, f3, f4, f5, f6, f7, f8, f9, e0, eg, e1, e2, e3, e4, e5, e6, e7, e8, e9, e10, rfl⟩
  have hfit := Lib.hid (hR.fit hl).1
  have HR := Lib.hid hR
  clear hR
  have qg : M0.length ≤ L0.length := by
    have := failS_len L0 f0 2
    split at eg
    · rw [eg] at this; exact this
    · injection eg with eg; rw [eg]; exact Nat.le_refl _
  have q0 := intS_lt (m := 12) e0
  have q1 := intS_lt (m := 2) e1
  have q2 := intS_lt (m := 1048577) e2
  have q3 := intS_lt (m := 1048577) e3
  have q4 := readS_lt e4
  have q5 := intS_lt (m := 5) e5
  have q6 := textS_lt e6
  have q7 := textS_lt e7
  have q8 := textS_lt e8
  have q9 := list_fit (P := fun _ => True) (K := 140737488355328) (fun _ _ _ => trivial) keepS_len e9 (by omega)
  have hw2 : IntKind.i64.wrap ((n2 : Int) - 1) = (n2 : Int) - 1 := IntWalk.i64_in _ (by omega)
  have hw3 : IntKind.i64.wrap ((n3 : Int) - 1) = (n3 : Int) - 1 := IntWalk.i64_in _ (by omega)
  have hw4 : IntKind.u32.wrap (n4 : Int) = (n4 : Int) := IntWalk.u32_in _ (by omega)
  have H0 := Lib.hid (fun W A c h => int_any eb Z A c l f 12 W h hz (by omega))
  rw [e0] at H0
  have H1 := Lib.hid (fun W A c h => int_any eb Z A c M0 g0 2 W h hz (by omega))
  rw [e1] at H1
  have H2 := Lib.hid (fun W A c h => int_any eb Z A c L1 f1 1048577 W h hz (by omega))
  rw [e2] at H2
  have H3 := Lib.hid (fun W A c h => int_any eb Z A c L2 f2 1048577 W h hz (by omega))
  rw [e3] at H3
  have H4 := Lib.hid (fun W A c h => eyeNum_any eb Z A c L3 f3 4294967295 W h hz)
  rw [e4] at H4
  have H5 := Lib.hid (fun W A c h => int_any eb Z A c L4 f4 5 W h hz (by omega))
  rw [e5] at H5
  have H6 := Lib.hid (fun W A c h => text_any eb Z A c L5 f5 96 W h hz (by omega) (by omega))
  rw [e6] at H6
  have H7 := Lib.hid (fun W A c h => text_any eb Z A c L6 f6 96 W h hz (by omega) (by omega))
  rw [e7] at H7
  have H8 := Lib.hid (fun W A c h => text_any eb Z A c L7 f7 4096 W h hz (by omega) (by omega))
  rw [e8] at H8
  have H9 := Lib.hid (fun W A c h hu => list1_any eb w.heap.size Z A c L8 f8 W h hZ hu (by omega) (by omega))
  rw [e9] at H9
  have H10 := Lib.hid (fun W A c h hu => list2_any eb w.heap.size Z A c L9 f9 W h hZ hu (by omega) (by omega))
  rw [e10] at H10
  have HFL := Lib.hid (fun W A c h => fail_any eb Z A c L0 f0 2 W h)
  clear e0 e1 e2 e3 e4 e5 e6 e7 e8 e9 e10
  have hb0 : Below w.heap.size w ((w.alloc (.cells #[.pointer (some ⟨eb, 0, none⟩)] 102)).alloc (.cells #[.int .i64 0, .int .i64 0, .int .i64 0, .int .i64 0, .int .u32 0, .int .i64 0, .string ⟨#[]⟩, .string ⟨#[]⟩, .slice none 0 0, .slice none 0 0, .slice none 0 0] 57)) := (by repeat (first | exact Below.refl _ _ | refine Below.alloc ?_ (by simp) _ | refine Below.setCell ?_ (by simp) _ | refine Below.drew ?_))
  have u0 : ((w.alloc (.cells #[.pointer (some ⟨eb, 0, none⟩)] 102)).alloc (.cells #[.int .i64 0, .int .i64 0, .int .i64 0, .int .i64 0, .int .u32 0, .int .i64 0, .string ⟨#[]⟩, .string ⟨#[]⟩, .slice none 0 0, .slice none 0 0, .slice none 0 0] 57)).cell? ⟨w.heap.size, 0, none⟩ = some (.pointer (some ⟨eb, 0, none⟩)) := ((Blk.new w 102 #[.pointer (some ⟨eb, 0, none⟩)]).alloc (.cells #[.int .i64 0, .int .i64 0, .int .i64 0, .int .i64 0, .int .u32 0, .int .i64 0, .string ⟨#[]⟩, .string ⟨#[]⟩, .slice none 0 0, .slice none 0 0, .slice none 0 0] 57)).cell 0
  have bx0 := Blk.new (w.alloc (.cells #[.pointer (some ⟨eb, 0, none⟩)] 102)) 57 #[.int .i64 0, .int .i64 0, .int .i64 0, .int .i64 0, .int .u32 0, .int .i64 0, .string ⟨#[]⟩, .string ⟨#[]⟩, .slice none 0 0, .slice none 0 0, .slice none 0 0]
  rw [World.size_alloc] at bx0
  go_enter Try.func64, Try.ntmps64
  go_wp2_with fail
  generalize (w.alloc (.cells #[.pointer (some ⟨eb, 0, none⟩)] 102)).alloc (.cells #[.int .i64 0, .int .i64 0, .int .i64 0, .int .i64 0, .int .u32 0, .int .i64 0, .string ⟨#[]⟩, .string ⟨#[]⟩, .slice none 0 0, .slice none 0 0, .slice none 0 0] 57) = V0 at *
  have ht0 : EyeTo w 132 eb Z l f V0 := ⟨⟨A, c, h.below hb0⟩, Fr.of_below hb0 _⟩
  have hsV := hb0.size
  have sx := bx0.lt
  by_cases hn0 : n0 = 0
  · subst hn0
    rw [if_pos rfl] at eg
    obtain ⟨A0_, c0_, ha0⟩ := ht0.at_
    refine (H0.out _ A0_ c0_ ha0).mono ?_
    rintro e w1 ⟨rfl, h1⟩
    (try dsimp only at h1)
    have bx1' := bx0.fr h1.fr (by omega)
    have u1' := keep1 u0 h1 (by omega)
    have v1' := h1.fr.size
    have qq : w1.cell? ⟨w.heap.size + 1, 0, none⟩ = some (.int .i64 0) := bx1'.cell 0
    have zz := bx1'.frozen 0
    go_wp2_with fail
    obtain ⟨ht1, bx1, hf_⟩ := box_set (o := 0) (ht0.trans h1) bx1' (by omega) (by omega) hzw (.int .i64 0)
    simp only [List.setIfInBounds_toArray, List.set_cons_zero] at bx1
    have u1 := (hf_.cell (p := ⟨w.heap.size, 0, none⟩) (World.block_lt_of_cell? _ _ u1') (by simp)).trans u1'
    have v1 : V0.heap.size ≤ (w1.setCell ⟨w.heap.size + 1, 0, none⟩ (.int .i64 0)).heap.size := Nat.le_trans v1' hf_.size
    clear qq zz hf_ bx0 bx1' h1 u0 u1' ht0 H0 ha0 v1'
    generalize w1.setCell ⟨w.heap.size + 1, 0, none⟩ (.int .i64 0) = V1 at *
    have sz1 : w.heap.size + 2 ≤ V1.heap.size := by omega
    obtain ⟨A1_, c1_, ha1⟩ := ht1.at_
    refine (HFL.out _ A1_ c1_ ha1).mono ?_
    rintro e w2 ⟨rfl, h2⟩
    rw [eg] at h2
    dsimp only at h2
    have bx2 := bx1.fr h2.fr (by omega)
    have u2 := keep1 u1 h2 (by omega)
    have ht2 := ht1.trans h2
    have sz2 : w.heap.size + 2 ≤ w2.heap.size := by have := h2.fr.size; omega
    clear bx1 u1 ht1 ha1 h2
    go_wp2_with fail
    obtain ⟨V2, rfl⟩ : ∃ V2 : World, V2 = w2 := ⟨_, rfl⟩
    obtain ⟨A2_, c2_, ha2⟩ := ht2.at_
    refine (H1.out _ A2_ c2_ ha2).mono ?_
    rintro e w3 ⟨rfl, h3⟩
    (try dsimp only at h3)
    have bx3' := bx2.fr h3.fr (by omega)
    have u3' := keep1 u2 h3 (by omega)
    have v3' := h3.fr.size
    have qq : w3.cell? ⟨w.heap.size + 1, 1, none⟩ = some (.int .i64 0) := bx3'.cell 1
    have zz := bx3'.frozen 1
    go_wp2_with fail
    obtain ⟨ht3, bx3, hf_⟩ := box_set (o := 1) (ht2.trans h3) bx3' (by omega) (by omega) hzw (.int .i64 (n1 : Int))
    simp only [List.setIfInBounds_toArray, List.set_cons_zero, List.set_cons_succ] at bx3
    have u3 := (hf_.cell (p := ⟨w.heap.size, 0, none⟩) (World.block_lt_of_cell? _ _ u3') (by simp)).trans u3'
    have v3 : V2.heap.size ≤ (w3.setCell ⟨w.heap.size + 1, 1, none⟩ (.int .i64 (n1 : Int))).heap.size := Nat.le_trans v3' hf_.size
    clear qq zz hf_ bx2 bx3' h3 u2 u3' ht2 H1 ha2 v3'
    generalize w3.setCell ⟨w.heap.size + 1, 1, none⟩ (.int .i64 (n1 : Int)) = V3 at *
    have sz3 : w.heap.size + 2 ≤ V3.heap.size := by omega
    obtain ⟨A3_, c3_, ha3⟩ := ht3.at_
    refine (H2.out _ A3_ c3_ ha3).mono ?_
    rintro e w4 ⟨rfl, h4⟩
    (try dsimp only at h4)
    have bx4' := bx3.fr h4.fr (by omega)
    have u4' := keep1 u3 h4 (by omega)
    have v4' := h4.fr.size
    have qq : w4.cell? ⟨w.heap.size + 1, 2, none⟩ = some (.int .i64 0) := bx4'.cell 2
    have zz := bx4'.frozen 2
    go_wp2_with fail
    obtain ⟨ht4, bx4, hf_⟩ := box_set (o := 2) (ht3.trans h4) bx4' (by omega) (by omega) hzw (.int .i64 ((n2 : Int) - 1))
    simp only [List.setIfInBounds_toArray, List.set_cons_zero, List.set_cons_succ] at bx4
    have u4 := (hf_.cell (p := ⟨w.heap.size, 0, none⟩) (World.block_lt_of_cell? _ _ u4') (by simp)).trans u4'
    have v4 : V3.heap.size ≤ (w4.setCell ⟨w.heap.size + 1, 2, none⟩ (.int .i64 ((n2 : Int) - 1))).heap.size := Nat.le_trans v4' hf_.size
    clear qq zz hf_ bx3 bx4' h4 u3 u4' ht3 H2 ha3 v4'
    generalize w4.setCell ⟨w.heap.size + 1, 2, none⟩ (.int .i64 ((n2 : Int) - 1)) = V4 at *
    have sz4 : w.heap.size + 2 ≤ V4.heap.size := by omega
    obtain ⟨A4_, c4_, ha4⟩ := ht4.at_
    refine (H3.out _ A4_ c4_ ha4).mono ?_
    rintro e w5 ⟨rfl, h5⟩
    (try dsimp only at h5)
    have bx5' := bx4.fr h5.fr (by omega)
    have u5' := keep1 u4 h5 (by omega)
    have v5' := h5.fr.size
    have qq : w5.cell? ⟨w.heap.size + 1, 3, none⟩ = some (.int .i64 0) := bx5'.cell 3
    have zz := bx5'.frozen 3
    go_wp2_with fail
    obtain ⟨ht5, bx5, hf_⟩ := box_set (o := 3) (ht4.trans h5) bx5' (by omega) (by omega) hzw (.int .i64 ((n3 : Int) - 1))
    simp only [List.setIfInBounds_toArray, List.set_cons_zero, List.set_cons_succ] at bx5
    have u5 := (hf_.cell (p := ⟨w.heap.size, 0, none⟩) (World.block_lt_of_cell? _ _ u5') (by simp)).trans u5'
    have v5 : V4.heap.size ≤ (w5.setCell ⟨w.heap.size + 1, 3, none⟩ (.int .i64 ((n3 : Int) - 1))).heap.size := Nat.le_trans v5' hf_.size
    clear qq zz hf_ bx4 bx5' h5 u4 u5' ht4 H3 ha4 v5'
    generalize w5.setCell ⟨w.heap.size + 1, 3, none⟩ (.int .i64 ((n3 : Int) - 1)) = V5 at *
    have sz5 : w.heap.size + 2 ≤ V5.heap.size := by omega
    obtain ⟨A5_, c5_, ha5⟩ := ht5.at_
    refine (H4.out _ A5_ c5_ ha5).mono ?_
    rintro e w6 ⟨rfl, h6⟩
    (try dsimp only at h6)
    have bx6' := bx5.fr h6.fr (by omega)
    have u6' := keep1 u5 h6 (by omega)
    have v6' := h6.fr.size
    have qq : w6.cell? ⟨w.heap.size + 1, 4, none⟩ = some (.int .u32 0) := bx6'.cell 4
    have zz := bx6'.frozen 4
    go_wp2_with fail
    obtain ⟨ht6, bx6, hf_⟩ := box_set (o := 4) (ht5.trans h6) bx6' (by omega) (by omega) hzw (.int .u32 (n4 : Int))
    simp only [List.setIfInBounds_toArray, List.set_cons_zero, List.set_cons_succ] at bx6
    have u6 := (hf_.cell (p := ⟨w.heap.size, 0, none⟩) (World.block_lt_of_cell? _ _ u6') (by simp)).trans u6'
    have v6 : V5.heap.size ≤ (w6.setCell ⟨w.heap.size + 1, 4, none⟩ (.int .u32 (n4 : Int))).heap.size := Nat.le_trans v6' hf_.size
    clear qq zz hf_ bx5 bx6' h6 u5 u6' ht5 H4 ha5 v6'
    generalize w6.setCell ⟨w.heap.size + 1, 4, none⟩ (.int .u32 (n4 : Int)) = V6 at *
    have sz6 : w.heap.size + 2 ≤ V6.heap.size := by omega
    obtain ⟨A6_, c6_, ha6⟩ := ht6.at_
    refine (H5.out _ A6_ c6_ ha6).mono ?_
    rintro e w7 ⟨rfl, h7⟩
    (try dsimp only at h7)
    have bx7' := bx6.fr h7.fr (by omega)
    have u7' := keep1 u6 h7 (by omega)
    have v7' := h7.fr.size
    have qq : w7.cell? ⟨w.heap.size + 1, 5, none⟩ = some (.int .i64 0) := bx7'.cell 5
    have zz := bx7'.frozen 5
    go_wp2_with fail
    obtain ⟨ht7, bx7, hf_⟩ := box_set (o := 5) (ht6.trans h7) bx7' (by omega) (by omega) hzw (.int .i64 (n5 : Int))
    simp only [List.setIfInBounds_toArray, List.set_cons_zero, List.set_cons_succ] at bx7
    have u7 := (hf_.cell (p := ⟨w.heap.size, 0, none⟩) (World.block_lt_of_cell? _ _ u7') (by simp)).trans u7'
    have v7 : V6.heap.size ≤ (w7.setCell ⟨w.heap.size + 1, 5, none⟩ (.int .i64 (n5 : Int))).heap.size := Nat.le_trans v7' hf_.size
    clear qq zz hf_ bx6 bx7' h7 u6 u7' ht6 H5 ha6 v7'
    generalize w7.setCell ⟨w.heap.size + 1, 5, none⟩ (.int .i64 (n5 : Int)) = V7 at *
    have sz7 : w.heap.size + 2 ≤ V7.heap.size := by omega
    obtain ⟨A7_, c7_, ha7⟩ := ht7.at_
    refine (H6.out _ A7_ c7_ ha7).mono ?_
    rintro e w8 ⟨A_, c_, t_, rfl, ht_, ho_, h8⟩
    (try dsimp only at h8)
    obtain rfl : t6 = t_ := ht_.out.symm
    have k_ := conv_by ho_.rd c_
    have bx8' := bx7.fr h8.fr (by omega)
    have u8' := keep1 u7 h8 (by omega)
    have v8' := h8.fr.size
    have qq : w8.cell? ⟨w.heap.size + 1, 6, none⟩ = some (.string ⟨#[]⟩) := bx8'.cell 6
    have zz := bx8'.frozen 6
    go_wp2_with fail
    obtain ⟨ht8, bx8, hf_⟩ := box_set (o := 6) (ht7.trans h8) bx8' (by omega) (by omega) hzw (.string ⟨t6.toArray⟩)
    simp only [List.setIfInBounds_toArray, List.set_cons_zero, List.set_cons_succ] at bx8
    have u8 := (hf_.cell (p := ⟨w.heap.size, 0, none⟩) (World.block_lt_of_cell? _ _ u8') (by simp)).trans u8'
    have v8 : V7.heap.size ≤ (w8.setCell ⟨w.heap.size + 1, 6, none⟩ (.string ⟨t6.toArray⟩)).heap.size := Nat.le_trans v8' hf_.size
    clear qq zz hf_ bx7 bx8' h8 u7 u8' ht7 H6 ha7 v8' ho_ k_ ht_
    generalize w8.setCell ⟨w.heap.size + 1, 6, none⟩ (.string ⟨t6.toArray⟩) = V8 at *
    have sz8 : w.heap.size + 2 ≤ V8.heap.size := by omega
    obtain ⟨A8_, c8_, ha8⟩ := ht8.at_
    refine (H7.out _ A8_ c8_ ha8).mono ?_
    rintro e w9 ⟨A_, c_, t_, rfl, ht_, ho_, h9⟩
    (try dsimp only at h9)
    obtain rfl : t7 = t_ := ht_.out.symm
    have k_ := conv_by ho_.rd c_
    have bx9' := bx8.fr h9.fr (by omega)
    have u9' := keep1 u8 h9 (by omega)
    have v9' := h9.fr.size
    have qq : w9.cell? ⟨w.heap.size + 1, 7, none⟩ = some (.string ⟨#[]⟩) := bx9'.cell 7
    have zz := bx9'.frozen 7
    go_wp2_with fail
    obtain ⟨ht9, bx9, hf_⟩ := box_set (o := 7) (ht8.trans h9) bx9' (by omega) (by omega) hzw (.string ⟨t7.toArray⟩)
    simp only [List.setIfInBounds_toArray, List.set_cons_zero, List.set_cons_succ] at bx9
    have u9 := (hf_.cell (p := ⟨w.heap.size, 0, none⟩) (World.block_lt_of_cell? _ _ u9') (by simp)).trans u9'
    have v9 : V8.heap.size ≤ (w9.setCell ⟨w.heap.size + 1, 7, none⟩ (.string ⟨t7.toArray⟩)).heap.size := Nat.le_trans v9' hf_.size
    clear qq zz hf_ bx8 bx9' h9 u8 u9' ht8 H7 ha8 v9' ho_ k_ ht_
    generalize w9.setCell ⟨w.heap.size + 1, 7, none⟩ (.string ⟨t7.toArray⟩) = V9 at *
    have sz9 : w.heap.size + 2 ≤ V9.heap.size := by omega
    obtain ⟨A9_, c9_, ha9⟩ := ht9.at_
    refine (H8.out _ A9_ c9_ ha9).mono ?_
    rintro e w10 ⟨A8, c8, t_, rfl, ht_, ho_, h10⟩
    (try dsimp only at h10)
    obtain rfl : t8 = t_ := ht_.out.symm
    have hcap : t8.length ≤ c8 ∧ c8 ≤ maxLen := by
      obtain ⟨A9_, c9_, e9_, q1_, q2_, _⟩ := ho_.form
      obtain ⟨rfl, rfl⟩ : A8 = A9_ ∧ c8 = c9_ := by simpa using e9_
      exact ⟨q1_, q2_⟩
    have hcap := Lib.hid hcap
    have hy10 : By w10 (fun b => w.heap.size + 2 ≤ b) A8 t8 := ho_.rd.mono (fun b _ hb => by have := (own_ablk ho_ b hb).1; omega)
    have bx10' := bx9.fr h10.fr (by omega)
    have u10' := keep1 u9 h10 (by omega)
    have v10' := h10.fr.size
    have qq : w10.cell? ⟨w.heap.size + 1, 8, none⟩ = some (.slice none 0 0) := bx10'.cell 8
    have zz := bx10'.frozen 8
    go_wp2_with fail
    obtain ⟨ht10, bx10, hf_⟩ := box_set (o := 8) (ht9.trans h10) bx10' (by omega) (by omega) hzw (.slice A8 t8.length c8)
    simp only [List.setIfInBounds_toArray, List.set_cons_zero, List.set_cons_succ] at bx10
    have u10 := (hf_.cell (p := ⟨w.heap.size, 0, none⟩) (World.block_lt_of_cell? _ _ u10') (by simp)).trans u10'
    replace hy10 := hy10.fr hf_ (fun b _ hb e => by omega)
    have v10 : V9.heap.size ≤ (w10.setCell ⟨w.heap.size + 1, 8, none⟩ (.slice A8 t8.length c8)).heap.size := Nat.le_trans v10' hf_.size
    clear qq zz hf_ bx9 bx10' h10 u9 u10' ht9 H8 ha9 v10' ho_ ht_
    generalize w10.setCell ⟨w.heap.size + 1, 8, none⟩ (.slice A8 t8.length c8) = V10 at *
    have sz10 : w.heap.size + 2 ≤ V10.heap.size := by omega
    obtain ⟨A10_, c10_, ha10⟩ := ht10.at_
    refine (H9.out _ A10_ c10_ ha10 u10).mono ?_
    rintro e w11 ⟨Bk, dk, s_, rfl, hs_, hr_, h11⟩
    (try dsimp only at h11)
    obtain rfl : kl = s_ := hs_.out.symm
    have hkl11 := hr_.mono (Z' := fun b => w.heap.size + 2 ≤ b) (fun b _ hb => by omega)
    have bx11' := bx10.fr h11.fr (by omega)
    replace hy10 := hy10.fr h11.fr (fun b _ hb e => by omega)
    have u11' := keep1 u10 h11 (by omega)
    have v11' := h11.fr.size
    have qq : w11.cell? ⟨w.heap.size + 1, 9, none⟩ = some (.slice none 0 0) := bx11'.cell 9
    have zz := bx11'.frozen 9
    go_wp2_with fail
    obtain ⟨ht11, bx11, hf_⟩ := box_set (o := 9) (ht10.trans h11) bx11' (by omega) (by omega) hzw (.slice Bk kl.length dk)
    simp only [List.setIfInBounds_toArray, List.set_cons_zero, List.set_cons_succ] at bx11
    have u11 := (hf_.cell (p := ⟨w.heap.size, 0, none⟩) (World.block_lt_of_cell? _ _ u11') (by simp)).trans u11'
    replace hy10 := hy10.fr hf_ (fun b _ hb e => by omega)
    replace hkl11 := hkl11.fr hf_ (fun b _ hb e => by omega)
    have v11 : V10.heap.size ≤ (w11.setCell ⟨w.heap.size + 1, 9, none⟩ (.slice Bk kl.length dk)).heap.size := Nat.le_trans v11' hf_.size
    clear qq zz hf_ bx10 bx11' h11 u10 u11' ht10 H9 ha10 v11' hr_ hs_
    generalize w11.setCell ⟨w.heap.size + 1, 9, none⟩ (.slice Bk kl.length dk) = V11 at *
    have sz11 : w.heap.size + 2 ≤ V11.heap.size := by omega
    obtain ⟨A11_, c11_, ha11⟩ := ht11.at_
    refine (H10.out _ A11_ c11_ ha11 u11).mono ?_
    rintro e w12 ⟨Bc, dc, s_, rfl, hs_, hr_, h12⟩
    (try dsimp only at h12)
    obtain rfl : cl = s_ := hs_.out.symm
    have hcl12 := hr_.mono (Z' := fun b => w.heap.size + 2 ≤ b) (fun b _ hb => by omega)
    have bx12' := bx11.fr h12.fr (by omega)
    replace hy10 := hy10.fr h12.fr (fun b _ hb e => by omega)
    replace hkl11 := hkl11.fr h12.fr (fun b _ hb e => by omega)
    have u12' := keep1 u11 h12 (by omega)
    have v12' := h12.fr.size
    have r0 : w12.cell? ⟨w.heap.size + 1, 0, none⟩ = some (.int .i64 0) := bx12'.cell 0
    have z0 := bx12'.frozen 0
    have r1 : w12.cell? ⟨w.heap.size + 1, 1, none⟩ = some (.int .i64 (n1 : Int)) := bx12'.cell 1
    have z1 := bx12'.frozen 1
    have r2 : w12.cell? ⟨w.heap.size + 1, 2, none⟩ = some (.int .i64 ((n2 : Int) - 1)) := bx12'.cell 2
    have z2 := bx12'.frozen 2
    have r3 : w12.cell? ⟨w.heap.size + 1, 3, none⟩ = some (.int .i64 ((n3 : Int) - 1)) := bx12'.cell 3
    have z3 := bx12'.frozen 3
    have r4 : w12.cell? ⟨w.heap.size + 1, 4, none⟩ = some (.int .u32 (n4 : Int)) := bx12'.cell 4
    have z4 := bx12'.frozen 4
    have r5 : w12.cell? ⟨w.heap.size + 1, 5, none⟩ = some (.int .i64 (n5 : Int)) := bx12'.cell 5
    have z5 := bx12'.frozen 5
    have r6 : w12.cell? ⟨w.heap.size + 1, 6, none⟩ = some (.string ⟨t6.toArray⟩) := bx12'.cell 6
    have z6 := bx12'.frozen 6
    have r7 : w12.cell? ⟨w.heap.size + 1, 7, none⟩ = some (.string ⟨t7.toArray⟩) := bx12'.cell 7
    have z7 := bx12'.frozen 7
    have r8 : w12.cell? ⟨w.heap.size + 1, 8, none⟩ = some (.slice A8 t8.length c8) := bx12'.cell 8
    have z8 := bx12'.frozen 8
    have r9 : w12.cell? ⟨w.heap.size + 1, 9, none⟩ = some (.slice Bk kl.length dk) := bx12'.cell 9
    have z9 := bx12'.frozen 9
    have r10 : w12.cell? ⟨w.heap.size + 1, 10, none⟩ = some (.slice none 0 0) := bx12'.cell 10
    have z10 := bx12'.frozen 10
    go_wp2_with fail
    refine act_ret (bx12'.set_ 10 (.slice Bc cl.length dc)) (by simp) rfl rfl rfl ?_
    intro V hV fV
    have f9' : Fr (fun g => g = w.heap.size + 1) w12 (w12.setCell ⟨w.heap.size + 1, 10, none⟩ (.slice Bc cl.length dc)) := (Fr.refl (fun g => g = w.heap.size + 1) w12).setAt _ 10 rfl _
    have fW := f9'.trans fV (fun _ _ h => h)
    exact ⟨{ a := { k := ((0 : Nat) : Int), s := (n1 : Int), n := (n2 : Int) - 1, b := (n3 : Int) - 1, m := (n4 : Int), ek := (n5 : Int), p := ⟨t6.toArray⟩, t := ⟨t7.toArray⟩, x := t8, kl := kl, cl := cl }, xA := A8, xc := c8, kA := Bk, kc := dk, cA := Bc, cc := dc }, L10, f10, rfl, HR.out, ⟨(hy10.fr fW (fun b _ hb e => by omega)).mono (fun b _ hb => by omega), (hkl11.fr fW (fun b _ hb e => by omega)).mono (fun b _ hb => by omega), (hcl12.fr fW (fun b _ hb e => by omega)).mono (fun b _ hb => by omega), hfit.out⟩, (ht11.trans h12).side fW (by omega) (by omega) hzw, hcap.out⟩
  · have hk0 : ((n0 : Int) == 0) = false := by simp; omega
    rw [if_neg hn0] at eg
    injection eg with eg1 eg2
    subst eg1 eg2
    obtain ⟨A0_, c0_, ha0⟩ := ht0.at_
    refine (H0.out _ A0_ c0_ ha0).mono ?_
    rintro e w1 ⟨rfl, h1⟩
    (try dsimp only at h1)
    have bx1' := bx0.fr h1.fr (by omega)
    have u1' := keep1 u0 h1 (by omega)
    have v1' := h1.fr.size
    have qq : w1.cell? ⟨w.heap.size + 1, 0, none⟩ = some (.int .i64 0) := bx1'.cell 0
    have zz := bx1'.frozen 0
    go_wp2_with fail
    obtain ⟨ht1, bx1, hf_⟩ := box_set (o := 0) (ht0.trans h1) bx1' (by omega) (by omega) hzw (.int .i64 (n0 : Int))
    simp only [List.setIfInBounds_toArray, List.set_cons_zero] at bx1
    have u1 := (hf_.cell (p := ⟨w.heap.size, 0, none⟩) (World.block_lt_of_cell? _ _ u1') (by simp)).trans u1'
    have v1 : V0.heap.size ≤ (w1.setCell ⟨w.heap.size + 1, 0, none⟩ (.int .i64 (n0 : Int))).heap.size := Nat.le_trans v1' hf_.size
    clear qq zz hf_ bx0 bx1' h1 u0 u1' ht0 H0 ha0 v1'
    generalize w1.setCell ⟨w.heap.size + 1, 0, none⟩ (.int .i64 (n0 : Int)) = V1 at *
    have sz1 : w.heap.size + 2 ≤ V1.heap.size := by omega
    obtain ⟨A1_, c1_, ha1⟩ := ht1.at_
    refine (H1.out _ A1_ c1_ ha1).mono ?_
    rintro e w2 ⟨rfl, h2⟩
    (try dsimp only at h2)
    have bx2' := bx1.fr h2.fr (by omega)
    have u2' := keep1 u1 h2 (by omega)
    have v2' := h2.fr.size
    have qq : w2.cell? ⟨w.heap.size + 1, 1, none⟩ = some (.int .i64 0) := bx2'.cell 1
    have zz := bx2'.frozen 1
    go_wp2_with fail
    obtain ⟨ht2, bx2, hf_⟩ := box_set (o := 1) (ht1.trans h2) bx2' (by omega) (by omega) hzw (.int .i64 (n1 : Int))
    simp only [List.setIfInBounds_toArray, List.set_cons_zero, List.set_cons_succ] at bx2
    have u2 := (hf_.cell (p := ⟨w.heap.size, 0, none⟩) (World.block_lt_of_cell? _ _ u2') (by simp)).trans u2'
    have v2 : V1.heap.size ≤ (w2.setCell ⟨w.heap.size + 1, 1, none⟩ (.int .i64 (n1 : Int))).heap.size := Nat.le_trans v2' hf_.size
    clear qq zz hf_ bx1 bx2' h2 u1 u2' ht1 H1 ha1 v2'
    generalize w2.setCell ⟨w.heap.size + 1, 1, none⟩ (.int .i64 (n1 : Int)) = V2 at *
    have sz2 : w.heap.size + 2 ≤ V2.heap.size := by omega
    obtain ⟨A2_, c2_, ha2⟩ := ht2.at_
    refine (H2.out _ A2_ c2_ ha2).mono ?_
    rintro e w3 ⟨rfl, h3⟩
    (try dsimp only at h3)
    have bx3' := bx2.fr h3.fr (by omega)
    have u3' := keep1 u2 h3 (by omega)
    have v3' := h3.fr.size
    have qq : w3.cell? ⟨w.heap.size + 1, 2, none⟩ = some (.int .i64 0) := bx3'.cell 2
    have zz := bx3'.frozen 2
    go_wp2_with fail
    obtain ⟨ht3, bx3, hf_⟩ := box_set (o := 2) (ht2.trans h3) bx3' (by omega) (by omega) hzw (.int .i64 ((n2 : Int) - 1))
    simp only [List.setIfInBounds_toArray, List.set_cons_zero, List.set_cons_succ] at bx3
    have u3 := (hf_.cell (p := ⟨w.heap.size, 0, none⟩) (World.block_lt_of_cell? _ _ u3') (by simp)).trans u3'
    have v3 : V2.heap.size ≤ (w3.setCell ⟨w.heap.size + 1, 2, none⟩ (.int .i64 ((n2 : Int) - 1))).heap.size := Nat.le_trans v3' hf_.size
    clear qq zz hf_ bx2 bx3' h3 u2 u3' ht2 H2 ha2 v3'
    generalize w3.setCell ⟨w.heap.size + 1, 2, none⟩ (.int .i64 ((n2 : Int) - 1)) = V3 at *
    have sz3 : w.heap.size + 2 ≤ V3.heap.size := by omega
    obtain ⟨A3_, c3_, ha3⟩ := ht3.at_
    refine (H3.out _ A3_ c3_ ha3).mono ?_
    rintro e w4 ⟨rfl, h4⟩
    (try dsimp only at h4)
    have bx4' := bx3.fr h4.fr (by omega)
    have u4' := keep1 u3 h4 (by omega)
    have v4' := h4.fr.size
    have qq : w4.cell? ⟨w.heap.size + 1, 3, none⟩ = some (.int .i64 0) := bx4'.cell 3
    have zz := bx4'.frozen 3
    go_wp2_with fail
    obtain ⟨ht4, bx4, hf_⟩ := box_set (o := 3) (ht3.trans h4) bx4' (by omega) (by omega) hzw (.int .i64 ((n3 : Int) - 1))
    simp only [List.setIfInBounds_toArray, List.set_cons_zero, List.set_cons_succ] at bx4
    have u4 := (hf_.cell (p := ⟨w.heap.size, 0, none⟩) (World.block_lt_of_cell? _ _ u4') (by simp)).trans u4'
    have v4 : V3.heap.size ≤ (w4.setCell ⟨w.heap.size + 1, 3, none⟩ (.int .i64 ((n3 : Int) - 1))).heap.size := Nat.le_trans v4' hf_.size
    clear qq zz hf_ bx3 bx4' h4 u3 u4' ht3 H3 ha3 v4'
    generalize w4.setCell ⟨w.heap.size + 1, 3, none⟩ (.int .i64 ((n3 : Int) - 1)) = V4 at *
    have sz4 : w.heap.size + 2 ≤ V4.heap.size := by omega
    obtain ⟨A4_, c4_, ha4⟩ := ht4.at_
    refine (H4.out _ A4_ c4_ ha4).mono ?_
    rintro e w5 ⟨rfl, h5⟩
    (try dsimp only at h5)
    have bx5' := bx4.fr h5.fr (by omega)
    have u5' := keep1 u4 h5 (by omega)
    have v5' := h5.fr.size
    have qq : w5.cell? ⟨w.heap.size + 1, 4, none⟩ = some (.int .u32 0) := bx5'.cell 4
    have zz := bx5'.frozen 4
    go_wp2_with fail
    obtain ⟨ht5, bx5, hf_⟩ := box_set (o := 4) (ht4.trans h5) bx5' (by omega) (by omega) hzw (.int .u32 (n4 : Int))
    simp only [List.setIfInBounds_toArray, List.set_cons_zero, List.set_cons_succ] at bx5
    have u5 := (hf_.cell (p := ⟨w.heap.size, 0, none⟩) (World.block_lt_of_cell? _ _ u5') (by simp)).trans u5'
    have v5 : V4.heap.size ≤ (w5.setCell ⟨w.heap.size + 1, 4, none⟩ (.int .u32 (n4 : Int))).heap.size := Nat.le_trans v5' hf_.size
    clear qq zz hf_ bx4 bx5' h5 u4 u5' ht4 H4 ha4 v5'
    generalize w5.setCell ⟨w.heap.size + 1, 4, none⟩ (.int .u32 (n4 : Int)) = V5 at *
    have sz5 : w.heap.size + 2 ≤ V5.heap.size := by omega
    obtain ⟨A5_, c5_, ha5⟩ := ht5.at_
    refine (H5.out _ A5_ c5_ ha5).mono ?_
    rintro e w6 ⟨rfl, h6⟩
    (try dsimp only at h6)
    have bx6' := bx5.fr h6.fr (by omega)
    have u6' := keep1 u5 h6 (by omega)
    have v6' := h6.fr.size
    have qq : w6.cell? ⟨w.heap.size + 1, 5, none⟩ = some (.int .i64 0) := bx6'.cell 5
    have zz := bx6'.frozen 5
    go_wp2_with fail
    obtain ⟨ht6, bx6, hf_⟩ := box_set (o := 5) (ht5.trans h6) bx6' (by omega) (by omega) hzw (.int .i64 (n5 : Int))
    simp only [List.setIfInBounds_toArray, List.set_cons_zero, List.set_cons_succ] at bx6
    have u6 := (hf_.cell (p := ⟨w.heap.size, 0, none⟩) (World.block_lt_of_cell? _ _ u6') (by simp)).trans u6'
    have v6 : V5.heap.size ≤ (w6.setCell ⟨w.heap.size + 1, 5, none⟩ (.int .i64 (n5 : Int))).heap.size := Nat.le_trans v6' hf_.size
    clear qq zz hf_ bx5 bx6' h6 u5 u6' ht5 H5 ha5 v6'
    generalize w6.setCell ⟨w.heap.size + 1, 5, none⟩ (.int .i64 (n5 : Int)) = V6 at *
    have sz6 : w.heap.size + 2 ≤ V6.heap.size := by omega
    obtain ⟨A6_, c6_, ha6⟩ := ht6.at_
    refine (H6.out _ A6_ c6_ ha6).mono ?_
    rintro e w7 ⟨A_, c_, t_, rfl, ht_, ho_, h7⟩
    (try dsimp only at h7)
    obtain rfl : t6 = t_ := ht_.out.symm
    have k_ := conv_by ho_.rd c_
    have bx7' := bx6.fr h7.fr (by omega)
    have u7' := keep1 u6 h7 (by omega)
    have v7' := h7.fr.size
    have qq : w7.cell? ⟨w.heap.size + 1, 6, none⟩ = some (.string ⟨#[]⟩) := bx7'.cell 6
    have zz := bx7'.frozen 6
    go_wp2_with fail
    obtain ⟨ht7, bx7, hf_⟩ := box_set (o := 6) (ht6.trans h7) bx7' (by omega) (by omega) hzw (.string ⟨t6.toArray⟩)
    simp only [List.setIfInBounds_toArray, List.set_cons_zero, List.set_cons_succ] at bx7
    have u7 := (hf_.cell (p := ⟨w.heap.size, 0, none⟩) (World.block_lt_of_cell? _ _ u7') (by simp)).trans u7'
    have v7 : V6.heap.size ≤ (w7.setCell ⟨w.heap.size + 1, 6, none⟩ (.string ⟨t6.toArray⟩)).heap.size := Nat.le_trans v7' hf_.size
    clear qq zz hf_ bx6 bx7' h7 u6 u7' ht6 H6 ha6 v7' ho_ k_ ht_
    generalize w7.setCell ⟨w.heap.size + 1, 6, none⟩ (.string ⟨t6.toArray⟩) = V7 at *
    have sz7 : w.heap.size + 2 ≤ V7.heap.size := by omega
    obtain ⟨A7_, c7_, ha7⟩ := ht7.at_
    refine (H7.out _ A7_ c7_ ha7).mono ?_
    rintro e w8 ⟨A_, c_, t_, rfl, ht_, ho_, h8⟩
    (try dsimp only at h8)
    obtain rfl : t7 = t_ := ht_.out.symm
    have k_ := conv_by ho_.rd c_
    have bx8' := bx7.fr h8.fr (by omega)
    have u8' := keep1 u7 h8 (by omega)
    have v8' := h8.fr.size
    have qq : w8.cell? ⟨w.heap.size + 1, 7, none⟩ = some (.string ⟨#[]⟩) := bx8'.cell 7
    have zz := bx8'.frozen 7
    go_wp2_with fail
    obtain ⟨ht8, bx8, hf_⟩ := box_set (o := 7) (ht7.trans h8) bx8' (by omega) (by omega) hzw (.string ⟨t7.toArray⟩)
    simp only [List.setIfInBounds_toArray, List.set_cons_zero, List.set_cons_succ] at bx8
    have u8 := (hf_.cell (p := ⟨w.heap.size, 0, none⟩) (World.block_lt_of_cell? _ _ u8') (by simp)).trans u8'
    have v8 : V7.heap.size ≤ (w8.setCell ⟨w.heap.size + 1, 7, none⟩ (.string ⟨t7.toArray⟩)).heap.size := Nat.le_trans v8' hf_.size
    clear qq zz hf_ bx7 bx8' h8 u7 u8' ht7 H7 ha7 v8' ho_ k_ ht_
    generalize w8.setCell ⟨w.heap.size + 1, 7, none⟩ (.string ⟨t7.toArray⟩) = V8 at *
    have sz8 : w.heap.size + 2 ≤ V8.heap.size := by omega
    obtain ⟨A8_, c8_, ha8⟩ := ht8.at_
    refine (H8.out _ A8_ c8_ ha8).mono ?_
    rintro e w9 ⟨A8, c8, t_, rfl, ht_, ho_, h9⟩
    (try dsimp only at h9)
    obtain rfl : t8 = t_ := ht_.out.symm
    have hcap : t8.length ≤ c8 ∧ c8 ≤ maxLen := by
      obtain ⟨A9_, c9_, e9_, q1_, q2_, _⟩ := ho_.form
      obtain ⟨rfl, rfl⟩ : A8 = A9_ ∧ c8 = c9_ := by simpa using e9_
      exact ⟨q1_, q2_⟩
    have hcap := Lib.hid hcap
    have hy9 : By w9 (fun b => w.heap.size + 2 ≤ b) A8 t8 := ho_.rd.mono (fun b _ hb => by have := (own_ablk ho_ b hb).1; omega)
    have bx9' := bx8.fr h9.fr (by omega)
    have u9' := keep1 u8 h9 (by omega)
    have v9' := h9.fr.size
    have qq : w9.cell? ⟨w.heap.size + 1, 8, none⟩ = some (.slice none 0 0) := bx9'.cell 8
    have zz := bx9'.frozen 8
    go_wp2_with fail
    obtain ⟨ht9, bx9, hf_⟩ := box_set (o := 8) (ht8.trans h9) bx9' (by omega) (by omega) hzw (.slice A8 t8.length c8)
    simp only [List.setIfInBounds_toArray, List.set_cons_zero, List.set_cons_succ] at bx9
    have u9 := (hf_.cell (p := ⟨w.heap.size, 0, none⟩) (World.block_lt_of_cell? _ _ u9') (by simp)).trans u9'
    replace hy9 := hy9.fr hf_ (fun b _ hb e => by omega)
    have v9 : V8.heap.size ≤ (w9.setCell ⟨w.heap.size + 1, 8, none⟩ (.slice A8 t8.length c8)).heap.size := Nat.le_trans v9' hf_.size
    clear qq zz hf_ bx8 bx9' h9 u8 u9' ht8 H8 ha8 v9' ho_ ht_
    generalize w9.setCell ⟨w.heap.size + 1, 8, none⟩ (.slice A8 t8.length c8) = V9 at *
    have sz9 : w.heap.size + 2 ≤ V9.heap.size := by omega
    obtain ⟨A9_, c9_, ha9⟩ := ht9.at_
    refine (H9.out _ A9_ c9_ ha9 u9).mono ?_
    rintro e w10 ⟨Bk, dk, s_, rfl, hs_, hr_, h10⟩
    (try dsimp only at h10)
    obtain rfl : kl = s_ := hs_.out.symm
    have hkl10 := hr_.mono (Z' := fun b => w.heap.size + 2 ≤ b) (fun b _ hb => by omega)
    have bx10' := bx9.fr h10.fr (by omega)
    replace hy9 := hy9.fr h10.fr (fun b _ hb e => by omega)
    have u10' := keep1 u9 h10 (by omega)
    have v10' := h10.fr.size
    have qq : w10.cell? ⟨w.heap.size + 1, 9, none⟩ = some (.slice none 0 0) := bx10'.cell 9
    have zz := bx10'.frozen 9
    go_wp2_with fail
    obtain ⟨ht10, bx10, hf_⟩ := box_set (o := 9) (ht9.trans h10) bx10' (by omega) (by omega) hzw (.slice Bk kl.length dk)
    simp only [List.setIfInBounds_toArray, List.set_cons_zero, List.set_cons_succ] at bx10
    have u10 := (hf_.cell (p := ⟨w.heap.size, 0, none⟩) (World.block_lt_of_cell? _ _ u10') (by simp)).trans u10'
    replace hy9 := hy9.fr hf_ (fun b _ hb e => by omega)
    replace hkl10 := hkl10.fr hf_ (fun b _ hb e => by omega)
    have v10 : V9.heap.size ≤ (w10.setCell ⟨w.heap.size + 1, 9, none⟩ (.slice Bk kl.length dk)).heap.size := Nat.le_trans v10' hf_.size
    clear qq zz hf_ bx9 bx10' h10 u9 u10' ht9 H9 ha9 v10' hr_ hs_
    generalize w10.setCell ⟨w.heap.size + 1, 9, none⟩ (.slice Bk kl.length dk) = V10 at *
    have sz10 : w.heap.size + 2 ≤ V10.heap.size := by omega
    obtain ⟨A10_, c10_, ha10⟩ := ht10.at_
    refine (H10.out _ A10_ c10_ ha10 u10).mono ?_
    rintro e w11 ⟨Bc, dc, s_, rfl, hs_, hr_, h11⟩
    (try dsimp only at h11)
    obtain rfl : cl = s_ := hs_.out.symm
    have hcl11 := hr_.mono (Z' := fun b => w.heap.size + 2 ≤ b) (fun b _ hb => by omega)
    have bx11' := bx10.fr h11.fr (by omega)
    replace hy9 := hy9.fr h11.fr (fun b _ hb e => by omega)
    replace hkl10 := hkl10.fr h11.fr (fun b _ hb e => by omega)
    have u11' := keep1 u10 h11 (by omega)
    have v11' := h11.fr.size
    have r0 : w11.cell? ⟨w.heap.size + 1, 0, none⟩ = some (.int .i64 (n0 : Int)) := bx11'.cell 0
    have z0 := bx11'.frozen 0
    have r1 : w11.cell? ⟨w.heap.size + 1, 1, none⟩ = some (.int .i64 (n1 : Int)) := bx11'.cell 1
    have z1 := bx11'.frozen 1
    have r2 : w11.cell? ⟨w.heap.size + 1, 2, none⟩ = some (.int .i64 ((n2 : Int) - 1)) := bx11'.cell 2
    have z2 := bx11'.frozen 2
    have r3 : w11.cell? ⟨w.heap.size + 1, 3, none⟩ = some (.int .i64 ((n3 : Int) - 1)) := bx11'.cell 3
    have z3 := bx11'.frozen 3
    have r4 : w11.cell? ⟨w.heap.size + 1, 4, none⟩ = some (.int .u32 (n4 : Int)) := bx11'.cell 4
    have z4 := bx11'.frozen 4
    have r5 : w11.cell? ⟨w.heap.size + 1, 5, none⟩ = some (.int .i64 (n5 : Int)) := bx11'.cell 5
    have z5 := bx11'.frozen 5
    have r6 : w11.cell? ⟨w.heap.size + 1, 6, none⟩ = some (.string ⟨t6.toArray⟩) := bx11'.cell 6
    have z6 := bx11'.frozen 6
    have r7 : w11.cell? ⟨w.heap.size + 1, 7, none⟩ = some (.string ⟨t7.toArray⟩) := bx11'.cell 7
    have z7 := bx11'.frozen 7
    have r8 : w11.cell? ⟨w.heap.size + 1, 8, none⟩ = some (.slice A8 t8.length c8) := bx11'.cell 8
    have z8 := bx11'.frozen 8
    have r9 : w11.cell? ⟨w.heap.size + 1, 9, none⟩ = some (.slice Bk kl.length dk) := bx11'.cell 9
    have z9 := bx11'.frozen 9
    have r10 : w11.cell? ⟨w.heap.size + 1, 10, none⟩ = some (.slice none 0 0) := bx11'.cell 10
    have z10 := bx11'.frozen 10
    go_wp2_with fail
    refine act_ret (bx11'.set_ 10 (.slice Bc cl.length dc)) (by simp) rfl rfl rfl ?_
    intro V hV fV
    have f9' : Fr (fun g => g = w.heap.size + 1) w11 (w11.setCell ⟨w.heap.size + 1, 10, none⟩ (.slice Bc cl.length dc)) := (Fr.refl (fun g => g = w.heap.size + 1) w11).setAt _ 10 rfl _
    have fW := f9'.trans fV (fun _ _ h => h)
    exact ⟨{ a := { k := (n0 : Int), s := (n1 : Int), n := (n2 : Int) - 1, b := (n3 : Int) - 1, m := (n4 : Int), ek := (n5 : Int), p := ⟨t6.toArray⟩, t := ⟨t7.toArray⟩, x := t8, kl := kl, cl := cl }, xA := A8, xc := c8, kA := Bk, kc := dk, cA := Bc, cc := dc }, L10, f10, rfl, HR.out, ⟨(hy9.fr fW (fun b _ hb e => by omega)).mono (fun b _ hb => by omega), (hkl10.fr fW (fun b _ hb e => by omega)).mono (fun b _ hb => by omega), (hcl11.fr fW (fun b _ hb e => by omega)).mono (fun b _ hb => by omega), hfit.out⟩, (ht10.trans h11).side fW (by omega) (by omega) hzw, hcap.out⟩
end Go.Proofs.Ytpbgcbpofhbgbaa

/- script.Read: the acts of bytes. -/
namespace Go.Proofs.Ytpbgcbpofhbgbaa
open Go.RowKit

theorem Acts.mono {w : World} {Z Z' : Nat → Prop} {A : Option Addr} {l : List AV} (h : Acts w Z A l) (hz : ∀ b, b < w.heap.size → Z b → Z' b) : Acts w Z' A l := ⟨h.rd.mono hz, fun v hv => (h.ok v hv).mono hz, h.len⟩
/-- so many acts are read -/
inductive RdN : Nat → List UInt8 → Int → List AS → List UInt8 → Int → Prop
  | zero {l : List UInt8} {f : Int} : RdN 0 l f [] l f
  | bad {n : Nat} {l : List UInt8} {f : Int} : f ≠ 0 → RdN n l f [] l f
  | step {n : Nat} {l l1 l2 : List UInt8} {f1 f2 : Int} {a : AS} {s : List AS} : RdA l 0 a l1 f1 → RdN n l1 f1 s l2 f2 → RdN (n + 1) l 0 (a :: s) l2 f2
theorem RdN.one {n : Nat} {l : List UInt8} {f : Int} {s : List AS} {l1 : List UInt8} {f1 : Int} (h : RdN n l f s l1 f1) : ∀ {t : List AS} {l2 : List UInt8} {f2 : Int}, RdN n l f t l2 f2 → s = t ∧ l1 = l2 ∧ f1 = f2 := by
  induction h with
  | zero => intro t l2 f2 k; cases k <;> exact ⟨rfl, rfl, rfl⟩
  | bad hf =>
    intro t l2 f2 k
    cases k with
    | zero => exact ⟨rfl, rfl, rfl⟩
    | bad _ => exact ⟨rfl, rfl, rfl⟩
    | step _ _ => exact absurd rfl hf
  | step ha hs ih =>
    intro t l2 f2 k
    cases k with
    | bad hf => exact absurd rfl hf
    | step hb ht =>
      obtain ⟨rfl, rfl, rfl⟩ := ha.one hb
      obtain ⟨rfl, rfl, rfl⟩ := ih ht
      exact ⟨rfl, rfl, rfl⟩
/-- the acts of bytes, and the error -/
def RdP (l : List UInt8) (s : List AS) (e : Int) : Prop :=
  ∃ (n : Nat) (L L' : List UInt8) (f f' : Int) (t : List AS), intS l 0 65536 = (n, L, f) ∧ RdN n L f t L' f' ∧ e = closeS L' f' ∧ s = if e ≠ 0 then [] else t
theorem RdP.one {l : List UInt8} {s t : List AS} {e g : Int} (h : RdP l s e) (k : RdP l t g) : s = t ∧ e = g := by
  obtain ⟨n, L, L', f, f', t1, h1, h2, rfl, rfl⟩ := h
  obtain ⟨m, K, K', d, d', t2, k1, k2, rfl, rfl⟩ := k
  rw [h1] at k1
  obtain ⟨rfl, rfl, rfl⟩ : _ ∧ _ ∧ _ := by simpa using k1
  obtain ⟨rfl, rfl, rfl⟩ := h2.one k2
  exact ⟨rfl, rfl⟩

set_option maxRecDepth 100000 in
set_option maxHeartbeats 1000000 in
theorem readP_any (x : BV) (w : World) (h : x.ok w (fun b => b < w.heap.size)) (hl : x.l.length ≤ 140737488355328) :
    Calls Try.prog 30 #[x.v] w fun e w' => ∃ (A : Option Addr) (c : Nat) (s : List AV) (g : Int), e = .returned (.tuple #[.slice A s.length c, .int .i64 g]) ∧ RdP x.l (s.map AV.a) g ∧ Acts w' (fun b => w.heap.size ≤ b) A s ∧ Below w.heap.size w w' ∧ (∀ v ∈ s, v.a.x.length ≤ v.xc ∧ v.xc ≤ maxLen) := by
  obtain ⟨xA, xc, l⟩ := x
  obtain ⟨hy, hlc, hcm⟩ := h
  dsimp only at *
  unfold BV.v
  dsimp only
  obtain ⟨n0, L0, f0, e0⟩ : ∃ n L g, intS l 0 65536 = (n, L, g) := ⟨_, _, _, rfl⟩
  have hn0 := intS_lt (m := 65536) e0
  obtain ⟨i0, hi0, hz0, hz1, hz2⟩ := info_parts act_info
  have ha0 := EyeAt.new w (T := 132) hy hlc hcm
  have hb0 : Below w.heap.size w (w.alloc (.cells #[.slice xA l.length xc, .int .i64 0] 132)) := (by repeat (first | exact Below.refl _ _ | refine Below.alloc ?_ (by simp) _ | refine Below.setCell ?_ (by simp) _ | refine Below.drew ?_))
  have hs0 : (w.alloc (.cells #[.slice xA l.length xc, .int .i64 0] 132)).heap.size = w.heap.size + 1 := World.size_alloc _ _
  have hzz : ¬ (fun b => b < w.heap.size) w.heap.size := by simp
  go_enter Try.func30, Try.ntmps30
  go_wp2_with fail
  refine (open_any xA xc l.length w).mono ?_
  rintro e w0 ⟨rfl, rfl⟩
  generalize w.alloc (.cells #[.slice xA l.length xc, .int .i64 0] 132) = W at *
  have H1 := Lib.hid (int_any w.heap.size _ xA xc l 0 65536 W ha0 hzz (by omega))
  rw [e0] at H1
  go_wp2_with fail
  refine H1.out.mono ?_
  rintro e w1 ⟨rfl, h1⟩
  (try dsimp only at h1)
  clear H1
  go_wp2_with fail
  go_loopw [2, 5] (fun ov nv wr => ∃ (s : List AV) (B : Option Addr) (d j : Nat) (L : List UInt8) (g : Int), ov = .slice B s.length d ∧ nv = .int .i64 (j : Int) ∧ ActRow wr (w.heap.size + 1) (fun b => w.heap.size + 1 ≤ b) B d s ∧ EyeTo W 132 w.heap.size (fun b => b < w.heap.size) L g wr ∧ Hid (∀ t L' g', RdN j L g t L' g' → RdN n0 L0 f0 (s.map AV.a ++ t) L' g') ∧ s.length + j ≤ 65536 ∧ L.length ≤ l.length ∧ Hid (∀ v ∈ s, v.a.x.length ≤ v.xc ∧ v.xc ≤ maxLen)) (fun _ nv _ => (intOf nv).toNat)
  case atStart => exact ⟨[], none, 0, n0, L0, f0, rfl, rfl, ActRow.none_ _ _ _, h1, fun t L' g' h => h, by simp; omega, hn0.2, fun v hv => by simp at hv⟩
  case round =>
    obtain ⟨s, B, d, j, L, g, rfl, rfl, hrow, hE, hL, hj, hLl, hcs⟩ := hrel
    obtain ⟨AE, cE, hA⟩ := hE.at_
    have hBl := hrow.row.lt
    have hsz := hE.fr.size
    have hfin : Hid (RdN j L g [] L g → RdP l ((if closeS L g ≠ 0 then [] else s).map AV.a) (closeS L g)) := fun h => ⟨n0, L0, L, f0, g, s.map AV.a, e0, by have := hL.out [] L g h; simpa using this, rfl, by split <;> rfl⟩
    have hbw : Below w.heap.size w wr := hb0.trans (hE.fr.below (by omega) (fun k hk e => by omega))
    have hC := Lib.hid (close_any w.heap.size _ AE cE L g wr hA)
    have hF := Lib.hid (fault_any w.heap.size _ AE cE L g wr hA)
    rcases j with _ | j
    · have hq := hfin.out .zero
      clear hfin hL
      go_wp2_with (first | (go_at_call 63; refine hF.out.mono ?_; rintro e w2 ⟨rfl, rfl⟩))
      refine hC.out.mono ?_
      rintro e w2 ⟨rfl, rfl⟩
      cases hcz : (closeS L g != 0)
      · have hcl : closeS L g = 0 := by simpa using hcz
        rw [if_neg (by simpa using hcl)] at hq
        have HQ := Lib.hid hq
        clear hq
        generalize closeS L g = k at *
        subst hcl
        go_wp2_with fail
        go_ret2
        exact ⟨B, d, s, 0, rfl, HQ.out, (hrow.acts (fun b hb _ => hb) (by omega)).mono (fun b _ hb => by omega), hbw, hcs.out⟩
      · have hcl : closeS L g ≠ 0 := by simpa using hcz
        rw [if_pos hcl] at hq
        have HQ := Lib.hid hq
        clear hq
        generalize closeS L g = k at *
        go_wp2_with fail
        go_ret2
        exact ⟨none, 0, [], k, rfl, HQ.out, ⟨Rd.nil, by simp, by simp⟩, hbw, by simp⟩
    · by_cases hg : g = 0
      · subst hg
        clear hfin hC
        have hk := EyeAt.to hA
        go_wp2_with (first | (go_at_call 63; refine hF.out.mono ?_; rintro e w2 ⟨rfl, rfl⟩))
        refine (read_any w.heap.size _ AE cE L 0 wr hA (fun b hb => hb) (by omega)).mono ?_
        rintro e w3 ⟨v, L2, f2, rfl, hR, hv, h3, hcv⟩
        have hcs2 : Hid (∀ u ∈ s ++ [v], u.a.x.length ≤ u.xc ∧ u.xc ≤ maxLen) := fun u hu => by
          rcases List.mem_append.1 hu with hu | hu
          · exact hcs.out u hu
          · obtain rfl := List.mem_singleton.1 hu
            exact hcv
        clear hcv hcs
        have hE3 := hE.trans h3
        have hLl2 := (hR.fit (by omega)).2
        have hBe : ablk B ≠ some w.heap.size := fun e => by have := (hBl _ e).1; omega
        have row3 := hrow.fr h3.fr (fun g hg e => hBe (by rw [hg, e])) (fun b _ hz _ e => by omega)
        have hs3 := h3.fr.size
        have hv3 : v.ok w3 (fun b => w.heap.size + 1 ≤ b ∧ ablk B ≠ some b) := hv.mono (fun b _ hb => ⟨by omega, fun e => by have := (hBl b e).2; omega⟩)
        have hone := act_one1 v
        have hL2 : Hid (∀ t L' g', RdN j L2 f2 t L' g' → RdN n0 L0 f0 ((s ++ [v]).map AV.a ++ t) L' g') := fun t L' g' h => by
          rw [List.map_append, List.append_assoc]
          exact hL.out _ _ _ (.step hR h)
        clear hF h3 hL hv hR hk
        go_wp2_with (at_builtin; refine wpList_append_row _ rfl (.tmp 20) (.tmp 23) 50 rfl (w.heap.size + 1) 57 i0 _ 11 152 Try.underlying50 hi0 hz0 hz1 hz2 rfl (by omega) rfl (row3.row.alloc _) rfl (Rd.lit (xs := v.cells) (n := 1) rfl rfl rfl) hone (by simp only [maxLen]; omega) (by omega) (by rw [World.size_alloc]; omega) ?_; intro B4 d4 w4 hrow4 hg4 hat4)
        have hp := row3.push hv3 hrow4 hg4 hat4
        have hE4 := hE3.row hp.2 (fun k e => by have := (hBl k e).1; omega) (by omega) (fun b hb => by omega)
        go_roundw
        case rel => exact ⟨s ++ [v], B4, d4, j, L2, f2, by simp, by go_num, hp.1, hE4, hL2, by simp; omega, by omega, hcs2⟩
        case measure => simp [intOf]
      · have hgb : (g == 0) = false := by simpa using hg
        have hq := hfin.out (.bad hg)
        clear hfin hL
        go_wp2_with (first | (go_at_call 63; refine hF.out.mono ?_; rintro e w2 ⟨rfl, rfl⟩))
        refine hC.out.mono ?_
        rintro e w2 ⟨rfl, rfl⟩
        cases hcz : (closeS L g != 0)
        · have hcl : closeS L g = 0 := by simpa using hcz
          rw [if_neg (by simpa using hcl)] at hq
          have HQ := Lib.hid hq
          clear hq
          generalize closeS L g = k at *
          subst hcl
          go_wp2_with fail
          go_ret2
          exact ⟨B, d, s, 0, rfl, HQ.out, (hrow.acts (fun b hb _ => hb) (by omega)).mono (fun b _ hb => by omega), hbw, hcs.out⟩
        · have hcl : closeS L g ≠ 0 := by simpa using hcz
          rw [if_pos hcl] at hq
          have HQ := Lib.hid hq
          clear hq
          generalize closeS L g = k at *
          go_wp2_with fail
          go_ret2
          exact ⟨none, 0, [], k, rfl, HQ.out, ⟨Rd.nil, by simp, by simp⟩, hbw, by simp⟩
end Go.Proofs.Ytpbgcbpofhbgbaa

/- grain.Pen.Text, and pens that are none. -/
namespace Go.Proofs.Ytpbgcbpofhbgbaa
open Go.RowKit

/-- bytes that texts take at most -/
def wide (bs : List BV) : Nat := (bs.map fun x => 9 + x.l.length).sum
theorem wide_take (bs : List BV) (i : Nat) (hi : i < bs.length) : (bs.take i |>.flatMap fun x => textB x.l).length + (9 + bs[i].l.length) ≤ wide bs := by
  have h1 : ∀ cs : List BV, (cs.flatMap fun x => textB x.l).length ≤ wide cs := by
    intro cs
    induction cs with
    | nil => simp [wide]
    | cons x cs ih =>
      have := numB_len x.l.length
      simp only [wide, List.flatMap_cons, List.length_append, List.map_cons, List.sum_cons, textB] at ih ⊢
      omega
  have h2 := h1 (bs.take i)
  have h3 : wide (bs.take i) + (9 + bs[i].l.length) ≤ wide bs := by
    have e : bs = bs.take i ++ bs[i] :: bs.drop (i + 1) := by simp
    have e2 : wide bs = wide (bs.take i ++ bs[i] :: bs.drop (i + 1)) := congrArg wide e
    rw [e2]
    simp only [wide, List.map_append, List.map_cons, List.sum_append, List.sum_cons]
    omega
  omega

theorem wide_len : ∀ bs : List BV, bs.length ≤ wide bs
  | [] => by simp
  | x :: bs => by
    have := wide_len bs
    simp only [wide, List.map_cons, List.sum_cons, List.length_cons] at this ⊢
    omega
theorem hid_text {L L1 n r : List UInt8} (h : L1 ++ n = r) (h' : L = L1 ++ n) : Hid (L = r) := by rw [h', h]; rfl

set_option maxHeartbeats 400000 in
theorem Text_any (base pb : Nat) (v : Value) (l : List UInt8) (A : Option Addr) (c : Nat) (bs : List BV) (Z : Nat → Prop) (w : World) (hp : Pen w base pb v l) (hr : Rd w Z 1 A bs.length (bs.map BV.v)) (hok : ∀ x ∈ bs, x.ok w Z)
    (hZ : ∀ b, b < w.heap.size → Z b → ¬ (b = pb ∨ v.ownBlock = some b)) (hbase : base ≤ w.heap.size) (hlen : l.length + wide bs ≤ 140737488355328) :
    Calls Try.prog 72 #[.pointer (some ⟨pb, 0, none⟩), .slice A bs.length c] w fun e w' => e = .returned (.tuple #[]) ∧ ∃ v', PenTo w base pb v (l ++ bs.flatMap fun x => textB x.l) w' v' := by
  have hbl := wide_len bs
  go_enter Try.func72, Try.ntmps72
  go_wp2_with fail
  go_loopw [10] (fun iv wr => ∃ (i : Nat) (Li : List UInt8) (v' : Value), i ≤ bs.length ∧ iv = .int .i64 (i : Int) ∧ PenTo w base pb v Li wr v' ∧ Hid (Li = l ++ (bs.take i).flatMap fun x => textB x.l)) (fun iv _ => bs.length - (intOf iv).toNat)
  case atStart => exact ⟨0, l, v, Nat.zero_le _, rfl, PenTo.refl hp, by show l = _; simp⟩
  case round =>
    obtain ⟨i, Li, v', hi, rfl, hpi, hLi⟩ := hrel
    have hsz := hpi.fr.size
    by_cases hlt : i < bs.length
    · obtain ⟨b, off, rfl, _, _, hc⟩ := (hr.fr hpi.fr hZ).atm hlt
      have hxok := (hok _ (List.getElem_mem hlt))
      have hw := wide_take bs i hlt
      have hll : Li.length = l.length + ((bs.take i).flatMap fun x => textB x.l).length := by rw [hLi.out, List.length_append]
      have hll2 : Li.length + (9 + bs[i].l.length) ≤ 140737488355328 := by omega
      have hLn := flat_take hlt hLi.out
      have HLn := Lib.hid hLn
      clear hLn hll hw
      generalize bs[i] = x at hc HLn hxok hll2
      obtain ⟨xA, xc, xl⟩ := x
      dsimp only at HLn hxok hll2
      replace hc : wr.cell? ⟨b, off + i, none⟩ = some (.slice xA xl.length xc) := hc
      go_wp2_with fail
      refine (num_any base pb v' Li xl.length _ hpi.pen (by omega) (by omega) (by omega)).mono ?_
      rintro e w1 ⟨rfl, v1, h1⟩
      have hL1 : (Li ++ numB xl.length).length ≤ Li.length + 9 := by have := numB_len xl.length; rw [List.length_append]; omega
      replace HLn : Hid ((Li ++ numB xl.length) ++ xl = l ++ (bs.take (i + 1)).flatMap fun x => textB x.l) := by
        show _ = _
        rw [List.append_assoc]
        exact HLn.out
      generalize Li ++ numB xl.length = L1 at h1 hL1 HLn
      have hp1 := hpi.trans h1
      obtain ⟨A1, c1, rfl, hlc1, hcm1, hA1⟩ := h1.pen.own.form
      have hc1 := h1.pen.cell
      have hx1 : By w1 Z xA xl := (hxok.fr hp1.fr hZ).by_
      go_wp2_with (at_builtin; refine wpList_append_by rfl (.tmp 23) (.tmp 24) rfl (v := .slice A1 L1.length c1) rfl h1.pen.own rfl hx1 (by omega) (by have := hp1.fr.size; omega) ?_; intro L2 A2 c2 w2 hL2 hown hg hat; have hst := PenTo.stored h1.pen (Below.refl _ _) hown hg hat; have hb2 := h1.pen.blk.grown hg h1.pen.ne; have hc2 : w2.cell? ⟨pb, 0, none⟩ = some (.slice A1 L1.length c1) := hb2.cell 0; have hf2 : w2.frozen? ⟨pb, 0, none⟩ = false := hb2.frozen 0)
      go_roundw
      case rel => exact ⟨i + 1, L2, _, hlt, by go_num, hp1.trans hst, hid_text HLn.out hL2.out⟩
      case measure => simp [intOf]; omega
    · have e : i = bs.length := by omega
      go_wp2_with fail
      go_end0
      subst e
      refine ⟨rfl, v', ?_⟩
      have hL : Li = l ++ bs.flatMap fun x => textB x.l := by rw [hLi.out, List.take_length]
      rw [← hL]
      exact hpi

set_option maxHeartbeats 400000 in
theorem Text_nil (A : Option Addr) (n c : Nat) (w : World) : Calls Try.prog 72 #[.pointer none, .slice A n c] w fun e w' => e = .returned (.tuple #[]) ∧ w = w' := by
  go_enter Try.func72, Try.ntmps72
  go_wp2_with fail
  refine bodyPost_ret (results_none rfl _ _ _) rfl ?_
  exact ⟨rfl, rfl⟩

end Go.Proofs.Ytpbgcbpofhbgbaa

/- A new pen, what stays beside it; flat lists of cells. -/
namespace Go.Proofs.Ytpbgcbpofhbgbaa
open Go.RowKit

theorem PenTo.low {a b : World} {base pb B : Nat} {v v' : Value} {l l' : List UInt8} (h : PenTo a base pb v l' b v') (ho : OwB a base v l) (hp : B ≤ pb) (hB : B ≤ base) (hs : B ≤ a.heap.size) : Below B a b :=
  h.fr.below hs (fun k hk => by
    rintro (rfl | e)
    · omega
    · have := (ho.lt _ e).1; omega)
theorem Pen.low {a b : World} {base pb B : Nat} {v v' : Value} {l l' : List UInt8} (h : Pen a base pb v l) (k : PenTo a base pb v l' b v') (hp : B ≤ pb) (hB : B ≤ base) (hs : B ≤ a.heap.size) : Below B a b := k.low h.own hp hB hs
/-- var p grain.Pen -/
theorem Pen.new (w : World) {base : Nat} : Pen (w.alloc (.cells #[.slice none 0 0] 113)) base w.heap.size (.slice none 0 0) [] := ⟨Blk.new _ _ _, OwB.nil _ _⟩

theorem box_keep {B pb : Nat} {a c : World} {vp vp' : Value} {Lp' : List UInt8} (k : PenTo a B pb vp Lp' c vp') {g : Nat} {t : TypeId} {cs : Array Value} (hb : Blk a g t cs) (h1 : g ≠ pb) (h2 : vp.ownBlock ≠ some g) : Blk c g t cs :=
  hb.fr k.fr (by rintro (e | e); exact h1 e; exact h2 e)

/-- new memory behind a pen's method -/
theorem PenTo.mem {a b c : World} {base pb : Nat} {v v' : Value} {l' : List UInt8} (h : PenTo a base pb v l' b v') (k : Below b.heap.size b c) : PenTo a base pb v l' c v' :=
  ⟨h.pen.below k, h.fr.then_below k, h.at_⟩
/-- a store into a new block beside a pen -/
theorem PenTo.side {a b c : World} {base pb bx : Nat} {v v' : Value} {l' : List UInt8} (h : PenTo a base pb v l' b v') (k : Fr (fun x => x = bx) b c) (hb : a.heap.size ≤ bx) (h1 : bx ≠ pb) (h2 : v'.ownBlock ≠ some bx) : PenTo a base pb v l' c v' :=
  ⟨⟨h.pen.blk.fr k (fun e => h1 e.symm), h.pen.own.fr k (fun g hg e => h2 (by rw [hg, e]))⟩, h.fr.trans k (fun x hx e => by omega), h.at_⟩
end Go.Proofs.Ytpbgcbpofhbgbaa

/- []byte(s). -/
namespace Go.Proofs.Ytpbgcbpofhbgbaa
open Go.RowKit

theorem conv_str (w : World) (l : List UInt8) (hl : l.length ≤ maxLen) : ∃ c W, (convert 9 23 (.string ⟨⟨l⟩⟩)).run Try.prog w = .ok (.slice (some ⟨w.heap.size, 0, none⟩) l.length c) W ∧ By W (fun b => b = w.heap.size) (some ⟨w.heap.size, 0, none⟩) l ∧ l.length ≤ c ∧ c ≤ maxLen ∧ Below w.heap.size w W ∧ W.heap.size = w.heap.size + 1 := by
  refine ⟨_, _, Lib.run_convert_string_bytes w _ _ 5 ⟨⟨l⟩⟩ Try.underlying9 Try.underlying23 Try.underlying5, ?_, grownCap_ge _ _ _ _, grownCap_le_maxLen _ _ _ _ hl, ?_, Lib.bytesWorld_size _ _ _⟩
  · refine ⟨by simp, fun h => ⟨w.heap.size, 0, rfl, rfl, by rw [Lib.bytesWorld_size]; omega, fun j u hj => ?_⟩⟩
    have hjl : j < l.length := by
      by_cases h2 : j < l.length
      · exact h2
      · rw [List.getElem?_eq_none (by simpa using h2)] at hj; cases hj
    rw [Nat.zero_add, Lib.bytesWorld_cell w 5 ⟨⟨l⟩⟩ j hjl]
    simp [hjl, List.getD] at hj ⊢
    exact hj
  · exact ⟨rfl, rfl, rfl, by rw [Lib.bytesWorld_size]; omega, fun k hk => Lib.bytesWorld_at_old _ _ _ _ hk⟩
end Go.Proofs.Ytpbgcbpofhbgbaa

/- script.Check: whether an act is right. -/
namespace Go.Proofs.Ytpbgcbpofhbgbaa
open Go.RowKit

def inB (n lo hi : Int) : Bool := decide (lo ≤ n) && decide (n ≤ hi)
theorem inB_iff (n lo hi : Int) : inB n lo hi = true ↔ lo ≤ n ∧ n ≤ hi := by simp [inB]
theorem within_any (n lo hi : Int) (w : World) : Calls Try.prog 54 #[.int .i64 n, .int .i64 lo, .int .i64 hi] w fun e w' => e = .returned (.bool (inB n lo hi)) ∧ w = w' := by
  obtain ⟨M, hM⟩ : ∃ M, M = inB n lo hi := ⟨_, rfl⟩
  rw [← hM]
  have HM := Lib.hid hM
  clear hM
  cases h1 : decide (lo ≤ n)
  · have h2 : decide (n ≥ lo) = false := h1
    obtain rfl : M = false := by rw [HM.out]; unfold inB; rw [h1]; rfl
    go_enter Try.func54, Try.ntmps54
    go_wp2_with fail
    go_ret
    exact ⟨rfl, rfl⟩
  · have h2 : decide (n ≥ lo) = true := h1
    have HM2 : Hid (M = decide (n ≤ hi)) := by show _ = _; rw [HM.out]; unfold inB; rw [h1]; rfl
    go_enter Try.func54, Try.ntmps54
    go_wp2_with fail
    go_ret
    exact ⟨ret_b HM2.out.symm, rfl⟩
/-- what crashes keep; a choice; an edit -/
def goodK (x : KV) : Bool := inB x.f 0 1048576 && inB x.b 0 1048576
def goodC (x : HW) : Bool := decide (x.p.size ≤ 96) && inB x.w 0 2
def editB (a : AS) : Bool := inB a.ek 0 5 && (decide (a.p.size ≤ 96) && (decide (a.t.size ≤ 96) && decide (a.x.length ≤ 4096)))
def rightA (a : AS) : Bool := inB a.k 1 12 && (inB a.s 0 2 && (inB a.n (-1) 1048576 && (inB a.b (-1) 1048576 && (decide (a.kl.length ≤ 8) && (decide (a.cl.length ≤ 8) && (editB a && (a.kl.all goodK && a.cl.all goodC)))))))

set_option maxRecDepth 100000 in
theorem badK_any (x : KV) (w : World) : Calls Try.prog 53 #[.agg #[.int .i64 x.f, .int .i64 x.b]] w fun e w' => e = .returned (.bool (!goodK x)) ∧ Below w.heap.size w w' := by
  have H1 := Lib.hid (fun w => within_any x.f 0 1048576 w)
  have H2 := Lib.hid (fun w => within_any x.b 0 1048576 w)
  have hg : goodK x = (inB x.f 0 1048576 && inB x.b 0 1048576) := rfl
  rw [hg]
  clear hg
  generalize inB x.f 0 1048576 = A at *
  generalize inB x.b 0 1048576 = B at *
  cases A
  all_goals
    go_enter Try.func53, Try.ntmps53
    go_wp2_with (first | (go_at_call 54; first | (with_reducible refine (H1.out _).mono ?_; rintro e w2 ⟨rfl, rfl⟩) | (with_reducible refine (H2.out _).mono ?_; rintro e w2 ⟨rfl, rfl⟩)))
    go_ret
    exact ⟨by simp, (by repeat (first | exact Below.refl _ _ | refine Below.alloc ?_ (by simp) _ | refine Below.setCell ?_ (by simp) _ | refine Below.drew ?_))⟩
set_option maxRecDepth 100000 in
theorem badC_any (x : HW) (w : World) : Calls Try.prog 55 #[.agg #[.string x.p, .int .i64 x.w]] w fun e w' => e = .returned (.bool (!goodC x)) ∧ Below w.heap.size w w' := by
  have H2 := Lib.hid (fun w => within_any x.w 0 2 w)
  have hg : goodC x = (decide (x.p.size ≤ 96) && inB x.w 0 2) := rfl
  rw [hg]
  clear hg
  generalize inB x.w 0 2 = B at *
  cases hA : decide (x.p.size ≤ 96)
  · have h1 : decide ((x.p.size : Int) > 96) = true := by simp at hA ⊢; omega
    go_enter Try.func55, Try.ntmps55
    go_wp2_with fail
    go_ret
    exact ⟨by simp, (by repeat (first | exact Below.refl _ _ | refine Below.alloc ?_ (by simp) _ | refine Below.setCell ?_ (by simp) _ | refine Below.drew ?_))⟩
  · have h1 : decide ((x.p.size : Int) > 96) = false := by simp at hA ⊢; omega
    go_enter Try.func55, Try.ntmps55
    go_wp2_with (first | (go_at_call 54; refine (H2.out _).mono ?_; rintro e w2 ⟨rfl, rfl⟩))
    go_ret
    exact ⟨by simp, (by repeat (first | exact Below.refl _ _ | refine Below.alloc ?_ (by simp) _ | refine Below.setCell ?_ (by simp) _ | refine Below.drew ?_))⟩
set_option maxRecDepth 100000 in
theorem edit_any (a : AS) (A : Option Addr) (c : Nat) (w : World) : Calls Try.prog 56 #[.agg #[.int .i64 a.ek, .string a.p, .string a.t, .slice A a.x.length c]] w fun e w' => e = .returned (.bool (editB a)) ∧ Below w.heap.size w w' := by
  have H1 := Lib.hid (fun w => within_any a.ek 0 5 w)
  obtain ⟨M, hM⟩ : ∃ M, M = editB a := ⟨_, rfl⟩
  rw [← hM]
  have HM := Lib.hid hM
  clear hM
  unfold editB at HM
  generalize inB a.ek 0 5 = K at *
  cases K
  · obtain rfl : M = false := HM.out.trans rfl
    go_enter Try.func56, Try.ntmps56
    go_wp2_with (first | (go_at_call 54; refine (H1.out _).mono ?_; rintro e w2 ⟨rfl, rfl⟩))
    go_ret
    exact ⟨rfl, (by repeat (first | exact Below.refl _ _ | refine Below.alloc ?_ (by simp) _ | refine Below.setCell ?_ (by simp) _ | refine Below.drew ?_))⟩
  · skip
    cases cp : decide (a.p.size ≤ 96)
    · have q : decide ((a.p.size : Int) ≤ 96) = false := by simp at cp ⊢; omega
      obtain rfl : M = false := by rw [HM.out, cp]; rfl
      go_enter Try.func56, Try.ntmps56
      go_wp2_with (first | (go_at_call 54; refine (H1.out _).mono ?_; rintro e w2 ⟨rfl, rfl⟩))
      go_ret
      exact ⟨rfl, (by repeat (first | exact Below.refl _ _ | refine Below.alloc ?_ (by simp) _ | refine Below.setCell ?_ (by simp) _ | refine Below.drew ?_))⟩
    · have qp : decide ((a.p.size : Int) ≤ 96) = true := by simp at cp ⊢; omega
      cases ct : decide (a.t.size ≤ 96)
      · have q : decide ((a.t.size : Int) ≤ 96) = false := by simp at ct ⊢; omega
        obtain rfl : M = false := by rw [HM.out, cp, ct]; rfl
        go_enter Try.func56, Try.ntmps56
        go_wp2_with (first | (go_at_call 54; refine (H1.out _).mono ?_; rintro e w2 ⟨rfl, rfl⟩))
        go_ret
        exact ⟨rfl, (by repeat (first | exact Below.refl _ _ | refine Below.alloc ?_ (by simp) _ | refine Below.setCell ?_ (by simp) _ | refine Below.drew ?_))⟩
      · have qt : decide ((a.t.size : Int) ≤ 96) = true := by simp at ct ⊢; omega
        cases cx : decide (a.x.length ≤ 4096)
        · have q : decide ((a.x.length : Int) ≤ 4096) = false := by simp at cx ⊢; omega
          obtain rfl : M = false := by rw [HM.out, cp, ct, cx]; rfl
          go_enter Try.func56, Try.ntmps56
          go_wp2_with (first | (go_at_call 54; refine (H1.out _).mono ?_; rintro e w2 ⟨rfl, rfl⟩))
          go_ret
          exact ⟨rfl, (by repeat (first | exact Below.refl _ _ | refine Below.alloc ?_ (by simp) _ | refine Below.setCell ?_ (by simp) _ | refine Below.drew ?_))⟩
        · have qx : decide ((a.x.length : Int) ≤ 4096) = true := by simp at cx ⊢; omega
          obtain rfl : M = true := by rw [HM.out, cp, ct, cx]; rfl
          go_enter Try.func56, Try.ntmps56
          go_wp2_with (first | (go_at_call 54; refine (H1.out _).mono ?_; rintro e w2 ⟨rfl, rfl⟩))
          go_ret
          exact ⟨rfl, (by repeat (first | exact Below.refl _ _ | refine Below.alloc ?_ (by simp) _ | refine Below.setCell ?_ (by simp) _ | refine Below.drew ?_))⟩

set_option maxRecDepth 100000 in
set_option maxHeartbeats 400000 in
theorem indexKV_any (A : Option Addr) (c : Nat) (l : List KV) (Z : Nat → Prop) (w : World) (h : Rd w Z 2 A l.length (l.flatMap KV.cells)) (hn : l.length ≤ 140737488355328) :
    Calls Try.prog 85 #[.slice A l.length c, .func (.func 53) #[] #[]] w fun e w' => ∃ i : Int, e = .returned (.int .i64 i) ∧ decide (i ≥ 0) = !l.all goodK ∧ Below w.heap.size w w' := by
  obtain ⟨M, hM⟩ : ∃ M, M = l.all goodK := ⟨_, rfl⟩
  rw [← hM]
  have HM := Lib.hid hM
  clear hM
  go_enter Try.func85, Try.ntmps85
  go_wp2_with fail
  go_loopw [8] (fun iv wr => ∃ i : Nat, i ≤ l.length ∧ iv = .int .i64 (i : Int) ∧ Hid ((l.take i).all goodK = true) ∧ Below w.heap.size w wr) (fun iv _ => l.length - (intOf iv).toNat)
  case atStart => exact ⟨0, Nat.zero_le _, rfl, rfl, Below.refl _ _⟩
  case round =>
    obtain ⟨i, hi, rfl, hs, hb⟩ := hrel
    by_cases hlt : i < l.length
    · obtain ⟨b, off, rfl, _, _, p0, p1⟩ := kv_at (h.below hb) hlt
      have HT : Hid ((l.take (i + 1)).all goodK = goodK l[i]) := by
        show _ = _
        rw [List.take_succ_eq_append_getElem hlt, List.all_append, hs.out]
        simp
      have HF : Hid (goodK l[i] = false → M = false) := fun e => by
        rw [HM.out]
        exact List.all_eq_false.2 ⟨l[i], List.getElem_mem hlt, by rw [e]; simp⟩
      generalize l[i] = x at *
      have HB := Lib.hid (fun W => badK_any x W)
      cases hx : goodK x
      · obtain rfl := HF.out hx
        rw [hx] at HB
        clear HT HF HM hs
        go_wp2_with fail
        refine (HB.out _).mono ?_
        rintro e w2 ⟨rfl, hb2⟩
        go_wp2_with fail
        go_ret
        exact ⟨(i : Int), rfl, by simp, hb.trans (hb2.mono hb.size)⟩
      · rw [hx] at HB HT
        clear HF hs
        go_wp2_with fail
        refine (HB.out _).mono ?_
        rintro e w2 ⟨rfl, hb2⟩
        go_wp2_with fail
        go_roundw
        case rel => exact ⟨i + 1, hlt, by go_num, HT, hb.trans (hb2.mono hb.size)⟩
        case measure => simp [intOf]; omega
    · have e : i = l.length := by omega
      subst e
      obtain rfl : M = true := by rw [HM.out]; have := hs.out; rwa [List.take_length] at this
      go_wp2_with fail
      go_ret
      exact ⟨-1, rfl, by simp, hb⟩
set_option maxRecDepth 100000 in
theorem containsKV_any (A : Option Addr) (c : Nat) (l : List KV) (Z : Nat → Prop) (w : World) (h : Rd w Z 2 A l.length (l.flatMap KV.cells)) (hn : l.length ≤ 140737488355328) :
    Calls Try.prog 57 #[.slice A l.length c, .func (.func 53) #[] #[]] w fun e w' => e = .returned (.bool (!l.all goodK)) ∧ Below w.heap.size w w' := by
  go_enter Try.func57, Try.ntmps57
  go_wp2_with fail
  refine (indexKV_any A c l Z w h hn).mono ?_
  rintro e w2 ⟨i, rfl, hi, hb⟩
  have HI := Lib.hid hi
  clear hi
  go_wp2_with fail
  go_ret
  exact ⟨ret_b HI.out, hb⟩

set_option maxRecDepth 100000 in
set_option maxHeartbeats 400000 in
theorem indexHW_any (A : Option Addr) (c : Nat) (l : List HW) (Z : Nat → Prop) (w : World) (h : Rd w Z 2 A l.length (l.flatMap HW.cells)) (hn : l.length ≤ 140737488355328) :
    Calls Try.prog 86 #[.slice A l.length c, .func (.func 55) #[] #[]] w fun e w' => ∃ i : Int, e = .returned (.int .i64 i) ∧ decide (i ≥ 0) = !l.all goodC ∧ Below w.heap.size w w' := by
  obtain ⟨M, hM⟩ : ∃ M, M = l.all goodC := ⟨_, rfl⟩
  rw [← hM]
  have HM := Lib.hid hM
  clear hM
  go_enter Try.func86, Try.ntmps86
  go_wp2_with fail
  go_loopw [8] (fun iv wr => ∃ i : Nat, i ≤ l.length ∧ iv = .int .i64 (i : Int) ∧ Hid ((l.take i).all goodC = true) ∧ Below w.heap.size w wr) (fun iv _ => l.length - (intOf iv).toNat)
  case atStart => exact ⟨0, Nat.zero_le _, rfl, rfl, Below.refl _ _⟩
  case round =>
    obtain ⟨i, hi, rfl, hs, hb⟩ := hrel
    by_cases hlt : i < l.length
    · obtain ⟨b, off, rfl, _, _, p0, p1⟩ := hw_at (h.below hb) hlt
      have HT : Hid ((l.take (i + 1)).all goodC = goodC l[i]) := by
        show _ = _
        rw [List.take_succ_eq_append_getElem hlt, List.all_append, hs.out]
        simp
      have HF : Hid (goodC l[i] = false → M = false) := fun e => by
        rw [HM.out]
        exact List.all_eq_false.2 ⟨l[i], List.getElem_mem hlt, by rw [e]; simp⟩
      generalize l[i] = x at *
      have HB := Lib.hid (fun W => badC_any x W)
      cases hx : goodC x
      · obtain rfl := HF.out hx
        rw [hx] at HB
        clear HT HF HM hs
        go_wp2_with fail
        refine (HB.out _).mono ?_
        rintro e w2 ⟨rfl, hb2⟩
        go_wp2_with fail
        go_ret
        exact ⟨(i : Int), rfl, by simp, hb.trans (hb2.mono hb.size)⟩
      · rw [hx] at HB HT
        clear HF hs
        go_wp2_with fail
        refine (HB.out _).mono ?_
        rintro e w2 ⟨rfl, hb2⟩
        go_wp2_with fail
        go_roundw
        case rel => exact ⟨i + 1, hlt, by go_num, HT, hb.trans (hb2.mono hb.size)⟩
        case measure => simp [intOf]; omega
    · have e : i = l.length := by omega
      subst e
      obtain rfl : M = true := by rw [HM.out]; have := hs.out; rwa [List.take_length] at this
      go_wp2_with fail
      go_ret
      exact ⟨-1, rfl, by simp, hb⟩
set_option maxRecDepth 100000 in
theorem containsHW_any (A : Option Addr) (c : Nat) (l : List HW) (Z : Nat → Prop) (w : World) (h : Rd w Z 2 A l.length (l.flatMap HW.cells)) (hn : l.length ≤ 140737488355328) :
    Calls Try.prog 58 #[.slice A l.length c, .func (.func 55) #[] #[]] w fun e w' => e = .returned (.bool (!l.all goodC)) ∧ Below w.heap.size w w' := by
  go_enter Try.func58, Try.ntmps58
  go_wp2_with fail
  refine (indexHW_any A c l Z w h hn).mono ?_
  rintro e w2 ⟨i, rfl, hi, hb⟩
  have HI := Lib.hid hi
  clear hi
  go_wp2_with fail
  go_ret
  exact ⟨ret_b HI.out, hb⟩
end Go.Proofs.Ytpbgcbpofhbgbaa
