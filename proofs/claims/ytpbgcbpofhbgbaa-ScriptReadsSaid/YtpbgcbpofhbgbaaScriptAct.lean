/- api.Act in memory; script.Any's 'next'. -/
import Derived.Test.YtpbgcbpofhbgbaaScriptPath
namespace Go.Proofs.Ytpbgcbpofhbgbaa
open Go.RowKit

/-- api.Keep, api.Choice -/
structure KV where
  f : Int
  b : Int
structure HW where
  p : ByteArray
  w : Int
def KV.cells (x : KV) : List Value := [.int .i64 x.f, .int .i64 x.b]
def HW.cells (x : HW) : List Value := [.string x.p, .int .i64 x.w]
theorem kv_len (x : KV) : x.cells.length = 2 := rfl
theorem hw_len (x : HW) : x.cells.length = 2 := rfl
/-- an act, plainly -/
structure AS where
  k : Int := 0
  s : Int := 0
  n : Int := 0
  b : Int := 0
  m : Int := 0
  ek : Int := 0
  p : ByteArray := ⟨#[]⟩
  t : ByteArray := ⟨#[]⟩
  x : List UInt8 := []
  kl : List KV := []
  cl : List HW := []
/-- an act as it stands in memory -/
structure AV where
  a : AS
  xA : Option Addr := none
  xc : Nat := 0
  kA : Option Addr := none
  kc : Nat := 0
  cA : Option Addr := none
  cc : Nat := 0
def AV.cells (v : AV) : List Value := [.int .i64 v.a.k, .int .i64 v.a.s, .int .i64 v.a.n, .int .i64 v.a.b, .int .u32 v.a.m, .int .i64 v.a.ek, .string v.a.p, .string v.a.t, .slice v.xA v.a.x.length v.xc, .slice v.kA v.a.kl.length v.kc, .slice v.cA v.a.cl.length v.cc]
abbrev AV.val (v : AV) : Value := .agg #[.int .i64 v.a.k, .int .i64 v.a.s, .int .i64 v.a.n, .int .i64 v.a.b, .int .u32 v.a.m, .int .i64 v.a.ek, .string v.a.p, .string v.a.t, .slice v.xA v.a.x.length v.xc, .slice v.kA v.a.kl.length v.kc, .slice v.cA v.a.cl.length v.cc]
theorem av_len (x : AV) : x.cells.length = 11 := rfl
/-- in its type's bounds -/
structure AS.fit (a : AS) : Prop where
  k : -9223372036854775808 ≤ a.k ∧ a.k < 9223372036854775808
  s : -9223372036854775808 ≤ a.s ∧ a.s < 9223372036854775808
  n : -9223372036854775808 ≤ a.n ∧ a.n < 9223372036854775808
  b : -9223372036854775808 ≤ a.b ∧ a.b < 9223372036854775808
  m : 0 ≤ a.m ∧ a.m < 4294967296
  ek : -9223372036854775808 ≤ a.ek ∧ a.ek < 9223372036854775808
  p : a.p.size ≤ 140737488355328
  t : a.t.size ≤ 140737488355328
  x : a.x.length ≤ 140737488355328
  kl : a.kl.length ≤ 140737488355328
  cl : a.cl.length ≤ 140737488355328
  kf : ∀ o ∈ a.kl, -9223372036854775808 ≤ o.f ∧ o.f < 9223372036854775808 ∧ -9223372036854775808 ≤ o.b ∧ o.b < 9223372036854775808
  cf : ∀ o ∈ a.cl, o.p.size ≤ 140737488355328 ∧ -9223372036854775808 ≤ o.w ∧ o.w < 9223372036854775808
structure AV.ok (w : World) (Z : Nat → Prop) (v : AV) : Prop where
  x : By w Z v.xA v.a.x
  k : Rd w Z 2 v.kA v.a.kl.length (v.a.kl.flatMap KV.cells)
  c : Rd w Z 2 v.cA v.a.cl.length (v.a.cl.flatMap HW.cells)
  fit : v.a.fit
theorem AV.ok.fr {w w' : World} {Z S : Nat → Prop} {v : AV} (h : v.ok w Z) (k : Fr S w w') (hs : ∀ b, b < w.heap.size → Z b → ¬ S b) : v.ok w' Z := ⟨h.x.fr k hs, h.k.fr k hs, h.c.fr k hs, h.fit⟩
theorem AV.ok.below {w w' : World} {Z : Nat → Prop} {v : AV} (h : v.ok w Z) (k : Below w.heap.size w w') : v.ok w' Z := ⟨h.x.below k, h.k.below k, h.c.below k, h.fit⟩
theorem AV.ok.mono {w : World} {Z Z' : Nat → Prop} {v : AV} (h : v.ok w Z) (hz : ∀ b, b < w.heap.size → Z b → Z' b) : v.ok w Z' := ⟨h.x.mono hz, h.k.mono hz, h.c.mono hz, h.fit⟩

/-- what is left to be asked for -/
def NxAt (w : World) (g : Nat) (Z : Nat → Prop) (l : List UInt8) : Prop := ∃ A c, Blk w g 23 #[.slice A l.length c] ∧ By w Z A l ∧ l.length ≤ c ∧ c ≤ maxLen
structure NxTo (w : World) (g : Nat) (Z : Nat → Prop) (l : List UInt8) (w' : World) : Prop where
  at_ : NxAt w' g Z l
  fr : Fr (fun k => k = g) w w'
theorem NxAt.fr {w w' : World} {g : Nat} {Z S : Nat → Prop} {l : List UInt8} (h : NxAt w g Z l) (k : Fr S w w') (hg : ¬ S g) (hs : ∀ b, b < w.heap.size → Z b → ¬ S b) : NxAt w' g Z l := by
  obtain ⟨A, c, h1, h2, h3⟩ := h
  exact ⟨A, c, h1.fr k hg, h2.fr k hs, h3⟩
theorem NxAt.below {w w' : World} {g : Nat} {Z : Nat → Prop} {l : List UInt8} (h : NxAt w g Z l) (k : Below w.heap.size w w') : NxAt w' g Z l := h.fr (Fr.of_below k (fun _ => False)) (fun h => h) (fun _ _ _ h => h)
theorem NxAt.lt {w : World} {g : Nat} {Z : Nat → Prop} {l : List UInt8} (h : NxAt w g Z l) : g < w.heap.size := by
  obtain ⟨A, c, h1, _⟩ := h
  exact h1.lt
theorem NxTo.trans {a b c : World} {g : Nat} {Z : Nat → Prop} {l l' : List UInt8} (h : NxTo a g Z l b) (k : NxTo b g Z l' c) : NxTo a g Z l' c := ⟨k.at_, h.fr.trans k.fr (fun _ _ h => h)⟩
theorem NxTo.then_ {a b c : World} {g : Nat} {Z : Nat → Prop} {l : List UInt8} (h : NxTo a g Z l b) (k : Below b.heap.size b c) : NxTo a g Z l c := ⟨h.at_.below k, h.fr.then_below k⟩
theorem NxTo.after {a b c : World} {g : Nat} {Z : Nat → Prop} {l : List UInt8} (k : Below a.heap.size a b) (h : NxTo b g Z l c) : NxTo a g Z l c := ⟨h.at_, (Fr.of_below k _).trans h.fr (fun _ _ h => h)⟩

def nx (l : List UInt8) : Nat × List UInt8 := match l with | [] => (0, []) | b :: r => (b.toNat, r)
theorem nx_lt (l : List UInt8) : (nx l).1 < 256 := by
  rcases l with _ | ⟨b, r⟩
  · decide
  · exact b.toNat_lt
theorem nx_len (l : List UInt8) : (nx l).2.length ≤ l.length := by
  rcases l with _ | ⟨b, r⟩
  · exact Nat.le_refl _
  · simp [nx]

set_option maxRecDepth 100000 in
set_option maxHeartbeats 400000 in
theorem next_any (g : Nat) (Z : Nat → Prop) (l : List UInt8) (w : World) (h : NxAt w g Z l) (hz : ¬ Z g) :
    Calls Try.prog 51 #[.pointer (some ⟨g, 0, none⟩)] w fun e w' => e = .returned (.int .i64 ((nx l).1 : Int)) ∧ NxTo w g Z (nx l).2 w' := by
  obtain ⟨A, c, hb, hy, hc, hm⟩ := h
  have c0 := hb.cell 0
  have f0 := hb.frozen 0
  have hmx : maxLen = 9223372036854775807 := rfl
  rw [hmx] at hm
  rcases l with _ | ⟨x, r⟩
  · simp at c0
    go_enter Try.func51, Try.ntmps51
    go_wp2_with fail
    go_ret
    exact ⟨rfl, ⟨A, c, hb, hy, hc, by rw [hmx]; exact hm⟩, Fr.refl _ _⟩
  · obtain ⟨b, off, rfl, hzb, hbl, hx0⟩ := hy.atj (j := 0) (u := bv x) rfl
    rw [Nat.add_zero] at hx0
    have hx1 : w.cell? ⟨b, off, none⟩ = some (.int .u8 (x.toNat : Int)) := hx0
    clear hx0
    have hxl := x.toNat_lt
    have hD := Rd.drop hy (k := 1) (by simp) hc
    have hne : b ≠ g := fun e => hz (e ▸ hzb)
    have fS : ∀ u, Fr (fun k => k = g) w (w.setCell ⟨g, 0, none⟩ u) := fun u => (Fr.refl (fun k => k = g) w).setAt g 0 rfl u
    have bS : ∀ u, Blk (w.setCell ⟨g, 0, none⟩ u) g 23 #[u] := fun u => hb.set_ 0 u
    simp only [List.length_cons] at c0 hD hc ⊢
    simp at c0
    have HD := Lib.hid hD
    have FS := Lib.hid fS
    have BS := Lib.hid bS
    have HY := Lib.hid hy
    clear hD fS bS hmx hy hb
    by_cases hcc : c = 1
    · subst hcc
      obtain rfl : r = [] := List.eq_nil_of_length_eq_zero (by omega)
      go_enter Try.func51, Try.ntmps51
      go_wp2_with fail
      go_ret
      exact ⟨rfl, ⟨some ⟨b, off, none⟩, 0, BS.out _, Rd.nil, Nat.le_refl _, by simp [maxLen]⟩, FS.out _⟩
    · have hcp : ¬ c - 1 = 0 := by omega
      go_enter Try.func51, Try.ntmps51
      go_wp2_with fail
      go_ret
      have hD := HD.out
      rw [if_neg hcc, Option.map_some, add_none] at hD
      exact ⟨rfl, ⟨some ⟨b, off + 1, none⟩, c - 1, BS.out _, hD.fr (FS.out _) (fun b' _ hb' e => hz (e ▸ hb')), by show r.length ≤ c - 1; omega, by simp only [maxLen]; omega⟩, FS.out _⟩
end Go.Proofs.Ytpbgcbpofhbgbaa
