/- api.Act in memory; script.Any's 'next'. -/
import Derived.Test.YtpbgcbpofhbgbaaA01
import Derived.Laws.StructEq
import Derived.Deep.Quiet
import Derived.StillTail
import Derived.BigQuiet
import Derived.StillTailTactics
import Derived.Lib.BitFns
import Derived.Deep.RegionLaw
import Derived.Outline
import Derived.IntWalk

namespace Go.Proofs.Ytpbgcbpofhbgbaa
open Go.RowKit

/-- api.Keep, api.Choice -/
structure KV where
  f : Int
  b : Int
structure HW where
  p : ByteArray
  w : Int
def KV.cells (x : KV) : List Value := [.int .i64 x.f, .int .i64 x.b]
def HW.cells (x : HW) : List Value := [.string x.p, .int .i64 x.w]
theorem kv_len (x : KV) : x.cells.length = 2 := rfl
theorem hw_len (x : HW) : x.cells.length = 2 := rfl
/-- an act, plainly -/
structure AS where
  k : Int := 0
  s : Int := 0
  n : Int := 0
  b : Int := 0
  m : Int := 0
  ek : Int := 0
  p : ByteArray := ⟨#[]⟩
  t : ByteArray := ⟨#[]⟩
  x : List UInt8 := []
  kl : List KV := []
  cl : List HW := []
/-- an act as it stands in memory -/
structure AV where
  a : AS
  xA : Option Addr := none
  xc : Nat := 0
  kA : Option Addr := none
  kc : Nat := 0
  cA : Option Addr := none
  cc : Nat := 0
def AV.cells (v : AV) : List Value := [.int .i64 v.a.k, .int .i64 v.a.s, .int .i64 v.a.n, .int .i64 v.a.b, .int .u32 v.a.m, .int .i64 v.a.ek, .string v.a.p, .string v.a.t, .slice v.xA v.a.x.length v.xc, .slice v.kA v.a.kl.length v.kc, .slice v.cA v.a.cl.length v.cc]
abbrev AV.val (v : AV) : Value := .agg #[.int .i64 v.a.k, .int .i64 v.a.s, .int .i64 v.a.n, .int .i64 v.a.b, .int .u32 v.a.m, .int .i64 v.a.ek, .string v.a.p, .string v.a.t, .slice v.xA v.a.x.length v.xc, .slice v.kA v.a.kl.length v.kc, .slice v.cA v.a.cl.length v.cc]
theorem av_len (x : AV) : x.cells.length = 11 := rfl
/-- in its type's bounds -/
structure AS.fit (a : AS) : Prop where
  k : -9223372036854775808 ≤ a.k ∧ a.k < 9223372036854775808
  s : -9223372036854775808 ≤ a.s ∧ a.s < 9223372036854775808
  n : -9223372036854775808 ≤ a.n ∧ a.n < 9223372036854775808
  b : -9223372036854775808 ≤ a.b ∧ a.b < 9223372036854775808
  m : 0 ≤ a.m ∧ a.m < 4294967296
  ek : -9223372036854775808 ≤ a.ek ∧ a.ek < 9223372036854775808
  p : a.p.size ≤ 140737488355328
  t : a.t.size ≤ 140737488355328
  x : a.x.length ≤ 140737488355328
  kl : a.kl.length ≤ 140737488355328
  cl : a.cl.length ≤ 140737488355328
  kf : ∀ o ∈ a.kl, -9223372036854775808 ≤ o.f ∧ o.f < 9223372036854775808 ∧ -9223372036854775808 ≤ o.b ∧ o.b < 9223372036854775808
  cf : ∀ o ∈ a.cl, o.p.size ≤ 140737488355328 ∧ -9223372036854775808 ≤ o.w ∧ o.w < 9223372036854775808
structure AV.ok (w : World) (Z : Nat → Prop) (v : AV) : Prop where
  x : By w Z v.xA v.a.x
  k : Rd w Z 2 v.kA v.a.kl.length (v.a.kl.flatMap KV.cells)
  c : Rd w Z 2 v.cA v.a.cl.length (v.a.cl.flatMap HW.cells)
  fit : v.a.fit
theorem AV.ok.fr {w w' : World} {Z S : Nat → Prop} {v : AV} (h : v.ok w Z) (k : Fr S w w') (hs : ∀ b, b < w.heap.size → Z b → ¬ S b) : v.ok w' Z := ⟨h.x.fr k hs, h.k.fr k hs, h.c.fr k hs, h.fit⟩
theorem AV.ok.below {w w' : World} {Z : Nat → Prop} {v : AV} (h : v.ok w Z) (k : Below w.heap.size w w') : v.ok w' Z := ⟨h.x.below k, h.k.below k, h.c.below k, h.fit⟩
theorem AV.ok.mono {w : World} {Z Z' : Nat → Prop} {v : AV} (h : v.ok w Z) (hz : ∀ b, b < w.heap.size → Z b → Z' b) : v.ok w Z' := ⟨h.x.mono hz, h.k.mono hz, h.c.mono hz, h.fit⟩

/-- what is left to be asked for -/
def NxAt (w : World) (g : Nat) (Z : Nat → Prop) (l : List UInt8) : Prop := ∃ A c, Blk w g 23 #[.slice A l.length c] ∧ By w Z A l ∧ l.length ≤ c ∧ c ≤ maxLen
structure NxTo (w : World) (g : Nat) (Z : Nat → Prop) (l : List UInt8) (w' : World) : Prop where
  at_ : NxAt w' g Z l
  fr : Fr (fun k => k = g) w w'
theorem NxAt.fr {w w' : World} {g : Nat} {Z S : Nat → Prop} {l : List UInt8} (h : NxAt w g Z l) (k : Fr S w w') (hg : ¬ S g) (hs : ∀ b, b < w.heap.size → Z b → ¬ S b) : NxAt w' g Z l := by
  obtain ⟨A, c, h1, h2, h3⟩ := h
  exact ⟨A, c, h1.fr k hg, h2.fr k hs, h3⟩
theorem NxAt.below {w w' : World} {g : Nat} {Z : Nat → Prop} {l : List UInt8} (h : NxAt w g Z l) (k : Below w.heap.size w w') : NxAt w' g Z l := h.fr (Fr.of_below k (fun _ => False)) (fun h => h) (fun _ _ _ h => h)
theorem NxAt.lt {w : World} {g : Nat} {Z : Nat → Prop} {l : List UInt8} (h : NxAt w g Z l) : g < w.heap.size := by
  obtain ⟨A, c, h1, _⟩ := h
  exact h1.lt
theorem NxTo.trans {a b c : World} {g : Nat} {Z : Nat → Prop} {l l' : List UInt8} (h : NxTo a g Z l b) (k : NxTo b g Z l' c) : NxTo a g Z l' c := ⟨k.at_, h.fr.trans k.fr (fun _ _ h => h)⟩
theorem NxTo.then_ {a b c : World} {g : Nat} {Z : Nat → Prop} {l : List UInt8} (h : NxTo a g Z l b) (k : Below b.heap.size b c) : NxTo a g Z l c := ⟨h.at_.below k, h.fr.then_below k⟩
theorem NxTo.after {a b c : World} {g : Nat} {Z : Nat → Prop} {l : List UInt8} (k : Below a.heap.size a b) (h : NxTo b g Z l c) : NxTo a g Z l c := ⟨h.at_, (Fr.of_below k _).trans h.fr (fun _ _ h => h)⟩

def nx (l : List UInt8) : Nat × List UInt8 := match l with | [] => (0, []) | b :: r => (b.toNat, r)
theorem nx_lt (l : List UInt8) : (nx l).1 < 256 := by
  rcases l with _ | ⟨b, r⟩
  · decide
  · exact b.toNat_lt
theorem nx_len (l : List UInt8) : (nx l).2.length ≤ l.length := by
  rcases l with _ | ⟨b, r⟩
  · exact Nat.le_refl _
  · simp [nx]

set_option maxRecDepth 100000 in
set_option maxHeartbeats 400000 in
theorem next_any (g : Nat) (Z : Nat → Prop) (l : List UInt8) (w : World) (h : NxAt w g Z l) (hz : ¬ Z g) :
    Calls Try.prog 51 #[.pointer (some ⟨g, 0, none⟩)] w fun e w' => e = .returned (.int .i64 ((nx l).1 : Int)) ∧ NxTo w g Z (nx l).2 w' := by
  obtain ⟨A, c, hb, hy, hc, hm⟩ := h
  have c0 := hb.cell 0
  have f0 := hb.frozen 0
  have hmx : maxLen = 9223372036854775807 := rfl
  rw [hmx] at hm
  rcases l with _ | ⟨x, r⟩
  · simp at c0
    go_enter Try.func51, Try.ntmps51
    go_wp2_with fail
    go_ret
    exact ⟨rfl, ⟨A, c, hb, hy, hc, by rw [hmx]; exact hm⟩, Fr.refl _ _⟩
  · obtain ⟨b, off, rfl, hzb, hbl, hx0⟩ := hy.atj (j := 0) (u := bv x) rfl
    rw [Nat.add_zero] at hx0
    have hx1 : w.cell? ⟨b, off, none⟩ = some (.int .u8 (x.toNat : Int)) := hx0
    clear hx0
    have hxl := x.toNat_lt
    have hD := Rd.drop hy (k := 1) (by simp) hc
    have hne : b ≠ g := fun e => hz (e ▸ hzb)
    have fS : ∀ u, Fr (fun k => k = g) w (w.setCell ⟨g, 0, none⟩ u) := fun u => (Fr.refl (fun k => k = g) w).setAt g 0 rfl u
    have bS : ∀ u, Blk (w.setCell ⟨g, 0, none⟩ u) g 23 #[u] := fun u => hb.set_ 0 u
    simp only [List.length_cons] at c0 hD hc ⊢
    simp at c0
    have HD := Lib.hid hD
    have FS := Lib.hid fS
    have BS := Lib.hid bS
    have HY := Lib.hid hy
    clear hD fS bS hmx hy hb
    by_cases hcc : c = 1
    · subst hcc
      obtain rfl : r = [] := List.eq_nil_of_length_eq_zero (by omega)
      go_enter Try.func51, Try.ntmps51
      go_wp2_with fail
      go_ret
      exact ⟨rfl, ⟨some ⟨b, off, none⟩, 0, BS.out _, Rd.nil, Nat.le_refl _, by simp [maxLen]⟩, FS.out _⟩
    · have hcp : ¬ c - 1 = 0 := by omega
      go_enter Try.func51, Try.ntmps51
      go_wp2_with fail
      go_ret
      have hD := HD.out
      rw [if_neg hcc, Option.map_some, add_none] at hD
      exact ⟨rfl, ⟨some ⟨b, off + 1, none⟩, c - 1, BS.out _, hD.fr (FS.out _) (fun b' _ hb' e => hz (e ▸ hb')), by show r.length ≤ c - 1; omega, by simp only [maxLen]; omega⟩, FS.out _⟩
end Go.Proofs.Ytpbgcbpofhbgbaa

/- Two acts the same? slices.Equal of what crashes keep and of choices; script.Same. -/
namespace Go.Proofs.Ytpbgcbpofhbgbaa
open Go.RowKit

def eqL {α : Type} (e : α → α → Bool) : List α → List α → Bool
  | [], [] => true
  | a :: l, b :: m => e a b && eqL e l m
  | [], _ :: _ => false
  | _ :: _, [] => false
theorem eqL_refl {α : Type} {e : α → α → Bool} (h : ∀ a, e a a = true) : ∀ l, eqL e l l = true
  | [] => rfl
  | a :: l => by rw [eqL, h a, eqL_refl h l]; rfl
theorem eqL_len {α : Type} {e : α → α → Bool} : ∀ (l m : List α), l.length ≠ m.length → eqL e l m = false
  | [], [], h => by simp at h
  | [], _ :: _, _ => rfl
  | _ :: _, [], _ => rfl
  | a :: l, b :: m, h => by rw [eqL, eqL_len l m (by simpa using h), Bool.and_false]
theorem eqL_at {α : Type} {e : α → α → Bool} : ∀ (l m : List α) (i : Nat) (hi : i < l.length) (hj : i < m.length), e l[i] m[i] = false → eqL e l m = false
  | a :: l, b :: m, 0, _, _, h => by rw [eqL, show e a b = false from h]; rfl
  | a :: l, b :: m, i + 1, hi, hj, h => by rw [eqL, eqL_at l m i (by simpa using hi) (by simpa using hj) (by simpa using h), Bool.and_false]
theorem eqL_all {α : Type} {e : α → α → Bool} : ∀ (l m : List α), l.length = m.length → (∀ i (hi : i < l.length) (hj : i < m.length), e l[i] m[i] = true) → eqL e l m = true
  | [], [], _, _ => rfl
  | [], _ :: _, h, _ => by simp at h
  | _ :: _, [], h, _ => by simp at h
  | a :: l, b :: m, h, k => by
    rw [eqL, show e a b = true from k 0 (by simp) (by simp), eqL_all l m (by simpa using h) (fun i hi hj => k (i + 1) (by simpa using hi) (by simpa using hj))]
    rfl
def KV.e (a b : KV) : Bool := a.f == b.f && a.b == b.b
def HW.e (a b : HW) : Bool := a.p.toList == b.p.toList && a.w == b.w
theorem below_drewN (w : World) (n : Nat) : Below w.heap.size w (w.drewN n) := ⟨rfl, rfl, rfl, Nat.le_refl _, fun _ _ => rfl⟩
theorem two_fields {n1 n2 : String} {t1 t2 : TypeId} {o1 o2 : Nat} : ∀ (L : List Field), L.map (fun f => (f.name, f.type, f.offset)) = [(n1, t1, o1), (n2, t2, o2)] →
    ∃ f g, L = [f, g] ∧ f.name = n1 ∧ f.type = t1 ∧ f.offset = o1 ∧ g.name = n2 ∧ g.type = t2 ∧ g.offset = o2
  | [f, g], e => by
    simp only [List.map_cons, List.map_nil, List.cons.injEq, Prod.mk.injEq, and_true] at e
    exact ⟨f, g, rfl, e.1.1, e.1.2.1, e.1.2.2, e.2.1, e.2.2.1, e.2.2.2⟩
  | [], e => by simp at e
  | [_], e => by simp at e
  | _ :: _ :: _ :: _, e => by simp at e
theorem kv_refl (a : KV) : a.e a = true := by simp [KV.e]
theorem hw_refl (a : HW) : a.e a = true := by simp [HW.e]
theorem kv_at {w : World} {Z : Nat → Prop} {A : Option Addr} {l : List KV} {i : Nat} (h : Rd w Z 2 A l.length (l.flatMap KV.cells)) (hi : i < l.length) :
    ∃ b off, A = some ⟨b, off, none⟩ ∧ Z b ∧ b < w.heap.size ∧ w.cell? ⟨b, off + i * 2, none⟩ = some (.int .i64 l[i].f) ∧ w.cell? ⟨b, off + i * 2 + 1, none⟩ = some (.int .i64 l[i].b) := by
  obtain ⟨b, off, hA, hz, hb, hc⟩ := h.2 (by omega)
  have hg : ∀ j, j < 2 → (l.flatMap KV.cells)[i * 2 + j]? = (KV.cells l[i])[j]? := fun j hj => flat_get (k := 2) kv_len l i j hi hj
  refine ⟨b, off, hA, hz, hb, hc _ _ (hg 0 (by omega)), ?_⟩
  rw [Nat.add_assoc]
  exact hc _ _ (hg 1 (by omega))
theorem hw_at {w : World} {Z : Nat → Prop} {A : Option Addr} {l : List HW} {i : Nat} (h : Rd w Z 2 A l.length (l.flatMap HW.cells)) (hi : i < l.length) :
    ∃ b off, A = some ⟨b, off, none⟩ ∧ Z b ∧ b < w.heap.size ∧ w.cell? ⟨b, off + i * 2, none⟩ = some (.string l[i].p) ∧ w.cell? ⟨b, off + i * 2 + 1, none⟩ = some (.int .i64 l[i].w) := by
  obtain ⟨b, off, hA, hz, hb, hc⟩ := h.2 (by omega)
  have hg : ∀ j, j < 2 → (l.flatMap HW.cells)[i * 2 + j]? = (HW.cells l[i])[j]? := fun j hj => flat_get (k := 2) hw_len l i j hi hj
  refine ⟨b, off, hA, hz, hb, hc _ _ (hg 0 (by omega)), ?_⟩
  rw [Nat.add_assoc]
  exact hc _ _ (hg 1 (by omega))


theorem neqKV (x y : KV) (W : World) : (binOp .neq 91 (.agg #[.int .i64 x.f, .int .i64 x.b]) (.agg #[.int .i64 y.f, .int .i64 y.b])).run Try.prog W = .ok (.bool (!(x.f == y.f && x.b == y.b))) W := by
  rw [run_neq_struct, run_equalIn_struct _ _ _ _ _ (by kernel_rfl) (by kernel_rfl)]
  have e : (Try.prog.fieldsOf 91).toList.map (fun f => (f.name, f.type, f.offset)) = [("File", 3, 0), ("Bytes", 3, 1)] := by kernel_rfl
  obtain ⟨f, g, hL, e1, e2, e3, e4, e5, e6⟩ := two_fields _ e
  clear e
  rw [hL]
  simp [Op.eqFields, go_sem, e1, e2, e3, e4, e5, e6]
  grind
theorem gdKV (x y : Operand) (xs ys : Array Value) (W : World) : (eqGuard .neq 91 x y (.agg xs) (.agg ys)).run Try.prog W = .ok () W := run_eqGuard_agg W _ _ x y xs ys (by kernel_rfl)


theorem neqHW (x y : HW) (W : World) : (binOp .neq 95 (.agg #[.string x.p, .int .i64 x.w]) (.agg #[.string y.p, .int .i64 y.w])).run Try.prog W = .ok (.bool (!(x.p.toList == y.p.toList && x.w == y.w))) W := by
  rw [run_neq_struct, run_equalIn_struct _ _ _ _ _ (by kernel_rfl) (by kernel_rfl)]
  have e : (Try.prog.fieldsOf 95).toList.map (fun f => (f.name, f.type, f.offset)) = [("Path", 9, 0), ("Winner", 3, 1)] := by kernel_rfl
  obtain ⟨f, g, hL, e1, e2, e3, e4, e5, e6⟩ := two_fields _ e
  clear e
  rw [hL]
  simp [Op.eqFields, go_sem, e1, e2, e3, e4, e5, e6]
  grind
theorem gdHW (x y : Operand) (xs ys : Array Value) (W : World) : (eqGuard .neq 95 x y (.agg xs) (.agg ys)).run Try.prog W = .ok () W := run_eqGuard_agg W _ _ x y xs ys (by kernel_rfl)


set_option maxRecDepth 100000 in
set_option maxHeartbeats 400000 in
theorem eqKV_any (A B : Option Addr) (c d : Nat) (l m : List KV) (Z Z' : Nat → Prop) (w : World) (hl : Rd w Z 2 A l.length (l.flatMap KV.cells)) (hm : Rd w Z' 2 B m.length (m.flatMap KV.cells)) (hn : l.length ≤ 140737488355328) (hn' : m.length ≤ 140737488355328) :
    Calls Try.prog 76 #[.slice A l.length c, .slice B m.length d] w fun e w' => e = .returned (.bool (eqL KV.e l m)) ∧ Below w.heap.size w w' := by
  obtain ⟨M, hM⟩ : ∃ M, M = eqL KV.e l m := ⟨_, rfl⟩
  rw [← hM]
  have HM := Lib.hid hM
  clear hM
  have U1 := fun (x y : KV) W => neqKV x y W
  have U2 := fun (x y : Operand) (xs ys : Array Value) W => gdKV x y xs ys W
  by_cases hlen : l.length = m.length
  · have hq : ((l.length : Int) != (m.length : Int)) = false := by rw [hlen]; simp
    go_enter Try.func76, Try.ntmps76
    go_wp2_with fail
    go_loopw [13] (fun iv wr => ∃ i : Nat, i ≤ l.length ∧ iv = .int .i64 (i : Int) ∧ Hid (∀ j (hj : j < l.length) (hj' : j < m.length), j < i → KV.e l[j] m[j] = true) ∧ Below w.heap.size w wr) (fun iv _ => l.length - (intOf iv).toNat)
    case atStart => exact ⟨0, Nat.zero_le _, rfl, fun j _ _ hj => absurd hj (Nat.not_lt_zero _), Below.refl _ _⟩
    case round =>
      obtain ⟨i, hi, rfl, hs, hb⟩ := hrel
      by_cases hlt : i < l.length
      · have hlt2 : i < m.length := by omega
        obtain ⟨b, off, rfl, _, _, p0, p1⟩ := kv_at (hl.below hb) hlt
        obtain ⟨b', off', rfl, _, _, q0, q1⟩ := kv_at (hm.below hb) hlt2
        have HA := Lib.hid (show l[i]? = some l[i] from List.getElem?_eq_getElem hlt)
        have HB := Lib.hid (show m[i]? = some m[i] from List.getElem?_eq_getElem hlt2)
        have HF := Lib.hid (fun h => HM.out.trans (eqL_at (e := KV.e) l m i hlt hlt2 h))
        have HT : Hid (KV.e l[i] m[i] = true → ∀ j (hj : j < l.length) (hj' : j < m.length), j < i + 1 → KV.e l[j] m[j] = true) := fun h j hj hj' hji => by
          rcases Nat.lt_or_ge j i with h1 | h1
          · exact hs.out j hj hj' h1
          · obtain rfl : j = i := by omega
            exact h
        generalize l[i] = x at *
        generalize m[i] = y at *
        have he : KV.e x y = (x.f == y.f && x.b == y.b) := rfl
        cases hxy : KV.e x y
        · have HF2 := HF.out hxy
          obtain rfl := HF2
          rw [he] at hxy
          clear HF HT HM he hs
          go_wp2_with fail
          go_quiet (fail)
          go_wp2_with fail
          go_ret
          exact ⟨rfl, hb.trans ((below_drewN _ _).mono hb.size)⟩
        · have HT2 := Lib.hid (HT.out hxy)
          rw [he] at hxy
          clear HF HT he hs
          go_wp2_with fail
          go_quiet (fail)
          go_wp2_with fail
          go_roundw
          case rel => exact ⟨i + 1, hlt, by go_num, HT2.out, hb.trans ((below_drewN _ _).mono hb.size)⟩
          case measure => simp [intOf]; omega
      · have e : i = l.length := by omega
        subst e
        obtain rfl : M = true := HM.out.trans (eqL_all l m hlen (fun i hi hj => hs.out i hi hj hi))
        go_wp2_with fail
        go_ret
        exact ⟨rfl, hb⟩
  · have hq : ((l.length : Int) != (m.length : Int)) = true := by simp; omega
    obtain rfl : M = false := HM.out.trans (eqL_len l m hlen)
    go_enter Try.func76, Try.ntmps76
    go_wp2_with fail
    go_ret
    exact ⟨rfl, Below.refl _ _⟩


set_option maxRecDepth 100000 in
set_option maxHeartbeats 400000 in
theorem eqHW_any (A B : Option Addr) (c d : Nat) (l m : List HW) (Z Z' : Nat → Prop) (w : World) (hl : Rd w Z 2 A l.length (l.flatMap HW.cells)) (hm : Rd w Z' 2 B m.length (m.flatMap HW.cells)) (hn : l.length ≤ 140737488355328) (hn' : m.length ≤ 140737488355328) :
    Calls Try.prog 77 #[.slice A l.length c, .slice B m.length d] w fun e w' => e = .returned (.bool (eqL HW.e l m)) ∧ Below w.heap.size w w' := by
  obtain ⟨M, hM⟩ : ∃ M, M = eqL HW.e l m := ⟨_, rfl⟩
  rw [← hM]
  have HM := Lib.hid hM
  clear hM
  have U1 := fun (x y : HW) W => neqHW x y W
  have U2 := fun (x y : Operand) (xs ys : Array Value) W => gdHW x y xs ys W
  by_cases hlen : l.length = m.length
  · have hq : ((l.length : Int) != (m.length : Int)) = false := by rw [hlen]; simp
    go_enter Try.func77, Try.ntmps77
    go_wp2_with fail
    go_loopw [13] (fun iv wr => ∃ i : Nat, i ≤ l.length ∧ iv = .int .i64 (i : Int) ∧ Hid (∀ j (hj : j < l.length) (hj' : j < m.length), j < i → HW.e l[j] m[j] = true) ∧ Below w.heap.size w wr) (fun iv _ => l.length - (intOf iv).toNat)
    case atStart => exact ⟨0, Nat.zero_le _, rfl, fun j _ _ hj => absurd hj (Nat.not_lt_zero _), Below.refl _ _⟩
    case round =>
      obtain ⟨i, hi, rfl, hs, hb⟩ := hrel
      by_cases hlt : i < l.length
      · have hlt2 : i < m.length := by omega
        obtain ⟨b, off, rfl, _, _, p0, p1⟩ := hw_at (hl.below hb) hlt
        obtain ⟨b', off', rfl, _, _, q0, q1⟩ := hw_at (hm.below hb) hlt2
        have HA := Lib.hid (show l[i]? = some l[i] from List.getElem?_eq_getElem hlt)
        have HB := Lib.hid (show m[i]? = some m[i] from List.getElem?_eq_getElem hlt2)
        have HF := Lib.hid (fun h => HM.out.trans (eqL_at (e := HW.e) l m i hlt hlt2 h))
        have HT : Hid (HW.e l[i] m[i] = true → ∀ j (hj : j < l.length) (hj' : j < m.length), j < i + 1 → HW.e l[j] m[j] = true) := fun h j hj hj' hji => by
          rcases Nat.lt_or_ge j i with h1 | h1
          · exact hs.out j hj hj' h1
          · obtain rfl : j = i := by omega
            exact h
        generalize l[i] = x at *
        generalize m[i] = y at *
        have he : HW.e x y = (x.p.toList == y.p.toList && x.w == y.w) := rfl
        cases hxy : HW.e x y
        · have HF2 := HF.out hxy
          obtain rfl := HF2
          rw [he] at hxy
          clear HF HT HM he hs
          go_wp2_with fail
          go_quiet (fail)
          go_wp2_with fail
          go_ret
          exact ⟨rfl, hb.trans ((below_drewN _ _).mono hb.size)⟩
        · have HT2 := Lib.hid (HT.out hxy)
          rw [he] at hxy
          clear HF HT he hs
          go_wp2_with fail
          go_quiet (fail)
          go_wp2_with fail
          go_roundw
          case rel => exact ⟨i + 1, hlt, by go_num, HT2.out, hb.trans ((below_drewN _ _).mono hb.size)⟩
          case measure => simp [intOf]; omega
      · have e : i = l.length := by omega
        subst e
        obtain rfl : M = true := HM.out.trans (eqL_all l m hlen (fun i hi hj => hs.out i hi hj hi))
        go_wp2_with fail
        go_ret
        exact ⟨rfl, hb⟩
  · have hq : ((l.length : Int) != (m.length : Int)) = true := by simp; omega
    obtain rfl : M = false := HM.out.trans (eqL_len l m hlen)
    go_enter Try.func77, Try.ntmps77
    go_wp2_with fail
    go_ret
    exact ⟨rfl, Below.refl _ _⟩

end Go.Proofs.Ytpbgcbpofhbgbaa

/- tenderref41.Same of two acts that have the same; tenderlaw41.same. -/
namespace Go.Proofs.Ytpbgcbpofhbgbaa
open Go.RowKit

theorem self_neq {s : ByteArray} : (!s.toList == s.toList) = false := by simp
theorem self_neql {s : List UInt8} : (!s == s) = false := by simp
set_option maxRecDepth 100000 in
set_option maxHeartbeats 4000000 in
theorem refSameEq_any (a b : AV) (Z Z' : Nat → Prop) (w : World) (h : a.a = b.a) (ha : a.ok w Z) (hb : b.ok w Z') :
    Calls Try.prog 36 #[a.val, b.val] w fun e w' => e = .returned (.bool true) ∧ Below w.heap.size w w' := by
  obtain ⟨s, axA, axc, akA, akc, acA, acc⟩ := a
  obtain ⟨s', bxA, bxc, bkA, bkc, bcA, bcc⟩ := b
  obtain rfl : s = s' := h
  obtain ⟨a1, a2, a3, fit⟩ := ha
  obtain ⟨b1, b2, b3, _⟩ := hb
  unfold AV.val
  dsimp only at a1 a2 a3 b1 b2 b3 fit ⊢
  have hkl := fit.kl
  have hcl := fit.cl
  have U1 := fun (x y : KV) W => neqKV x y W
  have U2 := fun (x y : Operand) (xs ys : Array Value) W => gdKV x y xs ys W
  have U3 := fun (x y : HW) W => neqHW x y W
  have U4 := fun (x y : Operand) (xs ys : Array Value) W => gdHW x y xs ys W
  obtain ⟨A, hA⟩ : ∃ A, A = ({ a := s, xA := axA, xc := axc, kA := akA, kc := akc, cA := acA, cc := acc } : AV).cells.toArray := ⟨_, rfl⟩
  obtain ⟨B, hB⟩ : ∃ B, B = ({ a := s, xA := bxA, xc := bxc, kA := bkA, kc := bkc, cA := bcA, cc := bcc } : AV).cells.toArray := ⟨_, rfl⟩
  rw [show Value.agg #[.int .i64 s.k, .int .i64 s.s, .int .i64 s.n, .int .i64 s.b, .int .u32 s.m, .int .i64 s.ek, .string s.p, .string s.t, .slice axA s.x.length axc, .slice akA s.kl.length akc, .slice acA s.cl.length acc] = .agg A by rw [hA]; rfl, show Value.agg #[.int .i64 s.k, .int .i64 s.s, .int .i64 s.n, .int .i64 s.b, .int .u32 s.m, .int .i64 s.ek, .string s.p, .string s.t, .slice bxA s.x.length bxc, .slice bkA s.kl.length bkc, .slice bcA s.cl.length bcc] = .agg B by rw [hB]; rfl]
  have x0 : A[0]? = some (.int .i64 s.k) := by rw [hA]; rfl
  have x1 : A[1]? = some (.int .i64 s.s) := by rw [hA]; rfl
  have x2 : A[2]? = some (.int .i64 s.n) := by rw [hA]; rfl
  have x3 : A[3]? = some (.int .i64 s.b) := by rw [hA]; rfl
  have x4 : A[4]? = some (.int .u32 s.m) := by rw [hA]; rfl
  have x5 : A[5]? = some (.int .i64 s.ek) := by rw [hA]; rfl
  have x6 : A[6]? = some (.string s.p) := by rw [hA]; rfl
  have x7 : A[7]? = some (.string s.t) := by rw [hA]; rfl
  have x8 : A[8]? = some (.slice axA s.x.length axc) := by rw [hA]; rfl
  have x9 : A[9]? = some (.slice akA s.kl.length akc) := by rw [hA]; rfl
  have x10 : A[10]? = some (.slice acA s.cl.length acc) := by rw [hA]; rfl
  have y0 : B[0]? = some (.int .i64 s.k) := by rw [hB]; rfl
  have y1 : B[1]? = some (.int .i64 s.s) := by rw [hB]; rfl
  have y2 : B[2]? = some (.int .i64 s.n) := by rw [hB]; rfl
  have y3 : B[3]? = some (.int .i64 s.b) := by rw [hB]; rfl
  have y4 : B[4]? = some (.int .u32 s.m) := by rw [hB]; rfl
  have y5 : B[5]? = some (.int .i64 s.ek) := by rw [hB]; rfl
  have y6 : B[6]? = some (.string s.p) := by rw [hB]; rfl
  have y7 : B[7]? = some (.string s.t) := by rw [hB]; rfl
  have y8 : B[8]? = some (.slice bxA s.x.length bxc) := by rw [hB]; rfl
  have y9 : B[9]? = some (.slice bkA s.kl.length bkc) := by rw [hB]; rfl
  have y10 : B[10]? = some (.slice bcA s.cl.length bcc) := by rw [hB]; rfl
  clear hA hB
  have hbw : Below w.heap.size w ((w.alloc (.cells A 57)).alloc (.cells B 57)) := (by repeat (first | exact Below.refl _ _ | refine Below.alloc ?_ (by simp) _ | refine Below.setCell ?_ (by simp) _ | refine Below.drew ?_))
  have k1 := conv_by (a1.below hbw) axc
  have k2 := conv_by (b1.below hbw) bxc
  replace a2 := a2.below hbw
  replace a3 := a3.below hbw
  replace b2 := b2.below hbw
  replace b3 := b3.below hbw
  clear a1 b1 fit
  have z1 := @self_neq s.p
  have z2 := @self_neq s.t
  have z3 := @self_neql s.x
  have bA := (Blk.new w 57 A).alloc (.cells B 57)
  have bB := Blk.new (w.alloc (.cells A 57)) 57 B
  rw [World.size_alloc] at bB
  go_enter Try.func36, Try.ntmps36
  go_wp2_with fail
  have e9 := (bA.cell 9).trans x9
  have e10 := (bA.cell 10).trans x10
  have f9 := (bB.cell 9).trans y9
  have f10 := (bB.cell 10).trans y10
  have bA' := bA.lt
  have bB' := bB.lt
  clear bA bB k1 k2 x0 x1 x2 x3 x4 x5 x6 x7 x8 x9 x10 y0 y1 y2 y3 y4 y5 y6 y7 y8 y9 y10 z1 z2 z3
  generalize (w.alloc (.cells A 57)).alloc (.cells B 57) = W at *

  go_loopw [5] (fun iv wr => ∃ i : Nat, i ≤ s.kl.length ∧ iv = .int .i64 (i : Int) ∧ Below W.heap.size W wr) (fun iv _ => s.kl.length - (intOf iv).toNat)
  case atStart => exact ⟨0, Nat.zero_le _, rfl, Below.refl _ _⟩
  case round =>
    obtain ⟨i, hi, rfl, hb⟩ := hrel
    have e := cellAt hb bA' e9
    have f := cellAt hb bB' f9
    by_cases hlt : i < s.kl.length
    · obtain ⟨b, off, rfl, _, _, p0, p1⟩ := kv_at (a2.below hb) hlt
      obtain ⟨b', off', rfl, _, _, q0, q1⟩ := kv_at (b2.below hb) hlt
      generalize s.kl[i] = x at *
      skip
      go_wp2_with fail
      go_quiet (fail)
      go_wp2_with fail
      go_roundw
      case rel => exact ⟨i + 1, hlt, by go_num, hb.trans ((below_drewN _ _).mono hb.size)⟩
      case measure => simp [intOf]; omega
    · have ee : i = s.kl.length := by omega
      subst ee
      go_wp2_with fail
      obtain ⟨wk, rfl⟩ : ∃ wk : World, wk = wr := ⟨_, rfl⟩
      have hbK := hb
      go_loopw [6] (fun iv wr => ∃ i : Nat, i ≤ s.cl.length ∧ iv = .int .i64 (i : Int) ∧ Below W.heap.size W wr) (fun iv _ => s.cl.length - (intOf iv).toNat)
      case atStart => exact ⟨0, Nat.zero_le _, rfl, hbK⟩
      case round =>
        obtain ⟨i, hi, rfl, hb⟩ := hrel
        have e := cellAt hb bA' e10
        have f := cellAt hb bB' f10
        by_cases hlt : i < s.cl.length
        · obtain ⟨b, off, rfl, _, _, p0, p1⟩ := hw_at (a3.below hb) hlt
          obtain ⟨b', off', rfl, _, _, q0, q1⟩ := hw_at (b3.below hb) hlt
          generalize s.cl[i] = x at *
          have z4 := @self_neq x.p
          go_wp2_with fail
          go_quiet (fail)
          go_wp2_with fail
          go_roundw
          case rel => exact ⟨i + 1, hlt, by go_num, hb.trans ((below_drewN _ _).mono hb.size)⟩
          case measure => simp [intOf]; omega
        · have ee : i = s.cl.length := by omega
          subst ee
          go_wp2_with fail
          go_ret
          exact ⟨rfl, hbw.trans (hb.mono hbw.size)⟩
end Go.Proofs.Ytpbgcbpofhbgbaa

/- Drawn regions whose operations each yield ONE value and at most make memory: one walk in the order of the text, in worlds above the one at hand; the variable that is made behind them may be made at any time. No program. -/
namespace Go.Proofs.Ytpbgcbpofhbgbaa
open Go.RowKit

section
variable {P : Program} {ops : Array Oper} {md : Region.Mode} {W : World}

/-- In state a, in every world above W, the operation yields v, and makes memory at most. -/
def YB (P : Program) (ops : Array Oper) (W : World) (o : Oper) (v : Value) (a : Act) : Prop :=
  (Region.wanted o (yielded ops a.tmps) = true ∧ ∀ w, Below W.heap.size W w → (execOp a.eval o).run P w = .ok (.value v) w ∨
    ∃ f args, (execOp a.eval o).run P w = .ok (.enter f args) w ∧ Calls P f args w fun e w' => e = .returned v ∧ Below w.heap.size w w') ∨
  (Region.wanted o (yielded ops a.tmps) = false ∧ v = undef)
theorem YB.of_same {o : Oper} {v : Value} {a a' : Act} (hy : YB P ops W o v a) (he : execOp a'.eval o = execOp a.eval o)
    (hw : Region.wanted o (yielded ops a'.tmps) = Region.wanted o (yielded ops a.tmps)) : YB P ops W o v a' := by
  unfold YB at *
  rw [he, hw]
  exact hy
theorem YB.wpOp {i : Nat} {o : Oper} {v : Value} {a : Act} {w : World} {K : Act → World → Prop} {Q : Exit → Act → World → Prop} (hi : ops[i]? = some o) (hy : YB P ops W o v a) (hw : Below W.heap.size W w)
    (hK : ∀ w', Below w.heap.size w w' → K (a.put o.dst v) w') : wpOp P ops Q i K a w := by
  unfold Go.wpOp
  simp only [hi]
  rcases hy with ⟨hwt, hv⟩ | ⟨hwt, rfl⟩
  · simp only [hwt, if_true]
    refine .inl ?_
    unfold Oper.wp
    rcases hv w hw with e | ⟨f, args, e, hc⟩
    · rw [e]
      exact hK w (Below.refl _ _)
    · rw [e]
      exact hc.mono fun e w' ⟨he, hb⟩ => by subst he; exact hK w' hb
  · simp only [hwt, Bool.false_eq_true, if_false]
    exact hK w (Below.refl _ _)

inductive DetB (P : Program) (md : Region.Mode) (ops : Array Oper) (W : World) (n : Nat) (E : Array Bool → Act → Prop) : Nat → Array Bool → Act → Prop
  | done {listed : Array Bool} {a : Act} : (∀ j ∈ Region.ready md ops listed, n ≤ j) → E listed a → DetB P md ops W n E 0 listed a
  | step {k i : Nat} {listed : Array Bool} {a : Act} {o : Oper} {v : Value} : ops[i]? = some o → i < n → HeadInv md ops n listed → i ∈ Region.ready md ops listed →
      (∀ j oj, ops[j]? = some oj → j ≠ i → listed.getD j true = false → (∀ e ∈ oj.after, Region.binds md e = true → e.on ≠ i) → o.apart ops oj = true) →
      YB P ops W o v a → DetB P md ops W n E k (listed.setIfInBounds i true) (a.put o.dst v) → DetB P md ops W n E (k + 1) listed a
def TailWaitsB (md : Region.Mode) (ops : Array Oper) (n : Nat) : Prop :=
  ∀ listed, HeadInv md ops n listed → ∀ i, i < n → listed.getD i true = false → ∀ t ∈ Region.ready md ops listed, t < n

theorem DetB.any {n : Nat} {E : Array Bool → Act → Prop} (hsel : ∀ (j : Nat) (o : Oper) cs b, ops[j]? = some o → o.op ≠ .select cs b) (hT : TailWaitsB md ops n) :
    ∀ {k : Nat} {listed : Array Bool} {a : Act}, DetB P md ops W n E (k + 1) listed a →
      Region.ready md ops listed ≠ [] ∧ HeadInv md ops n listed ∧ ∀ j ∈ Region.ready md ops listed, j < n ∧ ∃ o v, ops[j]? = some o ∧ YB P ops W o v a ∧ DetB P md ops W n E k (listed.setIfInBounds j true) (a.put o.dst v) := by
  intro k
  induction k with
  | zero =>
    intro listed a h
    cases h with
    | @step _ i _ _ o v ho hin inv hr hap hy hd =>
      refine ⟨fun h => (by rw [h] at hr; cases hr), inv, fun j hj => ⟨hT _ inv i hin (mem_ready.1 hr).1 j hj, ?_⟩⟩
      by_cases hji : j = i
      · subst hji; exact ⟨o, v, ho, hy, hd⟩
      · cases hd with
        | done hge _ => have h1 := hT _ inv i hin (mem_ready.1 hr).1 j hj; have h2 := hge j (ready_mono hj hji); omega
  | succ k ih =>
    intro listed a h
    cases h with
    | @step _ i _ _ o v ho hin inv hr hap hy hd =>
      refine ⟨fun h => (by rw [h] at hr; cases hr), inv, fun j hj => ⟨hT _ inv i hin (mem_ready.1 hr).1 j hj, ?_⟩⟩
      by_cases hji : j = i
      · subst hji; exact ⟨o, v, ho, hy, hd⟩
      · obtain ⟨_, _, h2⟩ := ih hd
        obtain ⟨_, oj, u, hoj, hyj, hdj⟩ := h2 j (ready_mono hj hji)
        obtain ⟨hjun, oj', hoj', hall⟩ := mem_ready.1 hj
        obtain rfl : oj' = oj := Option.some.inj (hoj'.symm.trans hoj)
        have hun := (mem_ready.1 hr).1
        have hnot : ∀ e ∈ oj'.after, Region.binds md e = true → e.on ≠ i := fun e he hb heq => by
          have h1 := hall e he hb
          rw [heq, getD_both hun] at h1
          cases h1
        obtain ⟨a1, a2, a3⟩ := Oper.apart_spec (hap j oj' hoj hji hjun hnot)
        have hyj' := hyj.of_same (a' := a) (execOp_put oj' (fun cs b => hsel j oj' cs b hoj) a o.dst v a1).symm (wanted_put oj' a o.dst v a1).symm
        have hyi' := hy.of_same (a' := a.put oj'.dst u) (execOp_put o (fun cs b => hsel i o cs b ho) a oj'.dst u a3) (wanted_put o a oj'.dst u a3)
        refine ⟨oj', u, hoj, hyj', ?_⟩
        rw [Act.put_comm a v u a2, Array.setIfInBounds_comm _ _ (Ne.symm hji)] at hdj
        refine .step ho hin (inv.set hj (hT _ inv i hin hun j hj)) (ready_mono hr (Ne.symm hji)) ?_ hyi' hdj
        intro m om hm hmi hmun hmno
        refine hap m om hm hmi ?_ hmno
        by_cases hmj : j = m
        · subst hmj; exact hjun
        · rw [getD_set_ne true hmj] at hmun; exact hmun

theorem wpAny_of_detB {n g : Nat} {E : Array Bool → Act → Prop} {Q : Exit → Act → World → Prop} (hsel : ∀ (j : Nat) (o : Oper) cs b, ops[j]? = some o → o.op ≠ .select cs b) (hT : TailWaitsB md ops n)
    (hE : ∀ listed a w, E listed a → Below W.heap.size W w → wpAny P md ops Q g listed a w) :
    ∀ (k : Nat) (listed : Array Bool) (a : Act) (w : World), DetB P md ops W n E k listed a → Below W.heap.size W w → wpAny P md ops Q (k + g) listed a w
  | 0, listed, a, w, h, hw => by
    rw [Nat.zero_add]
    cases h with
    | done _ h => exact hE _ _ _ h hw
  | k + 1, listed, a, w, h, hw => by
    obtain ⟨h1, _, h2⟩ := DetB.any hsel hT h
    rw [show k + 1 + g = (k + g) + 1 by omega]
    refine ⟨fun h0 => absurd h0 h1, fun j hj => ?_⟩
    obtain ⟨_, o, v, ho, hy, hd⟩ := h2 j hj
    exact hy.wpOp ho hw fun w' hb => wpAny_of_detB hsel hT hE k _ _ w' hd (hw.trans (hb.mono hw.size))

/-- a world above W in which the block b was made -/
structure Made (W : World) (t : TypeId) (cs : Array Value) (b : Nat) (w : World) : Prop where
  below : Below W.heap.size W w
  ge : W.heap.size ≤ b
  blk : Blk w b t cs
theorem Made.step {t : TypeId} {cs : Array Value} {b : Nat} {w w' : World} (h : Made W t cs b w) (k : Below w.heap.size w w') : Made W t cs b w' :=
  ⟨h.below.trans (k.mono h.below.size), h.ge, h.blk.below k⟩

variable {f : Nat} {of : Oper} {t : TypeId} {cs : Array Value}
/-- behind the float: its pointer stands in every frame that follows -/
theorem float_behind {n g : Nat} {E : Array Bool → Act → Prop} {Q : Exit → Act → World → Prop} (hsel : ∀ (j : Nat) (o : Oper) cs b, ops[j]? = some o → o.op ≠ .select cs b) (hT : TailWaitsB md ops n)
    (hap : ∀ j o, ops[j]? = some o → j < n → j ≠ f → of.apart ops o = true) (b : Nat)
    (hE : ∀ listed a w, E listed a → Made W t cs b w → wpAny P md ops Q g listed (a.put of.dst (.pointer (some ⟨b, 0, none⟩))) w) :
    ∀ (k : Nat) (listed : Array Bool) (a : Act) (w : World), DetB P md ops W n E k listed a → listed.getD f false = true → Made W t cs b w → wpAny P md ops Q (k + g) listed (a.put of.dst (.pointer (some ⟨b, 0, none⟩))) w
  | 0, listed, a, w, h, _, hw => by
    rw [Nat.zero_add]
    cases h with
    | done _ h => exact hE _ _ _ h hw
  | k + 1, listed, a, w, h, hf, hw => by
    obtain ⟨h1, _, h2⟩ := DetB.any hsel hT h
    rw [show k + 1 + g = (k + g) + 1 by omega]
    refine ⟨fun h0 => absurd h0 h1, fun j hj => ?_⟩
    obtain ⟨hjn, o, v, ho, hy, hd⟩ := h2 j hj
    have hjf : j ≠ f := fun e => by
      subst e
      have := getD_both (mem_ready.1 hj).1
      rw [hf] at this
      cases this
    obtain ⟨a1, a2, a3⟩ := Oper.apart_spec (hap j o ho hjn hjf)
    have hy' := hy.of_same (a' := a.put of.dst (.pointer (some ⟨b, 0, none⟩))) (execOp_put o (fun cs b => hsel j o cs b ho) a of.dst _ a1) (wanted_put o a of.dst _ a1)
    refine hy'.wpOp ho hw.below fun w' hb => ?_
    have := float_behind hsel hT hap b hE k _ _ w' hd (getD_set_true hf) (hw.step hb)
    rw [Act.put_comm a _ v a2]
    exact this

/-- ahead of the float: it may come up at any time -/
theorem float_ahead {n g : Nat} {E : Array Bool → Act → Prop} {Q : Exit → Act → World → Prop} (hsel : ∀ (j : Nat) (o : Oper) cs b, ops[j]? = some o → o.op ≠ .select cs b) (hT : TailWaitsB md ops n)
    (hap : ∀ j o, ops[j]? = some o → j < n → j ≠ f → of.apart ops o = true) (hof : ops[f]? = some of) (hfn : f < n) (hno : of.after.all (fun e => !Region.binds md e) = true)
    (hal : ∀ (a : Act) (w : World), Region.wanted of (yielded ops a.tmps) = true ∧ (execOp a.eval of).run P w = .ok (.value (.pointer (some ⟨w.heap.size, 0, none⟩))) (w.alloc (.cells cs t)))
    (hE : ∀ b listed a w, E listed a → Made W t cs b w → wpAny P md ops Q g listed (a.put of.dst (.pointer (some ⟨b, 0, none⟩))) w) :
    ∀ (k : Nat) (listed : Array Bool) (a : Act) (w : World), DetB P md ops W n E k (listed.setIfInBounds f true) a → HeadInv md ops n listed → listed.getD f true = false → Below W.heap.size W w → wpAny P md ops Q (k + g + 1) listed a w := by
  intro k
  induction k with
  | zero =>
    intro listed a w h inv hf hw
    have hr : f ∈ Region.ready md ops listed := mem_ready.2 ⟨hf, of, hof, fun e he hb => by
      have := Array.all_eq_true_iff_forall_mem.1 hno e he
      rw [hb] at this
      cases this⟩
    have hfs : f < listed.size := by rw [inv.size]; exact (Array.getElem?_eq_some_iff.1 hof).1
    refine ⟨fun h0 => (by rw [h0] at hr; cases hr), fun j hj => ?_⟩
    by_cases hjf : j = f
    · subst hjf
      unfold wpOp
      simp only [hof, (hal a w).1, if_true]
      refine .inl ?_
      unfold Oper.wp
      rw [(hal a w).2]
      exact float_behind hsel hT hap _ (hE _) 0 _ _ _ h (by simp [hfs]) ⟨hw.alloc hw.size _, hw.size, Blk.new w t cs⟩
    · cases h with
      | done hge _ => have h1 := hge j (ready_mono hj hjf); have h2 := hT _ inv f hfn hf j hj; omega
  | succ k ih =>
    intro listed a w h inv hf hw
    have hr : f ∈ Region.ready md ops listed := mem_ready.2 ⟨hf, of, hof, fun e he hb => by
      have := Array.all_eq_true_iff_forall_mem.1 hno e he
      rw [hb] at this
      cases this⟩
    have hfs : f < listed.size := by rw [inv.size]; exact (Array.getElem?_eq_some_iff.1 hof).1
    refine ⟨fun h0 => (by rw [h0] at hr; cases hr), fun j hj => ?_⟩
    by_cases hjf : j = f
    · subst hjf
      unfold wpOp
      simp only [hof, (hal a w).1, if_true]
      refine .inl ?_
      unfold Oper.wp
      rw [(hal a w).2]
      exact float_behind hsel hT hap _ (hE _) (k + 1) _ _ _ h (by simp [hfs]) ⟨hw.alloc hw.size _, hw.size, Blk.new w t cs⟩
    · obtain ⟨_, _, h2⟩ := DetB.any hsel hT h
      obtain ⟨hjn, o, v, ho, hy, hd⟩ := h2 j (ready_mono hj hjf)
      rw [show k + 1 + g = k + g + 1 by omega]
      refine hy.wpOp ho hw fun w' hb => ?_
      rw [Array.setIfInBounds_comm _ _ (Ne.symm hjf)] at hd
      exact ih _ _ w' hd (inv.set hj hjn) (by rw [getD_set_ne true hjf]; exact hf) (hw.trans (hb.mono hw.size))

/-- the check: so many operations from k on, each ready and free; then the tail from n on, one behind the other -/
def headF (md : Region.Mode) (ops : Array Oper) (g n : Nat) : Nat → Nat → Array Bool → Bool
  | 0, _, listed => Region.seqB md ops g n listed
  | m + 1, k, listed => (Region.ready md ops listed).contains k && Region.free md ops listed k && headF md ops g n m (k + 1) (listed.setIfInBounds k true)

/-- the walk in the text's order; nobody looks into it -/
inductive WalkB (P : Program) (ops : Array Oper) (W : World) (Q : Act → Prop) : List Oper → Act → Prop
  | nil {a : Act} : Q a → WalkB P ops W Q [] a
  | cons {o : Oper} {rest : List Oper} {a : Act} {v : Value} : YB P ops W o v a → WalkB P ops W Q rest (a.put o.dst v) → WalkB P ops W Q (o :: rest) a

theorem detB_lex {n g : Nat} {Lq : Act → Prop} :
    ∀ (l : List Oper) (k : Nat) (listed : Array Bool) (a : Act), (∀ j, j < l.length → l[j]? = ops[k + j]?) → k + l.length ≤ n → HeadInv md ops n listed →
    headF md ops g n l.length k listed = true → WalkB P ops W Lq l a →
    DetB P md ops W n (fun listed' a' => Region.seqB md ops g n listed' = true ∧ Lq a') l.length listed a
  | [], k, listed, a, _, _, _, hB, h => by
    have hs : Region.seqB md ops g n listed = true := by simpa [headF] using hB
    cases h with
    | nil h => exact .done (seqB_ready hs) ⟨hs, h⟩
  | o :: l, k, listed, a, hl, hk, inv, hB, h => by
    have h0 : ops[k]? = some o := by simpa using (hl 0 (by simp)).symm
    simp only [List.length_cons, headF, Bool.and_eq_true] at hB
    obtain ⟨⟨hr, hf⟩, hB'⟩ := hB
    have hkn : k < n := by simp only [List.length_cons] at hk; omega
    have hr' : k ∈ Region.ready md ops listed := by simpa using hr
    cases h with
    | cons hy hd =>
      refine .step h0 hkn inv hr' (Region.free_spec h0 hf) hy ?_
      exact (detB_lex l (k + 1) _ _ (fun j hj => by have := hl (j + 1) (by simp; omega); simpa [Nat.add_assoc, Nat.add_comm 1 j] using this) (by simp only [List.length_cons] at hk; omega) (inv.set hr' hkn) hB' hd)

def tailOkB (ops : Array Oper) (n : Nat) : Bool := Region.noSelect ops && (decide (n = ops.size) || (decide (n < ops.size) && Region.sinkB .any ops n && Region.chainB .any ops n))
theorem tailOkB_spec {n : Nat} (h : tailOkB ops n = true) : Region.noSelect ops = true ∧ n ≤ ops.size ∧ TailWaitsB .any ops n := by
  simp only [tailOkB, Bool.and_eq_true, Bool.or_eq_true, decide_eq_true_eq] at h
  obtain ⟨hsel, hn⟩ := h
  refine ⟨hsel, ?_, ?_⟩
  · rcases hn with h | ⟨⟨h, _⟩, _⟩ <;> omega
  · intro listed inv i hi hun t ht
    rcases hn with h | ⟨⟨h, hs⟩, hc⟩
    · obtain ⟨_, o, ho, _⟩ := mem_ready.1 ht
      have := (Array.getElem?_eq_some_iff.1 ho).1
      omega
    · rcases Nat.lt_or_ge t n with h1 | h1
      · exact h1
      · exact absurd ht (tail_waits hs hc h inv _ i rfl hi hun t h1)
theorem inv_new (n : Nat) : HeadInv md ops n (Array.replicate ops.size false) :=
  ⟨by simp, fun j oj _ hl => (by rw [getD_replicate_false] at hl; cases hl), fun t _ ht => getD_in (by simpa using ht) (getD_replicate_false _ _)⟩

/-- n operations, then the rest one behind the other -/
theorem wp_region_b {id : Nat} {Q : Exit → Act → World → Prop} {a : Act} {w : World} {l : List Oper} (n : Nat) (hm : P.follows .mixedOrders = true)
    (hB : (tailOkB l.toArray n && headF .any l.toArray (l.toArray.size - n) n n 0 (Array.replicate l.toArray.size false)) = true)
    (h : WalkB P l.toArray w (fun a' => ∀ w', Below w.heap.size w w' → wpList P l.toArray Q (l.drop n) a' w') (l.take n) a) : (Code.region id l.toArray true).wp P Q a w := by
  rw [Bool.and_eq_true] at hB
  obtain ⟨hok, hlex⟩ := hB
  obtain ⟨hsel, hnl, hT⟩ := tailOkB_spec hok
  have htl : (l.take n).length = n := by simp at hnl ⊢; omega
  have hdl : (l.drop n).length = l.toArray.size - n := by simp
  have H := detB_lex (P := P) (md := .any) (W := w) (n := n) (g := l.toArray.size - n) (l.take n) 0 _ a (fun j hj => by
    have hj' : j < n := by rw [htl] at hj; exact hj
    simp [hj']) (by rw [htl]; omega) (inv_new n) (by rw [htl]; exact hlex) h
  refine wp_region_any hm ?_
  have := wpAny_of_detB (Q := Q) (g := l.toArray.size - n) (Region.noSelect_spec hsel) hT (fun listed a' w' hL hw => by
    have := wpAny_of_seq (md := .any) (Q' := Q) (l.drop n) n listed a' w' (fun j => by simp [List.getElem?_drop]) (by rw [hdl]; exact hL.1) (hL.2 w' hw)
    rwa [hdl] at this) _ _ _ w.drew H (Below.refl _ _).drew
  rw [htl, show n + (l.toArray.size - n) = l.toArray.size by omega] at this
  exact this

/-- n operations and, right behind them in the text, a variable that is made (at any time); then the rest one behind the other -/
theorem wp_region_f {id : Nat} {Q : Exit → Act → World → Prop} {a : Act} {w : World} {l : List Oper} (n : Nat) (t : TypeId) (cs : Array Value) {of : Oper} (hm : P.follows .mixedOrders = true) (hof : l[n]? = some of)
    (hB : (tailOkB l.toArray (n + 1) && headF .any l.toArray (l.toArray.size - (n + 1)) (n + 1) n 0 ((Array.replicate l.toArray.size false).setIfInBounds n true) && of.after.all (fun e => !Region.binds .any e) && (l.take n).all (fun o => of.apart l.toArray o) && of.guard.isNone) = true)
    (hal : ∀ (ρ : Operand → Value) (w : World), (execOp ρ of).run P w = .ok (.value (.pointer (some ⟨w.heap.size, 0, none⟩))) (w.alloc (.cells cs t)))
    (h : WalkB P l.toArray w (fun a' => ∀ b w', Made w t cs b w' → wpList P l.toArray Q (l.drop (n + 1)) (a'.put of.dst (.pointer (some ⟨b, 0, none⟩))) w') (l.take n) a) : (Code.region id l.toArray true).wp P Q a w := by
  simp only [Bool.and_eq_true] at hB
  obtain ⟨⟨⟨⟨hok, hlex⟩, hno⟩, hap⟩, hgd⟩ := hB
  obtain ⟨hsel, hnl, hT⟩ := tailOkB_spec hok
  have hnl' : n < l.length := by simp at hnl; omega
  have htl : (l.take n).length = n := by simp; omega
  have hdl : (l.drop (n + 1)).length = l.toArray.size - (n + 1) := by simp
  have hof' : l.toArray[n]? = some of := by simpa using hof
  have inv1 : HeadInv .any l.toArray (n + 1) ((Array.replicate l.toArray.size false).setIfInBounds n true) :=
    (inv_new (n + 1)).set (mem_ready.2 ⟨getD_in (by simpa using hnl') (getD_replicate_false _ _), of, hof', fun e he hb => by
      have := Array.all_eq_true_iff_forall_mem.1 hno e he
      rw [hb] at this
      cases this⟩) (by omega)
  have H := detB_lex (P := P) (md := .any) (W := w) (n := n + 1) (g := l.toArray.size - (n + 1)) (l.take n) 0 _ a (fun j hj => by
    have hj' : j < n := by rw [htl] at hj; exact hj
    simp [hj']) (by rw [htl]; omega) inv1 (by rw [htl]; exact hlex) h
  refine wp_region_any hm ?_
  have hwt : ∀ a : Act, Region.wanted of (yielded l.toArray a.tmps) = true := fun a => by
    have : of.guard = none := by simpa using hgd
    simp [Region.wanted, this]
  have := float_ahead (Q := Q) (f := n) (of := of) (t := t) (cs := cs) (g := l.toArray.size - (n + 1)) (Region.noSelect_spec hsel) hT (fun j o ho hj hjn => by
      have hjn' : j < n := by omega
      have ho' : (l.take n)[j]? = some o := by rw [List.getElem?_take]; simp [hjn']; simpa using ho
      exact List.all_eq_true.1 hap o (List.mem_of_getElem? ho')) hof' (by omega) hno (fun a w => ⟨hwt a, hal _ _⟩)
    (fun b listed a' w' hL hw => by
      have := wpAny_of_seq (md := .any) (Q' := Q) (l.drop (n + 1)) (n + 1) listed (a'.put of.dst (.pointer (some ⟨b, 0, none⟩))) w' (fun j => by simp [List.getElem?_drop]) (by rw [hdl]; exact hL.1) (hL.2 b w' hw)
      rwa [hdl] at this) _ _ _ w.drew H (inv_new (n + 1)) (getD_in (by simpa using hnl') (getD_replicate_false _ _)) (Below.refl _ _).drew
  rw [htl, show n + (l.toArray.size - (n + 1)) + 1 = l.toArray.size by simp at hnl ⊢; omega] at this
  exact this

variable {Q : Act → Prop} {a : Act} {o : Oper} {rest : List Oper}
theorem lb_skip (hw : Region.wanted o (yielded ops a.tmps) = false) (h : ∃ a', a.put o.dst undef = a' ∧ WalkB P ops W Q rest a') : WalkB P ops W Q (o :: rest) a := by
  obtain ⟨a', ha, h⟩ := h
  exact .cons (.inr ⟨hw, rfl⟩) (by rw [ha]; exact h)
theorem lb_val (hw : Region.wanted o (yielded ops a.tmps) = true) (h : ∃ v, (∀ w, Below W.heap.size W w → (execOp a.eval o).run P w = .ok (.value v) w) ∧ ∃ a', a.put o.dst v = a' ∧ WalkB P ops W Q rest a') : WalkB P ops W Q (o :: rest) a := by
  obtain ⟨v, hv, a', ha, h⟩ := h
  exact .cons (.inl ⟨hw, fun w hb => .inl (hv w hb)⟩) (by rw [ha]; exact h)
theorem lb_move (x : Operand) (hw : Region.wanted o (yielded ops a.tmps) = true) (hop : o.op = .move x) (h : ∃ v, a.eval x = v ∧ ∃ a', a.put o.dst v = a' ∧ WalkB P ops W Q rest a') : WalkB P ops W Q (o :: rest) a := by
  obtain ⟨v, hv, h⟩ := h
  exact lb_val hw ⟨v, fun w _ => by rw [BigFrame.run_move x hop, hv], h⟩
theorem lb_assign (x : Operand) (hw : Region.wanted o (yielded ops a.tmps) = true) (hop : o.op = .assign x) (h : ∃ v, a.eval x = v ∧ ∃ a', a.put o.dst v = a' ∧ WalkB P ops W Q rest a') : WalkB P ops W Q (o :: rest) a := by
  obtain ⟨v, hv, h⟩ := h
  exact lb_val hw ⟨v, fun w _ => by rw [BigFrame.run_assign x hop, hv], h⟩
theorem lb_call {v : Value} {f : FuncId} {args : Array Value} (hw : Region.wanted o (yielded ops a.tmps) = true) (hc : ∀ w, Below W.heap.size W w → Calls P f args w fun e w' => e = .returned v ∧ Below w.heap.size w w') (hv : ∀ w, (execOp a.eval o).run P w = .ok (.enter f args) w)
    (h : ∃ a', a.put o.dst v = a' ∧ WalkB P ops W Q rest a') : WalkB P ops W Q (o :: rest) a := by
  obtain ⟨a', ha, h⟩ := h
  exact .cons (.inl ⟨hw, fun w hb => .inr ⟨f, args, hv w, hc w hb⟩⟩) (by rw [ha]; exact h)
end
end Go.Proofs.Ytpbgcbpofhbgbaa

/- Rows of acts; tenderlaw41.same of rows that have the same. -/
namespace Go.Proofs.Ytpbgcbpofhbgbaa
open Go.RowKit

/-- an act's cells from one place on -/
def At11 (w : World) (g o : Nat) (v : AV) : Prop := w.cell? ⟨g, o, none⟩ = some (.int .i64 v.a.k) ∧ w.cell? ⟨g, o + 1, none⟩ = some (.int .i64 v.a.s) ∧ w.cell? ⟨g, o + 2, none⟩ = some (.int .i64 v.a.n) ∧ w.cell? ⟨g, o + 3, none⟩ = some (.int .i64 v.a.b) ∧ w.cell? ⟨g, o + 4, none⟩ = some (.int .u32 v.a.m) ∧ w.cell? ⟨g, o + 5, none⟩ = some (.int .i64 v.a.ek) ∧ w.cell? ⟨g, o + 6, none⟩ = some (.string v.a.p) ∧ w.cell? ⟨g, o + 7, none⟩ = some (.string v.a.t) ∧ w.cell? ⟨g, o + 8, none⟩ = some (.slice v.xA v.a.x.length v.xc) ∧ w.cell? ⟨g, o + 9, none⟩ = some (.slice v.kA v.a.kl.length v.kc) ∧ w.cell? ⟨g, o + 10, none⟩ = some (.slice v.cA v.a.cl.length v.cc)
theorem At11.below {w w' : World} {g o : Nat} {v : AV} (h : At11 w g o v) (hb : g < w.heap.size) (k : Below w.heap.size w w') : At11 w' g o v := by
  obtain ⟨a0, a1, a2, a3, a4, a5, a6, a7, a8, a9, a10⟩ := h
  exact ⟨cellAt k hb a0, cellAt k hb a1, cellAt k hb a2, cellAt k hb a3, cellAt k hb a4, cellAt k hb a5, cellAt k hb a6, cellAt k hb a7, cellAt k hb a8, cellAt k hb a9, cellAt k hb a10⟩
theorem av_at {w : World} {Z : Nat → Prop} {A : Option Addr} {l : List AV} {i : Nat} (h : Rd w Z 11 A l.length (l.flatMap AV.cells)) (hi : i < l.length) :
    ∃ b off, A = some ⟨b, off, none⟩ ∧ Z b ∧ b < w.heap.size ∧ At11 w b (off + i * 11) l[i] := by
  obtain ⟨b, off, hA, hz, hb, hc⟩ := h.2 (by omega)
  have hg : ∀ j, j < 11 → (l.flatMap AV.cells)[i * 11 + j]? = (AV.cells l[i])[j]? := fun j hj => flat_get (k := 11) av_len l i j hi hj
  refine ⟨b, off, hA, hz, hb, ?_, ?_, ?_, ?_, ?_, ?_, ?_, ?_, ?_, ?_, ?_⟩
  · exact hc _ _ (hg 0 (by omega))
  all_goals rw [Nat.add_assoc]
  · exact hc _ _ (hg 1 (by omega))
  · exact hc _ _ (hg 2 (by omega))
  · exact hc _ _ (hg 3 (by omega))
  · exact hc _ _ (hg 4 (by omega))
  · exact hc _ _ (hg 5 (by omega))
  · exact hc _ _ (hg 6 (by omega))
  · exact hc _ _ (hg 7 (by omega))
  · exact hc _ _ (hg 8 (by omega))
  · exact hc _ _ (hg 9 (by omega))
  · exact hc _ _ (hg 10 (by omega))
/-- a slice of acts -/
structure Acts (w : World) (Z : Nat → Prop) (A : Option Addr) (l : List AV) : Prop where
  rd : Rd w Z 11 A l.length (l.flatMap AV.cells)
  ok : ∀ v ∈ l, v.ok w Z
  len : l.length ≤ 4398046511104
theorem Acts.fr {w w' : World} {Z S : Nat → Prop} {A : Option Addr} {l : List AV} (h : Acts w Z A l) (k : Fr S w w') (hs : ∀ b, b < w.heap.size → Z b → ¬ S b) : Acts w' Z A l :=
  ⟨h.rd.fr k hs, fun v hv => (h.ok v hv).fr k hs, h.len⟩
theorem Acts.below {w w' : World} {Z : Nat → Prop} {A : Option Addr} {l : List AV} (h : Acts w Z A l) (k : Below w.heap.size w w') : Acts w' Z A l := h.fr (Fr.of_below k (fun _ => False)) (fun _ _ _ h => h)
theorem act_one (l : List AV) : ∀ u ∈ l.flatMap AV.cells, u.oneCell' = true := by
  intro u hu
  obtain ⟨x, _, hx⟩ := List.mem_flatMap.1 hu
  simp only [AV.cells, List.mem_cons, List.not_mem_nil, or_false] at hx
  rcases hx with rfl | rfl | rfl | rfl | rfl | rfl | rfl | rfl | rfl | rfl | rfl <;> rfl
theorem act_info : (Try.prog.info? 57).map (fun i => (i.zero, i.size, i.bytes)) = some (some (.agg #[.int .i64 0, .int .i64 0, .int .i64 0, .int .i64 0, .int .u32 0, .int .i64 0, .string ⟨#[]⟩, .string ⟨#[]⟩, .slice none 0 0, .slice none 0 0, .slice none 0 0]), 11, 152) := by kernel_rfl

set_option maxRecDepth 100000 in
set_option maxHeartbeats 1000000 in
theorem same41_any (A B : Option Addr) (c d : Nat) (l m : List AV) (Z Z' : Nat → Prop) (w : World) (hl : Acts w Z A l) (hm : Acts w Z' B m) (he : Hid (l.map AV.a = m.map AV.a)) :
    Calls Try.prog 28 #[.slice A l.length c, .slice B m.length d] w fun e w' => e = .returned (.bool true) ∧ Below w.heap.size w w' := by
  have hlen : l.length = m.length := by simpa using congrArg List.length he.out
  have hq : ((l.length : Int) != (m.length : Int)) = false := by rw [hlen]; simp
  have hll := hl.len
  go_enter Try.func28, Try.ntmps28
  go_wp2_with fail
  go_loopw [13] (fun iv wr => ∃ i : Nat, i ≤ l.length ∧ iv = .int .i64 (i : Int) ∧ Below w.heap.size w wr) (fun iv _ => l.length - (intOf iv).toNat)
  case atStart => exact ⟨0, Nat.zero_le _, rfl, Below.refl _ _⟩
  case round =>
    obtain ⟨i, hi, rfl, hb⟩ := hrel
    by_cases hlt : i < l.length
    · have hlt2 : i < m.length := by omega
      obtain ⟨b, off, rfl, _, hbl, p⟩ := av_at (hl.below hb).rd hlt
      obtain ⟨b', off', rfl, _, hbl', q⟩ := av_at (hm.below hb).rd hlt2
      have hx := (hl.below hb).ok _ (List.getElem_mem hlt)
      have hy := (hm.below hb).ok _ (List.getElem_mem hlt2)
      have hxy : l[i].a = m[i].a := by
        have := congrArg (fun L => L[i]?) he.out
        simpa [List.getElem?_map, List.getElem?_eq_getElem hlt, List.getElem?_eq_getElem hlt2] using this
      generalize l[i] = x at *
      generalize m[i] = y at *
      have HS := Lib.hid (fun W (hW : Below wr.heap.size wr W) => refSameEq_any x y _ _ W hxy (hx.below hW) (hy.below hW))
      clear hx hy hxy
      go_wp2_with fail
      refine wp_region_b 10 (by kernel_rfl) (by kernel_rfl) ?_
      simp only [List.take_succ_cons, List.take_zero, List.drop_succ_cons, List.drop_zero]
      refine lb_move _ (by kernel_rfl) rfl ⟨_, (by ((try simp [go_sem]); (try rfl); done)), _, (by (simp only [Act.put, List.setIfInBounds_toArray, List.set_cons_zero, List.set_cons_succ]; rfl)), ?_⟩
      refine lb_move _ (by kernel_rfl) rfl ⟨_, (by ((try simp [go_sem]); (try rfl); done)), _, (by (simp only [Act.put, List.setIfInBounds_toArray, List.set_cons_zero, List.set_cons_succ]; rfl)), ?_⟩
      refine lb_val (by kernel_rfl) ⟨_, (by (intro w' hC; clear hC; (try go_simp); (try with_reducible rfl); done)), _, (by (simp only [Act.put, List.setIfInBounds_toArray, List.set_cons_zero, List.set_cons_succ]; rfl)), ?_⟩
      refine lb_val (by kernel_rfl) ⟨_, (by (intro w' hC; (obtain ⟨p0, p1, p2, p3, p4, p5, p6, p7, p8, p9, p10⟩ := p.below hbl hC); clear hC; (try go_simp); (try with_reducible rfl); done)), _, (by (simp only [Act.put, List.setIfInBounds_toArray, List.set_cons_zero, List.set_cons_succ]; rfl)), ?_⟩
      refine lb_move _ (by kernel_rfl) rfl ⟨_, (by ((try simp [go_sem]); (try rfl); done)), _, (by (simp only [Act.put, List.setIfInBounds_toArray, List.set_cons_zero, List.set_cons_succ]; rfl)), ?_⟩
      refine lb_move _ (by kernel_rfl) rfl ⟨_, (by ((try simp [go_sem]); (try rfl); done)), _, (by (simp only [Act.put, List.setIfInBounds_toArray, List.set_cons_zero, List.set_cons_succ]; rfl)), ?_⟩
      refine lb_val (by kernel_rfl) ⟨_, (by (intro w' hC; clear hC; (try go_simp); (try with_reducible rfl); done)), _, (by (simp only [Act.put, List.setIfInBounds_toArray, List.set_cons_zero, List.set_cons_succ]; rfl)), ?_⟩
      refine lb_val (by kernel_rfl) ⟨_, (by (intro w' hC; (obtain ⟨q0, q1, q2, q3, q4, q5, q6, q7, q8, q9, q10⟩ := q.below hbl' hC); clear hC; (try go_simp); (try with_reducible rfl); done)), _, (by (simp only [Act.put, List.setIfInBounds_toArray, List.set_cons_zero, List.set_cons_succ]; rfl)), ?_⟩
      refine lb_call (by kernel_rfl) (fun w' hC => HS.out _ hC) (by (intro w'; go_simp; done)) ⟨_, (by (simp only [Act.put, List.setIfInBounds_toArray, List.set_cons_zero, List.set_cons_succ]; rfl)), ?_⟩
      refine lb_val (by kernel_rfl) ⟨_, (by (intro w' hC; clear hC; (try go_simp); (try with_reducible rfl); done)), _, (by (simp only [Act.put, List.setIfInBounds_toArray, List.set_cons_zero, List.set_cons_succ]; rfl)), ?_⟩
      refine .nil ?_
      intro w9 hb9
      clear p q HS
      go_wp2_with fail
      go_roundw
      case rel => exact ⟨i + 1, hlt, by go_num, hb.trans (hb9.mono hb.size)⟩
      case measure => simp [intOf]; omega
    · have e : i = l.length := by omega
      subst e
      go_wp2_with fail
      go_ret
      exact ⟨rfl, hb⟩
end Go.Proofs.Ytpbgcbpofhbgbaa

/- Rows of acts that a call makes: one more act. -/
namespace Go.Proofs.Ytpbgcbpofhbgbaa
open Go.RowKit

/-- a row of acts of a call's own; what they hold lies in blocks of Z -/
structure ActRow (w : World) (base : Nat) (Z : Nat → Prop) (A : Option Addr) (c : Nat) (s : List AV) : Prop where
  row : Row w base 57 11 A s.length c (s.flatMap AV.cells)
  ok : ∀ v ∈ s, v.ok w (fun b => Z b ∧ ablk A ≠ some b)
namespace ActRow
variable {w w' : World} {base c : Nat} {Z : Nat → Prop} {A : Option Addr} {s : List AV}
theorem none_ (w : World) (base : Nat) (Z : Nat → Prop) : ActRow w base Z none 0 [] := ⟨Row.none_ _ _ _ _, by simp⟩
theorem fr {S : Nat → Prop} (h : ActRow w base Z A c s) (k : Fr S w w') (h1 : ∀ g, ablk A = some g → ¬ S g) (h2 : ∀ b, b < w.heap.size → Z b → ablk A ≠ some b → ¬ S b) : ActRow w' base Z A c s :=
  ⟨h.row.fr k h1, fun v hv => (h.ok v hv).fr k (fun b hb hz => h2 b hb hz.1 hz.2)⟩
theorem below (h : ActRow w base Z A c s) (k : Below w.heap.size w w') : ActRow w' base Z A c s := h.fr (Fr.of_below k (fun _ => False)) (fun _ _ h => h) (fun _ _ _ _ h => h)
theorem acts (h : ActRow w base Z A c s) (hz : ∀ b, base ≤ b → b < w.heap.size → Z b) (hl : s.length ≤ 4398046511104) : Acts w Z A s :=
  ⟨h.row.rd.mono (fun b hb e => hz b (h.row.lt b e).1 hb), fun v hv => (h.ok v hv).mono (fun _ _ h => h.1), hl⟩
theorem push {w4 : World} {A4 : Option Addr} {c4 : Nat} {v : AV} (h : ActRow w base Z A c s) (hv : v.ok w (fun b => Z b ∧ ablk A ≠ some b))
    (hrow : Row w4 base 57 11 A4 (s.length + 1) c4 (s.flatMap AV.cells ++ v.cells)) (hg : (w.alloc (.cells v.cells.toArray 57)).grownBy w4 (ablk A))
    (hat : ∀ g, ablk A4 = some g → ablk A = some g ∨ (w.alloc (.cells v.cells.toArray 57)).heap.size ≤ g) :
    ActRow w4 base Z A4 c4 (s ++ [v]) ∧ Fr (fun k => ablk A = some k) w w4 := by
  have fr4 := Fr.of_grown hg (S := fun k => ablk A = some k) (fun k _ e => e)
  have bl4 : Below w.heap.size w (w.alloc (.cells v.cells.toArray 57)) := (by repeat (first | exact Below.refl _ _ | refine Below.alloc ?_ (by simp) _ | refine Below.setCell ?_ (by simp) _ | refine Below.drew ?_))
  have fr5 : Fr (fun k => ablk A = some k) w w4 := (Fr.of_below bl4 _).trans fr4 (fun _ _ h => h)
  have hst : ∀ b, b < w.heap.size → ablk A ≠ some b → ablk A4 ≠ some b := fun b hb hn e => by
    rcases hat b e with h | h
    · exact hn h
    · simp at h; omega
  refine ⟨⟨?_, fun u hu => ?_⟩, fr5⟩
  · rw [List.length_append, List.flatMap_append, List.flatMap_cons, List.flatMap_nil, List.append_nil]
    exact hrow
  · have key : ∀ u : AV, u.ok w (fun b => Z b ∧ ablk A ≠ some b) → u.ok w4 (fun b => Z b ∧ ablk A4 ≠ some b) := fun u q =>
      ((q.mono (Z' := fun b => (Z b ∧ ablk A ≠ some b) ∧ b < w.heap.size) (fun b hb hz => ⟨hz, hb⟩)).fr fr5 (fun b _ hz e => hz.1.2 e)).mono (fun b _ hz => ⟨hz.1.1, hst b hz.2 hz.1.2⟩)
    rcases List.mem_append.1 hu with hu | hu
    · exact key u (h.ok u hu)
    · obtain rfl := List.mem_singleton.1 hu
      exact key u hv
end ActRow
theorem act_one1 (v : AV) : ∀ u ∈ v.cells, u.oneCell' = true := fun u hu => act_one [v] u (by simpa using hu)
end Go.Proofs.Ytpbgcbpofhbgbaa

/- The bytes of numbers and texts, as plain lists. -/
namespace Go.Proofs.Ytpbgcbpofhbgbaa
open Go.RowKit

def dg : Nat → Nat → List UInt8 → List UInt8
  | 0, _, acc => acc
  | f + 1, n, acc => if n = 0 then acc else dg f (n / 256) (UInt8.ofNat (n % 256) :: acc)
def digs (n : Nat) : List UInt8 := dg 8 n []
def numB (n : Nat) : List UInt8 := UInt8.ofNat (digs n).length :: digs n
def textB (l : List UInt8) : List UInt8 := numB l.length ++ l

theorem bv_ofNat {m : Nat} (h : m < 256) : bv (UInt8.ofNat m) = .int .u8 (m : Int) := by
  unfold bv
  rw [UInt8.toNat_ofNat']
  rw [Nat.mod_eq_of_lt h]

theorem dg_zero (f : Nat) (acc : List UInt8) : dg f 0 acc = acc := by cases f <;> simp [dg]
theorem dg_len : ∀ (f n : Nat) (acc : List UInt8), (dg f n acc).length ≤ f + acc.length
  | 0, _, acc => by simp [dg]
  | f + 1, n, acc => by
    unfold dg
    split
    · omega
    · have := dg_len f (n / 256) (UInt8.ofNat (n % 256) :: acc)
      simp only [List.length_cons] at this
      omega
theorem digs_len (n : Nat) : (digs n).length ≤ 8 := by have := dg_len 8 n []; simpa [digs] using this
theorem numB_len (n : Nat) : (numB n).length ≤ 9 := by simp only [numB, List.length_cons]; have := digs_len n; omega

theorem dg_app : ∀ (f n : Nat) (acc : List UInt8), dg f n acc = dg f n [] ++ acc
  | 0, _, acc => by simp [dg]
  | f + 1, n, acc => by
    unfold dg
    split
    · simp
    · rw [dg_app f (n / 256) (_ :: acc), dg_app f (n / 256) [_], List.append_assoc]
      rfl
/-- one digit more -/
theorem dg_fuel : ∀ (f n : Nat), n < 256 ^ f → ∀ k, dg (f + k) n [] = dg f n []
  | 0, n, h, k => by
    have : n = 0 := by simpa using h
    subst this
    rw [dg_zero, dg_zero]
  | f + 1, n, h, k => by
    rw [show f + 1 + k = (f + k) + 1 by omega]
    unfold dg
    split
    · rfl
    · have h' : n / 256 < 256 ^ f := by
        rw [Nat.div_lt_iff_lt_mul (by omega)]
        rw [Nat.pow_succ] at h
        exact h
      rw [dg_app (f + k), dg_app f, dg_fuel f _ h' k]
theorem digs_step {n : Nat} (h0 : 0 < n) (h : n < 18446744073709551616) : digs n = digs (n / 256) ++ [UInt8.ofNat (n % 256)] := by
  have e : dg 8 n [] = dg 7 (n / 256) [UInt8.ofNat (n % 256)] := by
    conv => lhs; unfold dg
    rw [if_neg (by omega)]
  have h' : n / 256 < 256 ^ 7 := by omega
  unfold digs
  rw [e, dg_app, dg_fuel 7 (n / 256) h' 1]
theorem digs_zero : digs 0 = [] := dg_zero 8 []
theorem digs_lt {n : Nat} (k : Nat) (hk : k ≤ 8) (h : n < 256 ^ k) : (digs n).length ≤ k := by
  unfold digs
  have := dg_fuel k n h (8 - k)
  rw [show k + (8 - k) = 8 by omega] at this
  rw [this]
  simpa using dg_len k n []

theorem pow_le8 {f : Nat} (h : f ≤ 8) : 256 ^ f ≤ 18446744073709551616 := Nat.le_trans (Nat.pow_le_pow_right (by decide) h) (by decide)
theorem dg_cons {f m : Nat} (h0 : 0 < m) (acc : List UInt8) : dg (f + 1) m acc = dg f (m / 256) (UInt8.ofNat (m % 256) :: acc) := by
  conv => lhs; unfold dg
  rw [if_neg (by omega)]

theorem digs_range : ∀ (k n : Nat), k ≤ 8 → n < 256 ^ k → n < 256 ^ (digs n).length ∧ (0 < n → 256 ^ ((digs n).length - 1) ≤ n ∧ 0 < (digs n).length)
  | 0, n, _, h => by
    have : n = 0 := by simpa using h
    subst this
    rw [digs_zero]
    simp
  | k + 1, n, hk, h => by
    rcases Nat.eq_zero_or_pos n with h0 | h0
    · subst h0
      rw [digs_zero]
      simp
    · have h64 : n < 18446744073709551616 := Nat.lt_of_lt_of_le h (pow_le8 hk)
      have h' : n / 256 < 256 ^ k := by
        rw [Nat.div_lt_iff_lt_mul (by omega)]
        rw [Nat.pow_succ] at h
        exact h
      obtain ⟨i1, i2⟩ := digs_range k (n / 256) (by omega) h'
      rw [digs_step h0 h64, List.length_append, List.length_singleton, Nat.add_sub_cancel]
      refine ⟨?_, fun _ => ⟨?_, by omega⟩⟩
      · rw [Nat.pow_succ]; omega
      · rcases Nat.eq_zero_or_pos (n / 256) with h1 | h1
        · rw [h1, digs_zero]; simp; omega
        · obtain ⟨j1, j2⟩ := i2 h1
          obtain ⟨m, hm⟩ : ∃ m, (digs (n / 256)).length = m + 1 := ⟨_, (Nat.succ_pred_eq_of_pos j2).symm⟩
          rw [hm] at j1 ⊢
          rw [Nat.add_sub_cancel] at j1
          rw [Nat.pow_succ]
          omega

theorem bitAux_range : ∀ (f n : Nat), n < 2 ^ f → n < 2 ^ Lib.bitLenAux f n ∧ (0 < n → 2 ^ (Lib.bitLenAux f n - 1) ≤ n) ∧ Lib.bitLenAux f n ≤ f
  | 0, n, h => by
    have : n = 0 := by simpa using h
    subst this
    simp [Lib.bitLenAux]
  | f + 1, n, h => by
    unfold Lib.bitLenAux
    split
    · rename_i h0; subst h0; simp
    · rename_i h0
      have h' : n / 2 < 2 ^ f := by rw [Nat.pow_succ] at h; omega
      obtain ⟨i1, i2, i3⟩ := bitAux_range f (n / 2) h'
      refine ⟨by rw [Nat.add_comm, Nat.pow_succ]; omega, fun _ => ?_, by omega⟩
      rw [Nat.add_sub_cancel_left]
      rcases Nat.eq_zero_or_pos (n / 2) with h1 | h1
      · rw [h1]
        have : Lib.bitLenAux f 0 = 0 := by cases f <;> simp [Lib.bitLenAux]
        rw [this]
        simp; omega
      · have j := i2 h1
        have hb : 0 < Lib.bitLenAux f (n / 2) := by
          rcases Nat.eq_zero_or_pos (Lib.bitLenAux f (n / 2)) with hz | hz
          · rw [hz] at i1; simp at i1; omega
          · exact hz
        obtain ⟨m, hm⟩ : ∃ m, Lib.bitLenAux f (n / 2) = m + 1 := ⟨_, (Nat.succ_pred_eq_of_pos hb).symm⟩
        rw [hm] at j ⊢
        rw [Nat.add_sub_cancel] at j
        rw [Nat.pow_succ]
        omega

theorem bitLen_le {n : Nat} (h : n < 18446744073709551616) : Lib.bitLen n ≤ 64 := (bitAux_range 64 n h).2.2
theorem bitLen_wd {n : Nat} (h : n < 18446744073709551616) : (Lib.bitLen n + 7) / 8 = (digs n).length := by
  obtain ⟨a1, a2, a3⟩ := bitAux_range 64 n h
  obtain ⟨b1, b2⟩ := digs_range 8 n (by omega) h
  rcases Nat.eq_zero_or_pos n with h0 | h0
  · subst h0
    rw [digs_zero]
    decide
  · have a4 := a2 h0
    obtain ⟨b3, b4⟩ := b2 h0
    have p1 : ∀ k : Nat, 256 ^ k = 2 ^ (8 * k) := fun k => by rw [Nat.pow_mul]
    rw [p1] at b1 b3
    unfold Lib.bitLen
    generalize Lib.bitLenAux 64 n = b at *
    generalize (digs n).length = d at *
    have c1 : 8 * (d - 1) < b := (Nat.pow_lt_pow_iff_right (by decide : 1 < 2)).1 (Nat.lt_of_le_of_lt b3 a1)
    have c2 : b - 1 < 8 * d := (Nat.pow_lt_pow_iff_right (by decide : 1 < 2)).1 (Nat.lt_of_le_of_lt a4 b1)
    omega

theorem digs_get : ∀ (k n i : Nat), n < 18446744073709551616 → k + 1 + i = (digs n).length → (digs n).getD i 0 = UInt8.ofNat (n / 256 ^ k % 256)
  | k, n, i, h, hk => by
    have h0 : 0 < n := by
      rcases Nat.eq_zero_or_pos n with h0 | h0
      · subst h0; rw [digs_zero] at hk; simp at hk
      · exact h0
    rw [digs_step h0 h, List.length_append, List.length_singleton] at hk
    rw [digs_step h0 h]
    rcases k with _ | k
    · rw [List.getD_eq_getElem?_getD, List.getElem?_append_right (by omega), show i - (digs (n / 256)).length = 0 by omega]
      simp
    · rw [List.getD_eq_getElem?_getD, List.getElem?_append_left (by omega), ← List.getD_eq_getElem?_getD, digs_get k (n / 256) i (by omega) (by omega), Nat.div_div_eq_div_mul, Nat.pow_succ', ]

theorem bv_digit {n k i : Nat} (hn : n < 18446744073709551616) (hk : k + 1 + i = (digs n).length) :
    bv ((digs n).getD i 0) = .int .u8 (IntKind.u8.wrap ((n : Int) / 2 ^ min (8 * (k : Int)).toNat 64)) := by
  have h8 := digs_len n
  rw [digs_get k n i hn hk, bv_ofNat (by omega), IntKind.wrap_u8]
  have e : min (8 * (k : Int)).toNat 64 = 8 * k := by omega
  rw [e]
  have : ((n / 256 ^ k % 256 : Nat) : Int) = (n : Int) / (2 : Int) ^ (8 * k) % 256 := by
    rw [show (256 : Nat) ^ k = 2 ^ (8 * k) by rw [Nat.pow_mul]]
    simp
  rw [← this]
end Go.Proofs.Ytpbgcbpofhbgbaa

/- Reading numbers, as a plain function. -/
namespace Go.Proofs.Ytpbgcbpofhbgbaa
open Go.RowKit

/-- the number of bytes, highest first -/
def val (l : List UInt8) : Nat := l.foldl (fun n d => n * 256 + d.toNat) 0
/-- behind a failure -/
def failS (l : List UInt8) (f code : Int) : List UInt8 × Int := if f = 0 ∧ code ≠ 0 then ([], code) else (l, f)
/-- a number is read: the number, what is left, the fault -/
def readS (l : List UInt8) (f : Int) (most : Nat) : Nat × List UInt8 × Int :=
  if f ≠ 0 then (0, l, f)
  else match l with
    | [] => (0, [], 11)
    | c :: r =>
      if 8 < c.toNat then (0, [], 10)
      else if r.length < c.toNat then (0, [], 11)
      else if 0 < c.toNat ∧ r.getD 0 0 = 0 then (0, [], 10)
      else if most < val (r.take c.toNat) then (0, [], 13)
      else (val (r.take c.toNat), r.drop c.toNat, 0)

theorem val_snoc (l : List UInt8) (d : UInt8) : val (l ++ [d]) = val l * 256 + d.toNat := by unfold val; rw [List.foldl_append]; rfl
theorem val_aux : ∀ (l : List UInt8) (n : Nat), l.foldl (fun n d => n * 256 + d.toNat) n < (n + 1) * 256 ^ l.length
  | [], n => by simp
  | d :: l, n => by
    have h := val_aux l (n * 256 + d.toNat)
    have hd := d.toNat_lt
    rw [List.foldl_cons, List.length_cons, Nat.pow_succ]
    refine Nat.lt_of_lt_of_le h ?_
    rw [Nat.mul_comm (256 ^ l.length) 256, ← Nat.mul_assoc]
    exact Nat.mul_le_mul_right _ (by omega)
theorem val_lt (l : List UInt8) : val l < 256 ^ l.length := by simpa [val] using val_aux l 0
theorem val_lt64 {l : List UInt8} (h : l.length ≤ 8) : val l < 18446744073709551616 := Nat.lt_of_lt_of_le (val_lt l) (pow_le8 h)
theorem val_take {l : List UInt8} {i : Nat} (hi : i < l.length) : val (l.take (i + 1)) = val (l.take i) * 256 + (l.getD i 0).toNat := by
  rw [List.take_succ_eq_append_getElem hi, val_snoc, List.getD_eq_getElem?_getD, List.getElem?_eq_getElem hi]
  rfl
theorem or_byte {n : Nat} {d : UInt8} (h : n < 256 ^ 7) : bits .or .u64 ((n : Int) * 256) (d.toNat : Int) = ((n * 256 + d.toNat : Nat) : Int) := by
  have hd := d.toNat_lt
  rw [u64_or _ _ (by omega) (by omega) (by omega) (by omega)]
  have e : ((n : Int) * 256).toNat = n * 256 := by omega
  rw [e, Int.toNat_natCast, nat_join 8 (n * 256) d.toNat (by omega) (by omega)]
end Go.Proofs.Ytpbgcbpofhbgbaa

/- tenderref01: Num, Text, Same. -/
namespace Go.Proofs.Ytpbgcbpofhbgbaa
open Go.RowKit

set_option maxHeartbeats 400000 in
theorem refNum_any (n : Nat) (w : World) (hn : n < 18446744073709551616) :
    Calls Try.prog 96 #[.int .u64 n] w fun e w' => ∃ v, e = .returned v ∧ OwB w' w.heap.size v (numB n) ∧ Below w.heap.size w w' := by
  obtain ⟨i0, hi0, hz0, hz1, hz2⟩ := info_parts u8_info
  go_enter Try.func96, Try.ntmps96
  go_wp2
  go_loopw [0, 3] (fun nv dv wr => ∃ (m f : Nat) (acc : List UInt8), m < 256 ^ f ∧ nv = .int .u64 (m : Int) ∧ OwB wr w.heap.size dv acc ∧ acc.length + f = 8 ∧ Hid (dg f m acc = digs n) ∧ Below w.heap.size w wr) (fun nv _ _ => (intOf nv).toNat)
  case atStart => exact ⟨n, 8, [], hn, rfl, World.ownsRow_nil _ _ _ _, rfl, rfl, Below.refl _ _⟩
  case round =>
    obtain ⟨m, f, acc, hm, rfl, hd, hf, hdg, hb⟩ := hrel
    obtain ⟨A, c, rfl, hc, hcm, hA⟩ := hd.form
    have hsz := hb.size
    by_cases h0 : 0 < m
    · have hr := hd.rd
      have hm64 : m < 18446744073709551616 := Nat.lt_of_lt_of_le hm (pow_le8 (by omega))
      obtain ⟨f, rfl⟩ : ∃ k, f = k + 1 := by
        rcases f with _ | k
        · simp at hm; omega
        · exact ⟨k, rfl⟩
      go_wp2_with (at_builtin; refine wpList_append_by rfl (.tmp 9) (.tmp 10) rfl (v := .slice (some ⟨wr.heap.size, 0, none⟩) 1 1) rfl (OwB.lit1 wr (b := UInt8.ofNat (m % 256)) (by rw [bv_ofNat (by omega)]; rfl) hsz) rfl (hr.alloc _) (by simp; omega) (by simp; omega) ?_; intro L1 A1 c1 w1 hL1 hown hg hat)
      go_roundw
      case rel => 
        have hL : L1 = UInt8.ofNat (m % 256) :: acc := hL1.out
        subst hL
        refine ⟨m / 256, f, UInt8.ofNat (m % 256) :: acc, ?_, rfl, hown, ?_, ?_, ?_⟩
        · rw [Nat.div_lt_iff_lt_mul (by omega)]; rw [Nat.pow_succ] at hm; exact hm
        · simp; omega
        · rw [← dg_cons h0]; exact hdg
        · exact ((hb.alloc hsz _).grown hg (by simp; omega) (by simp [Value.ownBlock]; omega))
      case measure => simp [intOf]; omega
    · have e0 : m = 0 := by omega
      subst e0
      have hr := hd.rd
      rw [dg_zero] at hdg
      have hl := digs_len n
      go_wp2_with (at_builtin; refine wpList_append_by rfl (.tmp 17) (.tmp 18) rfl (v := .slice (some ⟨wr.heap.size, 0, none⟩) 1 1) rfl (OwB.lit1 wr (b := UInt8.ofNat acc.length) (by rw [bv_ofNat (by omega)]) hsz) rfl (hr.alloc _) (by simp; omega) (by simp; omega) ?_; intro L1 A1 c1 w1 hL1 hown hg hat)
      go_ret
      refine ⟨_, rfl, ?_, ?_⟩
      · have hL : L1 = UInt8.ofNat acc.length :: acc := hL1.out
        subst hL
        unfold numB; rw [← hdg.out]; exact hown
      · exact ((hb.alloc hsz _).grown hg (by simp; omega) (by simp [Value.ownBlock]; omega))

set_option maxHeartbeats 400000 in
theorem refText_any (A : Option Addr) (c : Nat) (l : List UInt8) (Z : Nat → Prop) (w : World) (hl : By w Z A l) (hn : l.length ≤ 70368744177664) :
    Calls Try.prog 97 #[.slice A l.length c] w fun e w' => ∃ v, e = .returned v ∧ OwB w' w.heap.size v (textB l) ∧ Below w.heap.size w w' := by
  have hL := numB_len l.length
  go_enter Try.func97, Try.ntmps97
  go_wp2_with fail
  refine (refNum_any l.length _ (by omega)).mono ?_
  rintro e w1 ⟨v1, rfl, h1, hb1⟩
  obtain ⟨A0, c0, rfl, hc0, hcm0, hA0⟩ := h1.form
  have hs1 := hb1.size
  go_wp2_with (at_builtin; refine wpList_append_by rfl (.tmp 6) (.tmp 7) rfl (v := .slice A0 (numB l.length).length c0) rfl h1 rfl (hl.below hb1) (by omega) hb1.size ?_; intro L2 A2 c2 w2 hL2 hown hg hat)
  go_ret
  have hL : L2 = textB l := hL2.out
  subst hL
  exact ⟨_, rfl, hown, hb1.grown hg hs1 (fun k hk => (h1.lt k hk).1)⟩

set_option maxHeartbeats 400000 in
theorem refSame_any (A B : Option Addr) (c d : Nat) (l m : List UInt8) (Z Z' : Nat → Prop) (w : World) (hl : By w Z A l) (hm : By w Z' B m) :
    Calls Try.prog 14 #[.slice A l.length c, .slice B m.length d] w fun e w' => e = .returned (.bool (l == m)) ∧ w = w' := by
  have k1 := conv_by hl c
  have k2 := conv_by hm d
  go_enter Try.func14, Try.ntmps14
  go_wp2
  go_ret
  exact ⟨rfl, rfl⟩
end Go.Proofs.Ytpbgcbpofhbgbaa

/- grain.Pen: num, Num, Truth, Text, Bytes. -/
namespace Go.Proofs.Ytpbgcbpofhbgbaa
open Go.RowKit

/-- The pen at block pb has the buffer v, which reads as l. -/
structure Pen (w : World) (base pb : Nat) (v : Value) (l : List UInt8) : Prop where
  blk : Blk w pb 113 #[v]
  own : OwB w base v l

/-- What a pen's method leaves: the pen has l', and only the pen and its buffer have turned. -/
structure PenTo (w : World) (base pb : Nat) (v : Value) (l' : List UInt8) (w' : World) (v' : Value) : Prop where
  pen : Pen w' base pb v' l'
  fr : Fr (fun k => k = pb ∨ v.ownBlock = some k) w w'
  at_ : v'.ownBlock = v.ownBlock ∨ ∃ g, v'.ownBlock = some g ∧ w.heap.size ≤ g

theorem Pen.cell {w : World} {base pb : Nat} {v : Value} {l : List UInt8} (h : Pen w base pb v l) : w.cell? ⟨pb, 0, none⟩ = some v := h.blk.cell 0
theorem Pen.frozen {w : World} {base pb : Nat} {v : Value} {l : List UInt8} (h : Pen w base pb v l) : w.frozen? ⟨pb, 0, none⟩ = false := h.blk.frozen 0
theorem Pen.ne {w : World} {base pb : Nat} {v : Value} {l : List UInt8} (h : Pen w base pb v l) : v.ownBlock ≠ some pb := h.blk.own_ne h.own (by decide)
theorem Pen.alloc {w : World} {base pb : Nat} {v : Value} {l : List UInt8} (h : Pen w base pb v l) (o : Obj) : Pen (w.alloc o) base pb v l := ⟨h.blk.alloc o, h.own.alloc o⟩
theorem Pen.below {w w' : World} {base pb : Nat} {v : Value} {l : List UInt8} (h : Pen w base pb v l) (k : Below w.heap.size w w') : Pen w' base pb v l := ⟨h.blk.below k, h.own.below k⟩
theorem PenTo.refl {w : World} {base pb : Nat} {v : Value} {l : List UInt8} (h : Pen w base pb v l) : PenTo w base pb v l w v := ⟨h, Fr.refl _ _, .inl rfl⟩
theorem PenTo.trans {a b c : World} {base pb : Nat} {v v' v'' : Value} {l l' : List UInt8} (h : PenTo a base pb v l b v') (k : PenTo b base pb v' l' c v'') : PenTo a base pb v l' c v'' := by
  refine ⟨k.pen, h.fr.trans k.fr ?_, ?_⟩
  · intro x hx hS
    rcases hS with hS | hS
    · exact .inl hS
    · rcases h.at_ with e | ⟨g, e, hg⟩
      · exact .inr (by rw [← e]; exact hS)
      · rw [e] at hS
        injection hS with hS
        omega
  · rcases k.at_ with e | ⟨g, e, hg⟩
    · rw [e]; exact h.at_
    · exact .inr ⟨g, e, by have := h.fr.size; omega⟩
/-- new memory ahead of a pen's method -/
theorem PenTo.after {a b c : World} {base pb : Nat} {v v' : Value} {l l' : List UInt8} (h : Pen a base pb v l) (k : Below a.heap.size a b) (h' : PenTo b base pb v l' c v') : PenTo a base pb v l' c v' :=
  (⟨h.below k, Fr.of_below k _, .inl rfl⟩ : PenTo a base pb v l b v).trans h'
/-- the step of all: append onto the buffer, store it back -/
theorem PenTo.stored {a b c : World} {base pb : Nat} {v v' : Value} {l l' : List UInt8} (h : Pen a base pb v l) (k : Below a.heap.size a b) (hown : OwB c base v' l') (hg : b.grownBy c v.ownBlock) (hat : v'.ownBlock = v.ownBlock ∨ v'.ownBlock = some b.heap.size) :
    PenTo a base pb v l' (c.setCell ⟨pb, 0, none⟩ v') v' := by
  have hpb := h.blk.lt
  have hb : Pen b base pb v l := h.below k
  have hblk : Blk c pb 113 #[v] := hb.blk.grown hg hb.ne
  have hne : v'.ownBlock ≠ some pb := hblk.own_ne hown (by decide)
  have f1 : Fr (fun x => x = pb ∨ v.ownBlock = some x) a c := (Fr.of_below k _).trans (Fr.of_grown hg (S := fun x => v.ownBlock = some x) (fun _ _ e => e)) (fun x _ e => .inr e)
  refine ⟨⟨?_, ?_⟩, f1.setCell (fun _ => .inl rfl) _, ?_⟩
  · have := hblk.set_ 0 v'
    simpa using this
  · exact own_fr hown (S := fun x => x = pb) ((Fr.refl (fun x => x = pb) c).setCell (p := ⟨pb, 0, none⟩) (fun _ => rfl) v') (fun g hg' e => hne (by rw [hg', e]))
  · rcases hat with e | e
    · exact .inl e
    · exact .inr ⟨_, e, k.size⟩

theorem hid_take0 {L a d : List UInt8} (h : L = a) : Hid (L = a ++ d.take 0) := by rw [List.take_zero, List.append_nil]; exact h

theorem hid_take {L L' a d : List UInt8} {i : Nat} (h : L = a ++ d.take i) (h' : L' = L ++ [d.getD i 0]) (hi : i < d.length) : Hid (L' = a ++ d.take (i + 1)) := by
  show L' = a ++ d.take (i + 1)
  rw [h', h, List.append_assoc, List.take_succ_eq_append_getElem hi, List.getD_eq_getElem?_getD, List.getElem?_eq_getElem hi]
  rfl

theorem len64_any (n : Nat) (w : World) (hn : n < 18446744073709551616) :
    Calls Try.prog 99 #[.int .u64 n] w fun e w' => ∃ b : Nat, e = .returned (.int .i64 b) ∧ b ≤ 64 ∧ (b + 7) / 8 = (digs n).length ∧ w = w' := by
  refine (Try.bits_Len64 _ _ (by omega) (by omega)).mono ?_
  rintro e w' ⟨rfl, hw⟩
  exact ⟨_, rfl, bitLen_le (by simpa using hn), bitLen_wd (by simpa using hn), hw.symm⟩

set_option maxHeartbeats 400000 in
theorem num_any (base pb : Nat) (v : Value) (l : List UInt8) (n : Nat) (w : World) (hp : Pen w base pb v l) (hbase : base ≤ w.heap.size) (hn : n < 18446744073709551616) (hlen : l.length + 9 ≤ 140737488355328) :
    Calls Try.prog 95 #[.pointer (some ⟨pb, 0, none⟩), .int .u64 n] w fun e w' => e = .returned (.tuple #[]) ∧ ∃ v', PenTo w base pb v (l ++ numB n) w' v' := by
  have hc := hp.cell
  have hf := hp.frozen
  have hpb := hp.blk.lt
  obtain ⟨A, c, rfl, hlc, hcm, hA⟩ := hp.own.form
  go_enter Try.func95, Try.ntmps95
  go_wp2_with fail
  refine (len64_any _ _ hn).mono ?_
  rintro e w' ⟨b, rfl, hb, hw, rfl⟩
  have Hw := Lib.hid hw
  clear hw
  go_wp2_with (at_builtin; refine wpList_append_by rfl (.tmp 14) (.tmp 17) rfl (v := .slice A l.length c) rfl (hp.own.alloc _) rfl (OwB.lit1 w (base := 0) (b := UInt8.ofNat ((b + 7) / 8)) (by rw [bv_ofNat (by omega)]; rfl) (by omega)).rd (by simp; omega) (by simp; omega) ?_; intro L1 A1 c1 w1 hL1 hown hg hat; have hst := PenTo.stored hp ((Below.refl _ _).alloc (Nat.le_refl _) _) hown hg hat; have hc1 : w1.cell? ⟨pb, 0, none⟩ = some (.slice A l.length c) := ((hp.alloc _).blk.grown hg hp.ne).cell 0; have hf1 : w1.frozen? ⟨pb, 0, none⟩ = false := ((hp.alloc _).blk.grown hg hp.ne).frozen 0)
  rw [show ((b : Int) + 7) / 8 = ((digs n).length : Int) by rw [← Hw.out]; omega]
  rw [Hw.out] at hL1
  have hd8 := digs_len n
  generalize w1.setCell ⟨pb, 0, none⟩ (.slice A1 L1.length c1) = w2 at hst ⊢
  clear hown hg hat hc1 hf1
  have HP := Lib.hid hp
  clear hp hc hf hA
  go_loopw [22] (fun iv wr => ∃ (i : Nat) (Li : List UInt8) (Ai : Option Addr) (ci : Nat), i ≤ (digs n).length ∧ iv = .int .i64 (i : Int) ∧ PenTo w base pb (.slice A l.length c) Li wr (.slice Ai Li.length ci) ∧ Hid (Li = (l ++ [UInt8.ofNat (digs n).length]) ++ (digs n).take i)) (fun iv _ => (digs n).length - (intOf iv).toNat)
  case atStart => exact ⟨0, L1, A1, c1, Nat.zero_le _, rfl, hst, hid_take0 hL1.out⟩
  case round =>
    obtain ⟨i, Li, Ai, ci, hi, rfl, hpi, hLi⟩ := hrel
    clear hst
    have hc1 := hpi.pen.cell
    have hf1 := hpi.pen.frozen
    have hsz := hpi.fr.size
    have hpr := hpi.pen.blk.lt
    by_cases hlt : i < (digs n).length
    · go_wp2_with fail
      obtain ⟨k, hk⟩ : ∃ k : Nat, k + 1 + i = (digs n).length := ⟨(digs n).length - 1 - i, by omega⟩
      have w1' : IntKind.i64.wrap (((digs n).length : Int) - 1) = ((digs n).length : Int) - 1 := IntWalk.i64_in _ (by omega)
      have w2' : IntKind.i64.wrap (((digs n).length : Int) - 1 - i) = (k : Int) := by rw [show ((digs n).length : Int) - 1 - i = (k : Int) by omega]; exact IntWalk.i64_in _ (by omega)
      have w3' : IntKind.i64.wrap (8 * (k : Int)) = 8 * (k : Int) := IntWalk.i64_in _ (by omega)
      have w4' : 0 ≤ 8 * (k : Int) := by omega
      have Hk := Lib.hid hk
      clear hk
      have hll : Li.length = (l.length + 1) + i := by rw [hLi.out]; simp; omega
      have Hll := Lib.hid hll
      clear hll
      go_region_law (refine step_append_by rfl (.tmp 29) (.tmp 38) rfl (v := .slice Ai Li.length ci) rfl (hpi.pen.own.alloc _) rfl (OwB.lit1 wr (base := 0) (b := (digs n).getD i 0) (bv_digit hn Hk.out) (by omega)).rd (by have := Hll.out; simp; omega) (by simp; omega) ?_; intro L3 A3 c3 w3 hL3 hown3 hg3 hat3; have hblk3 := (hpi.pen.alloc _).blk.drew.grown hg3 hpi.pen.ne; have hc3 : w3.cell? ⟨pb, 0, none⟩ = some (.slice Ai Li.length ci) := hblk3.cell 0; have hf3 : w3.frozen? ⟨pb, 0, none⟩ = false := hblk3.frozen 0)
      all_goals
        have hst3 := PenTo.stored hpi.pen ((Below.refl _ _).alloc (Nat.le_refl _) _).drew hown3 hg3 hat3
        go_wp2_with fail
        go_roundw
        case rel => exact ⟨i + 1, L3, A3, c3, hlt, by go_num, hpi.trans hst3, hid_take hLi.out hL3.out hlt⟩
        case measure => simp [intOf]; omega
    · have e : i = (digs n).length := by omega
      go_wp2_with fail
      go_end0
      subst e
      refine ⟨rfl, .slice Ai Li.length ci, ?_⟩
      have hL : Li = l ++ numB n := by rw [hLi.out, List.take_length]; simp [numB]
      rw [← hL]
      exact hpi
end Go.Proofs.Ytpbgcbpofhbgbaa

/- grain.Pen: Num, Truth, Text, Bytes; bytes.Clone. -/
namespace Go.Proofs.Ytpbgcbpofhbgbaa
open Go.RowKit

theorem flat_take {α : Type} {f : α → List UInt8} {L l : List UInt8} {ns : List α} {i : Nat} (hi : i < ns.length) (h : L = l ++ (ns.take i).flatMap f) : L ++ f ns[i] = l ++ (ns.take (i + 1)).flatMap f := by
  rw [h, List.take_succ_eq_append_getElem hi, List.flatMap_append, List.append_assoc]
  simp
theorem flat9 : ∀ (ns : List Nat), (ns.flatMap numB).length ≤ 9 * ns.length
  | [] => by simp
  | n :: ns => by
    have h1 := numB_len n
    have h2 := flat9 ns
    simp only [List.flatMap_cons, List.length_append, List.length_cons]
    omega
theorem flat9t (ns : List Nat) (i : Nat) : ((ns.take i).flatMap numB).length ≤ 9 * i := by
  have h := flat9 (ns.take i)
  have h2 := List.length_take_le i ns
  omega

set_option maxHeartbeats 400000 in
theorem Num_any (base pb : Nat) (v : Value) (l : List UInt8) (A : Option Addr) (c : Nat) (ns : List Nat) (Z : Nat → Prop) (w : World) (hp : Pen w base pb v l) (hr : Rd w Z 1 A ns.length (ns.map u64v))
    (hZ : ∀ b, b < w.heap.size → Z b → ¬ (b = pb ∨ v.ownBlock = some b)) (hn : ∀ n ∈ ns, n < 18446744073709551616) (hbase : base ≤ w.heap.size) (hlen : l.length + 9 * ns.length ≤ 140737488355328) :
    Calls Try.prog 71 #[.pointer (some ⟨pb, 0, none⟩), .slice A ns.length c] w fun e w' => e = .returned (.tuple #[]) ∧ ∃ v', PenTo w base pb v (l ++ ns.flatMap numB) w' v' := by
  go_enter Try.func71, Try.ntmps71
  go_wp2_with fail
  go_loopw [10] (fun iv wr => ∃ (i : Nat) (Li : List UInt8) (v' : Value), i ≤ ns.length ∧ iv = .int .i64 (i : Int) ∧ PenTo w base pb v Li wr v' ∧ Hid (Li = l ++ (ns.take i).flatMap numB)) (fun iv _ => ns.length - (intOf iv).toNat)
  case atStart => exact ⟨0, l, v, Nat.zero_le _, rfl, PenTo.refl hp, by show l = _; simp⟩
  case round =>
    obtain ⟨i, Li, v', hi, rfl, hpi, hLi⟩ := hrel
    have hsz := hpi.fr.size
    by_cases hlt : i < ns.length
    · obtain ⟨b, off, rfl, _, _, hc⟩ := (hr.fr hpi.fr hZ).atm hlt
      have hx := hn _ (List.getElem_mem hlt)
      have hll : Li.length ≤ l.length + 9 * i := by rw [hLi.out, List.length_append]; have := flat9t ns i; omega
      have hLn := flat_take hlt hLi.out
      have HLn := Lib.hid hLn
      clear hLn
      generalize ns[i] = x at hc hx HLn
      unfold u64v at hc
      go_wp2_with (go_at_call 95; refine (num_any base pb v' Li x _ hpi.pen (by omega) hx (by omega)).mono ?_; rintro e w1 ⟨rfl, v1, h1⟩)
      go_roundw
      case rel => exact ⟨i + 1, _, v1, hlt, by go_num, hpi.trans h1, HLn⟩
      case measure => simp [intOf]; omega
    · have e : i = ns.length := by omega
      go_wp2_with fail
      go_end0
      subst e
      refine ⟨rfl, v', ?_⟩
      have hL : Li = l ++ ns.flatMap numB := by rw [hLi.out, List.take_length]
      rw [← hL]
      exact hpi

set_option maxHeartbeats 400000 in
theorem Num_nil (A : Option Addr) (n c : Nat) (w : World) : Calls Try.prog 71 #[.pointer none, .slice A n c] w fun e w' => e = .returned (.tuple #[]) ∧ w = w' := by
  go_enter Try.func71, Try.ntmps71
  go_wp2_with fail
  refine bodyPost_ret (results_none rfl _ _ _) rfl ?_
  exact ⟨rfl, rfl⟩

set_option maxHeartbeats 400000 in
theorem Bytes_any (base pb : Nat) (v : Value) (l : List UInt8) (w : World) (hp : Pen w base pb v l) (hlen : l.length ≤ 140737488355328) :
    Calls Try.prog 73 #[.pointer (some ⟨pb, 0, none⟩)] w fun e w' => ∃ (A' : Option Addr) (c' : Nat) (l' : List UInt8), e = .returned (.slice A' l'.length c') ∧ Hid (l' = l) ∧ OwB w' w.heap.size (.slice A' l'.length c') l' ∧ Below w.heap.size w w' := by
  have hc := hp.cell
  obtain ⟨A, c, rfl, hlc, hcm, hA⟩ := hp.own.form
  go_enter Try.func73, Try.ntmps73
  go_wp2_with fail
  refine (clone_any A c l _ _ hp.own.rd hlen).mono ?_
  rintro e w1 ⟨A', c', l', rfl, hx, ho, hb⟩
  go_wp2_with fail
  go_ret
  exact ⟨A', c', l', rfl, hx, ho, hb⟩

set_option maxHeartbeats 400000 in
theorem Bytes_nil (w : World) : Calls Try.prog 73 #[.pointer none] w fun e w' => e = .returned (.slice none 0 0) ∧ w = w' := by
  go_enter Try.func73, Try.ntmps73
  go_wp2_with fail
  go_ret
  exact ⟨rfl, rfl⟩

end Go.Proofs.Ytpbgcbpofhbgbaa
