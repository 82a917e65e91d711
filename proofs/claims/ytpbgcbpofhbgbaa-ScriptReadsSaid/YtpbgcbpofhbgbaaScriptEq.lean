/- Two acts the same? slices.Equal of what crashes keep and of choices; script.Same. -/
import Derived.Test.YtpbgcbpofhbgbaaScriptAct
import Derived.Laws.StructEq
namespace Go.Proofs.Ytpbgcbpofhbgbaa
open Go.RowKit

def eqL {α : Type} (e : α → α → Bool) : List α → List α → Bool
  | [], [] => true
  | a :: l, b :: m => e a b && eqL e l m
  | [], _ :: _ => false
  | _ :: _, [] => false
theorem eqL_refl {α : Type} {e : α → α → Bool} (h : ∀ a, e a a = true) : ∀ l, eqL e l l = true
  | [] => rfl
  | a :: l => by rw [eqL, h a, eqL_refl h l]; rfl
theorem eqL_len {α : Type} {e : α → α → Bool} : ∀ (l m : List α), l.length ≠ m.length → eqL e l m = false
  | [], [], h => by simp at h
  | [], _ :: _, _ => rfl
  | _ :: _, [], _ => rfl
  | a :: l, b :: m, h => by rw [eqL, eqL_len l m (by simpa using h), Bool.and_false]
theorem eqL_at {α : Type} {e : α → α → Bool} : ∀ (l m : List α) (i : Nat) (hi : i < l.length) (hj : i < m.length), e l[i] m[i] = false → eqL e l m = false
  | a :: l, b :: m, 0, _, _, h => by rw [eqL, show e a b = false from h]; rfl
  | a :: l, b :: m, i + 1, hi, hj, h => by rw [eqL, eqL_at l m i (by simpa using hi) (by simpa using hj) (by simpa using h), Bool.and_false]
theorem eqL_all {α : Type} {e : α → α → Bool} : ∀ (l m : List α), l.length = m.length → (∀ i (hi : i < l.length) (hj : i < m.length), e l[i] m[i] = true) → eqL e l m = true
  | [], [], _, _ => rfl
  | [], _ :: _, h, _ => by simp at h
  | _ :: _, [], h, _ => by simp at h
  | a :: l, b :: m, h, k => by
    rw [eqL, show e a b = true from k 0 (by simp) (by simp), eqL_all l m (by simpa using h) (fun i hi hj => k (i + 1) (by simpa using hi) (by simpa using hj))]
    rfl
def KV.e (a b : KV) : Bool := a.f == b.f && a.b == b.b
def HW.e (a b : HW) : Bool := a.p.toList == b.p.toList && a.w == b.w
theorem below_drewN (w : World) (n : Nat) : Below w.heap.size w (w.drewN n) := ⟨rfl, rfl, rfl, Nat.le_refl _, fun _ _ => rfl⟩
theorem two_fields {n1 n2 : String} {t1 t2 : TypeId} {o1 o2 : Nat} : ∀ (L : List Field), L.map (fun f => (f.name, f.type, f.offset)) = [(n1, t1, o1), (n2, t2, o2)] →
    ∃ f g, L = [f, g] ∧ f.name = n1 ∧ f.type = t1 ∧ f.offset = o1 ∧ g.name = n2 ∧ g.type = t2 ∧ g.offset = o2
  | [f, g], e => by
    simp only [List.map_cons, List.map_nil, List.cons.injEq, Prod.mk.injEq, and_true] at e
    exact ⟨f, g, rfl, e.1.1, e.1.2.1, e.1.2.2, e.2.1, e.2.2.1, e.2.2.2⟩
  | [], e => by simp at e
  | [_], e => by simp at e
  | _ :: _ :: _ :: _, e => by simp at e
theorem kv_refl (a : KV) : a.e a = true := by simp [KV.e]
theorem hw_refl (a : HW) : a.e a = true := by simp [HW.e]
theorem kv_at {w : World} {Z : Nat → Prop} {A : Option Addr} {l : List KV} {i : Nat} (h : Rd w Z 2 A l.length (l.flatMap KV.cells)) (hi : i < l.length) :
    ∃ b off, A = some ⟨b, off, none⟩ ∧ Z b ∧ b < w.heap.size ∧ w.cell? ⟨b, off + i * 2, none⟩ = some (.int .i64 l[i].f) ∧ w.cell? ⟨b, off + i * 2 + 1, none⟩ = some (.int .i64 l[i].b) := by
  obtain ⟨b, off, hA, hz, hb, hc⟩ := h.2 (by omega)
  have hg : ∀ j, j < 2 → (l.flatMap KV.cells)[i * 2 + j]? = (KV.cells l[i])[j]? := fun j hj => flat_get (k := 2) kv_len l i j hi hj
  refine ⟨b, off, hA, hz, hb, hc _ _ (hg 0 (by omega)), ?_⟩
  rw [Nat.add_assoc]
  exact hc _ _ (hg 1 (by omega))
theorem hw_at {w : World} {Z : Nat → Prop} {A : Option Addr} {l : List HW} {i : Nat} (h : Rd w Z 2 A l.length (l.flatMap HW.cells)) (hi : i < l.length) :
    ∃ b off, A = some ⟨b, off, none⟩ ∧ Z b ∧ b < w.heap.size ∧ w.cell? ⟨b, off + i * 2, none⟩ = some (.string l[i].p) ∧ w.cell? ⟨b, off + i * 2 + 1, none⟩ = some (.int .i64 l[i].w) := by
  obtain ⟨b, off, hA, hz, hb, hc⟩ := h.2 (by omega)
  have hg : ∀ j, j < 2 → (l.flatMap HW.cells)[i * 2 + j]? = (HW.cells l[i])[j]? := fun j hj => flat_get (k := 2) hw_len l i j hi hj
  refine ⟨b, off, hA, hz, hb, hc _ _ (hg 0 (by omega)), ?_⟩
  rw [Nat.add_assoc]
  exact hc _ _ (hg 1 (by omega))


theorem neqKV (x y : KV) (W : World) : (binOp .neq 91 (.agg #[.int .i64 x.f, .int .i64 x.b]) (.agg #[.int .i64 y.f, .int .i64 y.b])).run Try.prog W = .ok (.bool (!(x.f == y.f && x.b == y.b))) W := by
  rw [run_neq_struct, run_equalIn_struct _ _ _ _ _ (by kernel_rfl) (by kernel_rfl)]
  have e : (Try.prog.fieldsOf 91).toList.map (fun f => (f.name, f.type, f.offset)) = [("File", 3, 0), ("Bytes", 3, 1)] := by kernel_rfl
  obtain ⟨f, g, hL, e1, e2, e3, e4, e5, e6⟩ := two_fields _ e
  clear e
  rw [hL]
  simp [Op.eqFields, go_sem, e1, e2, e3, e4, e5, e6]
  grind
theorem gdKV (x y : Operand) (xs ys : Array Value) (W : World) : (eqGuard .neq 91 x y (.agg xs) (.agg ys)).run Try.prog W = .ok () W := run_eqGuard_agg W _ _ x y xs ys (by kernel_rfl)


theorem neqHW (x y : HW) (W : World) : (binOp .neq 95 (.agg #[.string x.p, .int .i64 x.w]) (.agg #[.string y.p, .int .i64 y.w])).run Try.prog W = .ok (.bool (!(x.p.toList == y.p.toList && x.w == y.w))) W := by
  rw [run_neq_struct, run_equalIn_struct _ _ _ _ _ (by kernel_rfl) (by kernel_rfl)]
  have e : (Try.prog.fieldsOf 95).toList.map (fun f => (f.name, f.type, f.offset)) = [("Path", 9, 0), ("Winner", 3, 1)] := by kernel_rfl
  obtain ⟨f, g, hL, e1, e2, e3, e4, e5, e6⟩ := two_fields _ e
  clear e
  rw [hL]
  simp [Op.eqFields, go_sem, e1, e2, e3, e4, e5, e6]
  grind
theorem gdHW (x y : Operand) (xs ys : Array Value) (W : World) : (eqGuard .neq 95 x y (.agg xs) (.agg ys)).run Try.prog W = .ok () W := run_eqGuard_agg W _ _ x y xs ys (by kernel_rfl)


set_option maxRecDepth 100000 in
set_option maxHeartbeats 400000 in
theorem eqKV_any (A B : Option Addr) (c d : Nat) (l m : List KV) (Z Z' : Nat → Prop) (w : World) (hl : Rd w Z 2 A l.length (l.flatMap KV.cells)) (hm : Rd w Z' 2 B m.length (m.flatMap KV.cells)) (hn : l.length ≤ 140737488355328) (hn' : m.length ≤ 140737488355328) :
    Calls Try.prog 76 #[.slice A l.length c, .slice B m.length d] w fun e w' => e = .returned (.bool (eqL KV.e l m)) ∧ Below w.heap.size w w' := by
  obtain ⟨M, hM⟩ : ∃ M, M = eqL KV.e l m := ⟨_, rfl⟩
  rw [← hM]
  have HM := Lib.hid hM
  clear hM
  have U1 := fun (x y : KV) W => neqKV x y W
  have U2 := fun (x y : Operand) (xs ys : Array Value) W => gdKV x y xs ys W
  by_cases hlen : l.length = m.length
  · have hq : ((l.length : Int) != (m.length : Int)) = false := by rw [hlen]; simp
    go_enter Try.func76, Try.ntmps76
    go_wp2_with fail
    go_loopw [13] (fun iv wr => ∃ i : Nat, i ≤ l.length ∧ iv = .int .i64 (i : Int) ∧ Hid (∀ j (hj : j < l.length) (hj' : j < m.length), j < i → KV.e l[j] m[j] = true) ∧ Below w.heap.size w wr) (fun iv _ => l.length - (intOf iv).toNat)
    case atStart => exact ⟨0, Nat.zero_le _, rfl, fun j _ _ hj => absurd hj (Nat.not_lt_zero _), Below.refl _ _⟩
    case round =>
      obtain ⟨i, hi, rfl, hs, hb⟩ := hrel
      by_cases hlt : i < l.length
      · have hlt2 : i < m.length := by omega
        obtain ⟨b, off, rfl, _, _, p0, p1⟩ := kv_at (hl.below hb) hlt
        obtain ⟨b', off', rfl, _, _, q0, q1⟩ := kv_at (hm.below hb) hlt2
        have HA := Lib.hid (show l[i]? = some l[i] from List.getElem?_eq_getElem hlt)
        have HB := Lib.hid (show m[i]? = some m[i] from List.getElem?_eq_getElem hlt2)
        have HF := Lib.hid (fun h => HM.out.trans (eqL_at (e := KV.e) l m i hlt hlt2 h))
        have HT : Hid (KV.e l[i] m[i] = true → ∀ j (hj : j < l.length) (hj' : j < m.length), j < i + 1 → KV.e l[j] m[j] = true) := fun h j hj hj' hji => by
          rcases Nat.lt_or_ge j i with h1 | h1
          · exact hs.out j hj hj' h1
          · obtain rfl : j = i := by omega
            exact h
        generalize l[i] = x at *
        generalize m[i] = y at *
        have he : KV.e x y = (x.f == y.f && x.b == y.b) := rfl
        cases hxy : KV.e x y
        · have HF2 := HF.out hxy
          obtain rfl := HF2
          rw [he] at hxy
          clear HF HT HM he hs
          go_wp2_with fail
          go_quiet (fail)
          go_wp2_with fail
          go_ret
          exact ⟨rfl, hb.trans ((below_drewN _ _).mono hb.size)⟩
        · have HT2 := Lib.hid (HT.out hxy)
          rw [he] at hxy
          clear HF HT he hs
          go_wp2_with fail
          go_quiet (fail)
          go_wp2_with fail
          go_roundw
          case rel => exact ⟨i + 1, hlt, by go_num, HT2.out, hb.trans ((below_drewN _ _).mono hb.size)⟩
          case measure => simp [intOf]; omega
      · have e : i = l.length := by omega
        subst e
        obtain rfl : M = true := HM.out.trans (eqL_all l m hlen (fun i hi hj => hs.out i hi hj hi))
        go_wp2_with fail
        go_ret
        exact ⟨rfl, hb⟩
  · have hq : ((l.length : Int) != (m.length : Int)) = true := by simp; omega
    obtain rfl : M = false := HM.out.trans (eqL_len l m hlen)
    go_enter Try.func76, Try.ntmps76
    go_wp2_with fail
    go_ret
    exact ⟨rfl, Below.refl _ _⟩


set_option maxRecDepth 100000 in
set_option maxHeartbeats 400000 in
theorem eqHW_any (A B : Option Addr) (c d : Nat) (l m : List HW) (Z Z' : Nat → Prop) (w : World) (hl : Rd w Z 2 A l.length (l.flatMap HW.cells)) (hm : Rd w Z' 2 B m.length (m.flatMap HW.cells)) (hn : l.length ≤ 140737488355328) (hn' : m.length ≤ 140737488355328) :
    Calls Try.prog 77 #[.slice A l.length c, .slice B m.length d] w fun e w' => e = .returned (.bool (eqL HW.e l m)) ∧ Below w.heap.size w w' := by
  obtain ⟨M, hM⟩ : ∃ M, M = eqL HW.e l m := ⟨_, rfl⟩
  rw [← hM]
  have HM := Lib.hid hM
  clear hM
  have U1 := fun (x y : HW) W => neqHW x y W
  have U2 := fun (x y : Operand) (xs ys : Array Value) W => gdHW x y xs ys W
  by_cases hlen : l.length = m.length
  · have hq : ((l.length : Int) != (m.length : Int)) = false := by rw [hlen]; simp
    go_enter Try.func77, Try.ntmps77
    go_wp2_with fail
    go_loopw [13] (fun iv wr => ∃ i : Nat, i ≤ l.length ∧ iv = .int .i64 (i : Int) ∧ Hid (∀ j (hj : j < l.length) (hj' : j < m.length), j < i → HW.e l[j] m[j] = true) ∧ Below w.heap.size w wr) (fun iv _ => l.length - (intOf iv).toNat)
    case atStart => exact ⟨0, Nat.zero_le _, rfl, fun j _ _ hj => absurd hj (Nat.not_lt_zero _), Below.refl _ _⟩
    case round =>
      obtain ⟨i, hi, rfl, hs, hb⟩ := hrel
      by_cases hlt : i < l.length
      · have hlt2 : i < m.length := by omega
        obtain ⟨b, off, rfl, _, _, p0, p1⟩ := hw_at (hl.below hb) hlt
        obtain ⟨b', off', rfl, _, _, q0, q1⟩ := hw_at (hm.below hb) hlt2
        have HA := Lib.hid (show l[i]? = some l[i] from List.getElem?_eq_getElem hlt)
        have HB := Lib.hid (show m[i]? = some m[i] from List.getElem?_eq_getElem hlt2)
        have HF := Lib.hid (fun h => HM.out.trans (eqL_at (e := HW.e) l m i hlt hlt2 h))
        have HT : Hid (HW.e l[i] m[i] = true → ∀ j (hj : j < l.length) (hj' : j < m.length), j < i + 1 → HW.e l[j] m[j] = true) := fun h j hj hj' hji => by
          rcases Nat.lt_or_ge j i with h1 | h1
          · exact hs.out j hj hj' h1
          · obtain rfl : j = i := by omega
            exact h
        generalize l[i] = x at *
        generalize m[i] = y at *
        have he : HW.e x y = (x.p.toList == y.p.toList && x.w == y.w) := rfl
        cases hxy : HW.e x y
        · have HF2 := HF.out hxy
          obtain rfl := HF2
          rw [he] at hxy
          clear HF HT HM he hs
          go_wp2_with fail
          go_quiet (fail)
          go_wp2_with fail
          go_ret
          exact ⟨rfl, hb.trans ((below_drewN _ _).mono hb.size)⟩
        · have HT2 := Lib.hid (HT.out hxy)
          rw [he] at hxy
          clear HF HT he hs
          go_wp2_with fail
          go_quiet (fail)
          go_wp2_with fail
          go_roundw
          case rel => exact ⟨i + 1, hlt, by go_num, HT2.out, hb.trans ((below_drewN _ _).mono hb.size)⟩
          case measure => simp [intOf]; omega
      · have e : i = l.length := by omega
        subst e
        obtain rfl : M = true := HM.out.trans (eqL_all l m hlen (fun i hi hj => hs.out i hi hj hi))
        go_wp2_with fail
        go_ret
        exact ⟨rfl, hb⟩
  · have hq : ((l.length : Int) != (m.length : Int)) = true := by simp; omega
    obtain rfl : M = false := HM.out.trans (eqL_len l m hlen)
    go_enter Try.func77, Try.ntmps77
    go_wp2_with fail
    go_ret
    exact ⟨rfl, Below.refl _ _⟩

end Go.Proofs.Ytpbgcbpofhbgbaa
