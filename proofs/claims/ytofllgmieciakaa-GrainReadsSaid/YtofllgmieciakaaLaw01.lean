/- tenderlaw01: its calls as values; light; lives. -/
import Derived.Test.YtofllgmieciakaaPenText
namespace Go.Proofs.Ytofllgmieciakaa
open Go.RowKit

/-- tenderlaw01.Op as a value -/
structure OpV where
  kind : Int
  n : Nat
  most : Int
  x : BV
def OpV.cells (o : OpV) : List Value := [.int .i64 o.kind, .int .u64 (o.n : Int), .int .i64 o.most, .slice o.x.A o.x.l.length o.x.c]
/-- what is known of each -/
structure OpV.ok (w : World) (Z : Nat → Prop) (o : OpV) : Prop where
  k0 : -9223372036854775808 ≤ o.kind
  k1 : o.kind < 9223372036854775808
  n1 : o.n < 18446744073709551616
  m0 : -9223372036854775808 ≤ o.most
  m1 : o.most < 9223372036854775808
  x : o.x.ok w Z
  len : o.x.l.length ≤ 140737488355328
/-- A slice of them. -/
structure Ops (w : World) (Z : Nat → Prop) (A : Option Addr) (l : List OpV) : Prop where
  rd : Rd w Z 4 A l.length (l.flatMap OpV.cells)
  ok : ∀ o ∈ l, o.ok w Z
  len : l.length ≤ 4398046511104

theorem flat_get {α : Type} {f : α → List Value} {k : Nat} (hk : ∀ x, (f x).length = k) : ∀ (l : List α) (i j : Nat) (hi : i < l.length), j < k → (l.flatMap f)[i * k + j]? = (f l[i])[j]?
  | x :: l, 0, j, _, hj => by
    rw [List.flatMap_cons, List.getElem?_append_left (by rw [hk]; omega)]
    simp
  | x :: l, i + 1, j, hi, hj => by
    have e : (i + 1) * k + j - (f x).length = i * k + j := by rw [hk, Nat.add_mul]; omega
    rw [List.flatMap_cons, List.getElem?_append_right (by rw [hk, Nat.add_mul]; omega), e, flat_get hk l i j (by simpa using hi) hj]
    simp
theorem flat_len {α : Type} {f : α → List Value} {k : Nat} (hk : ∀ x, (f x).length = k) : ∀ (l : List α), (l.flatMap f).length = l.length * k
  | [] => by simp
  | x :: l => by rw [List.flatMap_cons, List.length_append, hk, flat_len hk l, List.length_cons, Nat.add_mul]; omega

theorem Ops.fr {w w' : World} {Z S : Nat → Prop} {A : Option Addr} {l : List OpV} (h : Ops w Z A l) (k : Fr S w w') (hs : ∀ b, b < w.heap.size → Z b → ¬ S b) : Ops w' Z A l :=
  ⟨h.rd.fr k hs, fun o ho => ⟨(h.ok o ho).k0, (h.ok o ho).k1, (h.ok o ho).n1, (h.ok o ho).m0, (h.ok o ho).m1, (h.ok o ho).x.fr k hs, (h.ok o ho).len⟩, h.len⟩
theorem Ops.below {w w' : World} {Z : Nat → Prop} {A : Option Addr} {l : List OpV} (h : Ops w Z A l) (k : Below w.heap.size w w') : Ops w' Z A l := h.fr (Fr.of_below k (fun _ => False)) (fun _ _ _ h => h)
/-- the cells of one of them -/
theorem Ops.at_ {w : World} {Z : Nat → Prop} {A : Option Addr} {l : List OpV} {i : Nat} (h : Ops w Z A l) (hi : i < l.length) :
    ∃ b off, A = some ⟨b, off, none⟩ ∧ Z b ∧ b < w.heap.size ∧ w.cell? ⟨b, off + i * 4, none⟩ = some (.int .i64 l[i].kind) ∧ w.cell? ⟨b, off + i * 4 + 1, none⟩ = some (.int .u64 (l[i].n : Int)) ∧
      w.cell? ⟨b, off + i * 4 + 2, none⟩ = some (.int .i64 l[i].most) ∧ w.cell? ⟨b, off + i * 4 + 3, none⟩ = some (.slice l[i].x.A l[i].x.l.length l[i].x.c) := by
  obtain ⟨b, off, hA, hz, hb, hc⟩ := h.rd.2 (by omega)
  have hg : ∀ j, j < 4 → (l.flatMap OpV.cells)[i * 4 + j]? = (OpV.cells l[i])[j]? := fun j hj => flat_get (k := 4) (fun _ => rfl) l i j hi hj
  refine ⟨b, off, hA, hz, hb, ?_, ?_, ?_, ?_⟩
  · exact hc _ _ (hg 0 (by omega))
  · rw [Nat.add_assoc]; exact hc _ _ (hg 1 (by omega))
  · rw [Nat.add_assoc]; exact hc _ _ (hg 2 (by omega))
  · rw [Nat.add_assoc]; exact hc _ _ (hg 3 (by omega))

def lens (l : List OpV) : Nat := (l.map fun o => o.x.l.length).sum
def lightB (l : List OpV) : Bool := decide (l.length ≤ 200) && decide (lens l ≤ 3000)
theorem lens_take (l : List OpV) (i : Nat) (hi : i < l.length) : lens (l.take (i + 1)) = lens (l.take i) + l[i].x.l.length := by
  unfold lens
  rw [List.take_succ_eq_append_getElem hi, List.map_append, List.sum_append]
  simp
theorem lens_le (K : Nat) : ∀ (l : List OpV), (∀ o ∈ l, o.x.l.length ≤ K) → lens l ≤ l.length * K
  | [], _ => by simp [lens]
  | o :: l, h => by
    have h1 := h o (by simp)
    have h2 := lens_le K l (fun o ho => h o (by simp [ho]))
    simp only [lens, List.map_cons, List.sum_cons, List.length_cons, Nat.add_mul] at h2 ⊢
    omega
theorem lens_take_le (K : Nat) (l : List OpV) (i : Nat) (h : ∀ o ∈ l, o.x.l.length ≤ K) : lens (l.take i) ≤ i * K := by
  have h1 := lens_le K (l.take i) (fun o ho => h o (List.mem_of_mem_take ho))
  have h2 : (l.take i).length ≤ i := List.length_take_le _ _
  have h3 : (l.take i).length * K ≤ i * K := Nat.mul_le_mul_right _ h2
  omega

theorem lens_mono (l : List OpV) (k : Nat) : lens (l.take k) ≤ lens l := by
  have h : lens (l.take k ++ l.drop k) = lens (l.take k) + lens (l.drop k) := by simp only [lens, List.map_append, List.sum_append]
  rw [List.take_append_drop] at h
  omega

/-- the sum that light has made: right while few have been seen -/
def Seen (l : List OpV) (i : Nat) (s : Int) : Prop := i ≤ 200 → s = (lens (l.take i) : Int)

theorem seen_step {l : List OpV} {i : Nat} {s : Int} (hs : Seen l i s) (hi : i < l.length) (h : ∀ o ∈ l, o.x.l.length ≤ 140737488355328) : Seen l (i + 1) (wrap64 (s + (l[i].x.l.length : Int))) := by
  intro hi2
  have e := hs (by omega)
  have h1 := lens_take_le 140737488355328 l (i + 1) h
  have h2 := lens_take l i hi
  have h3 : (i + 1) * 140737488355328 ≤ 201 * 140737488355328 := Nat.mul_le_mul_right _ (by omega)
  rw [h2] at h1 ⊢
  rw [e, IntWalk.wrap64_in _ ⟨by omega, by omega⟩]
  omega

set_option maxHeartbeats 400000 in
theorem light01_any (A : Option Addr) (c : Nat) (l : List OpV) (Z : Nat → Prop) (w : World) (h : Ops w Z A l) :
    Calls Try.prog 20 #[.slice A l.length c] w fun e w' => e = .returned (.bool (lightB l)) ∧ Below w.heap.size w w' := by
  have hlen := h.len
  go_enter Try.func20, Try.ntmps20
  go_wp2_with fail
  go_loopw [3, 8] (fun sv iv wr => ∃ (i : Nat) (s : Int), i ≤ l.length ∧ iv = .int .i64 (i : Int) ∧ sv = .int .i64 s ∧ Seen l i s ∧ Below w.heap.size w wr) (fun _ iv _ => l.length - (intOf iv).toNat)
  case atStart => exact ⟨0, 0, Nat.zero_le _, rfl, rfl, by intro _; simp [lens], Below.refl _ _⟩
  case round =>
    obtain ⟨i, s, hi, rfl, rfl, hs, hb⟩ := hrel
    by_cases hlt : i < l.length
    · obtain ⟨b, off, rfl, hz, hbb, hc0, hc1, hc2, hc3⟩ := (h.below hb).at_ hlt
      have hsz := hb.size
      have hok := h.ok _ (List.getElem_mem hlt)
      have hxl := hok.len
      go_wp2_with fail
      go_roundw
      case rel => 
        refine ⟨i + 1, _, hlt, by go_num, rfl, ?_, (hb.alloc hsz _)⟩
        exact seen_step hs hlt (fun o ho => (h.ok o ho).len)
      case measure => simp [intOf]; omega
    · have e : i = l.length := by omega
      subst e
      by_cases h2 : l.length ≤ 200
      · have hss := hs h2
        rw [List.take_length] at hss
        subst hss
        go_wp2
        all_goals
          go_ret
          exact ⟨ret_b (by unfold lightB; rw [Bool.eq_iff_iff]; simp; omega), hb⟩
      · go_wp2
        go_ret
        exact ⟨ret_b (by unfold lightB; rw [Bool.eq_iff_iff]; simp; omega), hb⟩
end Go.Proofs.Ytofllgmieciakaa
