/- tenderlaw16: its calls as values; light. -/
import Derived.Test.YtpbgcbpofhbgbaaPipeMem
import Derived.IntWalk
namespace Go.Proofs.Ytpbgcbpofhbgbaa
open Go.RowKit

/-- tenderlaw16.Op -/
structure OpP where
  kind : Int
  n : Int
  bit : Int
  mask : Int
  x : BV
def OpP.cells (o : OpP) : List Value := [.int .i64 o.kind, .int .i64 o.n, .int .i64 o.bit, .int .u32 o.mask, .slice o.x.A o.x.l.length o.x.c]
structure OpP.ok (w : World) (Z : Nat → Prop) (o : OpP) : Prop where
  k : -9223372036854775808 ≤ o.kind ∧ o.kind < 9223372036854775808
  n : -9223372036854775808 ≤ o.n ∧ o.n < 9223372036854775808
  b : -9223372036854775808 ≤ o.bit ∧ o.bit < 9223372036854775808
  m : 0 ≤ o.mask ∧ o.mask < 4294967296
  x : o.x.ok w Z
  len : o.x.l.length ≤ 140737488355328
/-- A slice of them. -/
structure OpsP (w : World) (Z : Nat → Prop) (A : Option Addr) (l : List OpP) : Prop where
  rd : Rd w Z 5 A l.length (l.flatMap OpP.cells)
  ok : ∀ o ∈ l, o.ok w Z
  len : l.length ≤ 4398046511104
theorem OpsP.fr {w w' : World} {Z S : Nat → Prop} {A : Option Addr} {l : List OpP} (h : OpsP w Z A l) (k : Fr S w w') (hs : ∀ b, b < w.heap.size → Z b → ¬ S b) : OpsP w' Z A l :=
  ⟨h.rd.fr k hs, fun o ho => ⟨(h.ok o ho).k, (h.ok o ho).n, (h.ok o ho).b, (h.ok o ho).m, (h.ok o ho).x.fr k hs, (h.ok o ho).len⟩, h.len⟩
theorem OpsP.below {w w' : World} {Z : Nat → Prop} {A : Option Addr} {l : List OpP} (h : OpsP w Z A l) (k : Below w.heap.size w w') : OpsP w' Z A l := h.fr (Fr.of_below k (fun _ => False)) (fun _ _ _ h => h)
theorem OpsP.at_ {w : World} {Z : Nat → Prop} {A : Option Addr} {l : List OpP} {i : Nat} (h : OpsP w Z A l) (hi : i < l.length) :
    ∃ b off, A = some ⟨b, off, none⟩ ∧ Z b ∧ b < w.heap.size ∧ w.cell? ⟨b, off + i * 5, none⟩ = some (.int .i64 l[i].kind) ∧ w.cell? ⟨b, off + i * 5 + 1, none⟩ = some (.int .i64 l[i].n) ∧
      w.cell? ⟨b, off + i * 5 + 2, none⟩ = some (.int .i64 l[i].bit) ∧ w.cell? ⟨b, off + i * 5 + 3, none⟩ = some (.int .u32 l[i].mask) ∧ w.cell? ⟨b, off + i * 5 + 4, none⟩ = some (.slice l[i].x.A l[i].x.l.length l[i].x.c) := by
  obtain ⟨b, off, hA, hz, hb, hc⟩ := h.rd.2 (by omega)
  have hg : ∀ j, j < 5 → (l.flatMap OpP.cells)[i * 5 + j]? = (OpP.cells l[i])[j]? := fun j hj => flat_get (k := 5) (fun _ => rfl) l i j hi hj
  refine ⟨b, off, hA, hz, hb, ?_, ?_, ?_, ?_, ?_⟩
  · exact hc _ _ (hg 0 (by omega))
  · rw [Nat.add_assoc]; exact hc _ _ (hg 1 (by omega))
  · rw [Nat.add_assoc]; exact hc _ _ (hg 2 (by omega))
  · rw [Nat.add_assoc]; exact hc _ _ (hg 3 (by omega))
  · rw [Nat.add_assoc]; exact hc _ _ (hg 4 (by omega))
def lensP (l : List OpP) : Nat := (l.map fun o => o.x.l.length).sum
def lightP (l : List OpP) : Bool := decide (l.length ≤ 200) && decide (lensP l ≤ 10000)
theorem lensP_take (l : List OpP) (i : Nat) (hi : i < l.length) : lensP (l.take (i + 1)) = lensP (l.take i) + l[i].x.l.length := by
  unfold lensP
  rw [List.take_succ_eq_append_getElem hi, List.map_append, List.sum_append]
  simp
theorem lensP_le (K : Nat) : ∀ (l : List OpP), (∀ o ∈ l, o.x.l.length ≤ K) → lensP l ≤ l.length * K
  | [], _ => by simp [lensP]
  | o :: l, h => by
    have h1 := h o (by simp)
    have h2 := lensP_le K l (fun o ho => h o (by simp [ho]))
    simp only [lensP, List.map_cons, List.sum_cons, List.length_cons, Nat.add_mul] at h2 ⊢
    omega
theorem lensP_take_le (K : Nat) (l : List OpP) (i : Nat) (h : ∀ o ∈ l, o.x.l.length ≤ K) : lensP (l.take i) ≤ i * K := by
  have h1 := lensP_le K (l.take i) (fun o ho => h o (List.mem_of_mem_take ho))
  have h2 : (l.take i).length ≤ i := List.length_take_le _ _
  have h3 : (l.take i).length * K ≤ i * K := Nat.mul_le_mul_right _ h2
  omega
def SeenP (l : List OpP) (i : Nat) (s : Int) : Prop := i ≤ 200 → s = (lensP (l.take i) : Int)
theorem seenP_step {l : List OpP} {i : Nat} {s : Int} (hs : SeenP l i s) (hi : i < l.length) (h : ∀ o ∈ l, o.x.l.length ≤ 140737488355328) : SeenP l (i + 1) (wrap64 (s + (l[i].x.l.length : Int))) := by
  intro hi2
  have e := hs (by omega)
  have h1 := lensP_take_le 140737488355328 l (i + 1) h
  have h2 := lensP_take l i hi
  have h3 : (i + 1) * 140737488355328 ≤ 201 * 140737488355328 := Nat.mul_le_mul_right _ (by omega)
  rw [h2] at h1 ⊢
  rw [e, IntWalk.wrap64_in _ ⟨by omega, by omega⟩]
  omega

set_option maxHeartbeats 400000 in
theorem light16_any (A : Option Addr) (c : Nat) (l : List OpP) (Z : Nat → Prop) (w : World) (h : OpsP w Z A l) :
    Calls Try.prog 16 #[.slice A l.length c] w fun e w' => e = .returned (.bool (lightP l)) ∧ Below w.heap.size w w' := by
  have hlen := h.len
  go_enter Try.func16, Try.ntmps16
  go_wp2_with fail
  go_loopw [3, 8] (fun sv iv wr => ∃ (i : Nat) (s : Int), i ≤ l.length ∧ iv = .int .i64 (i : Int) ∧ sv = .int .i64 s ∧ SeenP l i s ∧ Below w.heap.size w wr) (fun _ iv _ => l.length - (intOf iv).toNat)
  case atStart => exact ⟨0, 0, Nat.zero_le _, rfl, rfl, by intro _; simp [lensP], Below.refl _ _⟩
  case round =>
    obtain ⟨i, s, hi, rfl, rfl, hs, hb⟩ := hrel
    by_cases hlt : i < l.length
    · obtain ⟨b, off, rfl, hz, hbb, hc0, hc1, hc2, hc3, hc4⟩ := (h.below hb).at_ hlt
      have hsz := hb.size
      have hok := h.ok _ (List.getElem_mem hlt)
      have hxl := hok.len
      go_wp2_with fail
      go_roundw
      case rel =>
        refine ⟨i + 1, _, hlt, by go_num, rfl, ?_, (hb.alloc hsz _)⟩
        exact seenP_step hs hlt (fun o ho => (h.ok o ho).len)
      case measure => simp [intOf]; omega
    · have e : i = l.length := by omega
      subst e
      by_cases h2 : l.length ≤ 200
      · have hss := hs h2
        rw [List.take_length] at hss
        subst hss
        go_wp2
        all_goals
          go_ret
          exact ⟨ret_b (by unfold lightP; rw [Bool.eq_iff_iff]; simp; omega), hb⟩
      · go_wp2
        all_goals
          go_ret
          exact ⟨ret_b (by unfold lightP; rw [Bool.eq_iff_iff]; simp; omega), hb⟩
end Go.Proofs.Ytpbgcbpofhbgbaa
