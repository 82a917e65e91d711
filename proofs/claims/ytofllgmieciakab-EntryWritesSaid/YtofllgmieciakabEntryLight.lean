/- tenderlaw21: Light. -/
import Derived.Test.YtofllgmieciakabEntry
import Derived.Test.YtofllgmieciakabFlat
namespace Go.Proofs.Ytofllgmieciakab
open Go.RowKit

/-- what is known of an entry -/
structure EV.ok (w : World) (Z : Nat → Prop) (o : EV) : Prop where
  x : o.x.ok w Z
  len : o.x.l.length ≤ 140737488355328
  p : o.p.size ≤ 140737488355328
  v : 0 ≤ o.v ∧ o.v < 18446744073709551616
  k : -9223372036854775808 ≤ o.k ∧ o.k < 9223372036854775808
theorem EV.ok.fr {w w' : World} {Z S : Nat → Prop} {o : EV} (h : o.ok w Z) (k : Fr S w w') (hs : ∀ b, b < w.heap.size → Z b → ¬ S b) : o.ok w' Z := ⟨h.x.fr k hs, h.len, h.p, h.v, h.k⟩
theorem EV.ok.below {w w' : World} {Z : Nat → Prop} {o : EV} (h : o.ok w Z) (k : Below w.heap.size w w') : o.ok w' Z := h.fr (Fr.of_below k (fun _ => False)) (fun _ _ _ h => h)
theorem EV.ok.mono {w : World} {Z Z' : Nat → Prop} {o : EV} (h : o.ok w Z) (hz : ∀ b, b < w.heap.size → Z b → Z' b) : o.ok w Z' := ⟨h.x.mono hz, h.len, h.p, h.v, h.k⟩
/-- entries in a slice -/
structure Ents (w : World) (Z : Nat → Prop) (A : Option Addr) (l : List EV) : Prop where
  rd : Rd w Z 4 A l.length (l.flatMap EV.cells)
  ok : ∀ o ∈ l, o.ok w Z
  len : l.length ≤ 140737488355328
theorem Ents.fr {w w' : World} {Z S : Nat → Prop} {A : Option Addr} {l : List EV} (h : Ents w Z A l) (k : Fr S w w') (hs : ∀ b, b < w.heap.size → Z b → ¬ S b) : Ents w' Z A l :=
  ⟨h.rd.fr k hs, fun o ho => (h.ok o ho).fr k hs, h.len⟩
theorem Ents.below {w w' : World} {Z : Nat → Prop} {A : Option Addr} {l : List EV} (h : Ents w Z A l) (k : Below w.heap.size w w') : Ents w' Z A l := h.fr (Fr.of_below k (fun _ => False)) (fun _ _ _ h => h)
theorem ent_at {w : World} {Z : Nat → Prop} {A : Option Addr} {l : List EV} {i : Nat} (h : Rd w Z 4 A l.length (l.flatMap EV.cells)) (hi : i < l.length) :
    ∃ b off, A = some ⟨b, off, none⟩ ∧ Z b ∧ b < w.heap.size ∧ w.cell? ⟨b, off + i * 4, none⟩ = some (.string l[i].p) ∧ w.cell? ⟨b, off + i * 4 + 1, none⟩ = some (.int .u64 l[i].v) ∧
      w.cell? ⟨b, off + i * 4 + 2, none⟩ = some (.int .i64 l[i].k) ∧ w.cell? ⟨b, off + i * 4 + 3, none⟩ = some (.slice l[i].x.A l[i].x.l.length l[i].x.c) := by
  obtain ⟨b, off, hA, hz, hb, hc⟩ := h.2 (by omega)
  have hg : ∀ j, j < 4 → (l.flatMap EV.cells)[i * 4 + j]? = (EV.cells l[i])[j]? := fun j hj => flat_get (k := 4) (fun _ => rfl) l i j hi hj
  refine ⟨b, off, hA, hz, hb, ?_, ?_, ?_, ?_⟩
  · exact hc _ _ (hg 0 (by omega))
  · rw [Nat.add_assoc]; exact hc _ _ (hg 1 (by omega))
  · rw [Nat.add_assoc]; exact hc _ _ (hg 2 (by omega))
  · rw [Nat.add_assoc]; exact hc _ _ (hg 3 (by omega))
def lenE (o : EV) : Nat := o.p.size + o.x.l.length
def lensE (l : List EV) : Nat := (l.map lenE).sum
def lightE (l : List EV) : Bool := decide (lensE l ≤ 20000) && decide (l.length ≤ 400)
theorem lensE_take (l : List EV) (i : Nat) (hi : i < l.length) : lensE (l.take (i + 1)) = lensE (l.take i) + lenE l[i] := by
  unfold lensE
  rw [List.take_succ_eq_append_getElem hi, List.map_append, List.sum_append]
  simp
theorem lensE_le (K : Nat) : ∀ (l : List EV), (∀ o ∈ l, lenE o ≤ K) → lensE l ≤ l.length * K
  | [], _ => by simp [lensE]
  | o :: l, h => by
    have h1 := h o (by simp)
    have h2 := lensE_le K l (fun o ho => h o (by simp [ho]))
    simp only [lensE, List.map_cons, List.sum_cons, List.length_cons, Nat.add_mul] at h2 ⊢
    omega
theorem lensE_take_le (K : Nat) (l : List EV) (i : Nat) (h : ∀ o ∈ l, lenE o ≤ K) : lensE (l.take i) ≤ i * K := by
  have h1 := lensE_le K (l.take i) (fun o ho => h o (List.mem_of_mem_take ho))
  have h2 : (l.take i).length ≤ i := List.length_take_le _ _
  have h3 : (l.take i).length * K ≤ i * K := Nat.mul_le_mul_right _ h2
  omega
/-- the sum that Light has made: right while few have been seen -/
def SeenE (l : List EV) (i : Nat) (s : Int) : Prop := i ≤ 400 → s = (lensE (l.take i) : Int)
theorem seenE_step {l : List EV} {i : Nat} {s : Int} (hs : SeenE l i s) (hi : i < l.length) (h : ∀ o ∈ l, lenE o ≤ 281474976710656) : SeenE l (i + 1) (wrap64 (s + (lenE l[i] : Int))) := by
  intro hi2
  have e := hs (by omega)
  have h1 := lensE_take_le 281474976710656 l (i + 1) h
  have h2 := lensE_take l i hi
  have h3 : (i + 1) * 281474976710656 ≤ 401 * 281474976710656 := Nat.mul_le_mul_right _ (by omega)
  rw [h2] at h1 ⊢
  rw [e, IntWalk.wrap64_in _ ⟨by omega, by omega⟩]
  omega

set_option maxRecDepth 100000 in
set_option maxHeartbeats 400000 in
theorem lightE_any (A : Option Addr) (c : Nat) (l : List EV) (Z : Nat → Prop) (w : World) (h : Ents w Z A l) :
    Calls Try.prog 30 #[.slice A l.length c] w fun e w' => e = .returned (.bool (lightE l)) ∧ Below w.heap.size w w' := by
  have hlen := h.len
  go_enter Try.func30, Try.ntmps30
  go_wp2_with fail
  go_loopw [3, 8] (fun sv iv wr => ∃ (i : Nat) (s : Int), i ≤ l.length ∧ iv = .int .i64 (i : Int) ∧ sv = .int .i64 s ∧ SeenE l i s ∧ Below w.heap.size w wr) (fun _ iv _ => l.length - (intOf iv).toNat)
  case atStart => exact ⟨0, 0, Nat.zero_le _, rfl, rfl, by intro _; simp [lensE], Below.refl _ _⟩
  case round =>
    obtain ⟨i, s, hi, rfl, rfl, hs, hb⟩ := hrel
    by_cases hlt : i < l.length
    · obtain ⟨b, off, rfl, hz, hbb, hc0, hc1, hc2, hc3⟩ := ent_at (h.rd.below hb) hlt
      have hsz := hb.size
      have hok := h.ok _ (List.getElem_mem hlt)
      have hxl := hok.len
      have hpl := hok.p
      have hst := Lib.hid (seenE_step hs hlt (fun o ho => by have h1 := (h.ok o ho).len; have h2 := (h.ok o ho).p; unfold lenE; omega))
      have hle : lenE l[i] = l[i].p.size + l[i].x.l.length := rfl
      rw [hle] at hst
      clear hle hok
      generalize l[i] = o at *
      obtain ⟨p, v, k, xA, xc, xl⟩ := o
      dsimp only at *
      go_wp2_with fail
      go_roundw
      case rel => exact ⟨i + 1, _, hlt, by go_num, rfl, by have := hst.out; push_cast at this; exact this, (hb.alloc hsz _)⟩
      case measure => simp [intOf]; omega
    · have e : i = l.length := by omega
      subst e
      by_cases h2 : l.length ≤ 400
      · have hss := hs h2
        rw [List.take_length] at hss
        subst hss
        go_wp2
        all_goals
          go_ret
          exact ⟨ret_b (by unfold lightE; rw [Bool.eq_iff_iff]; simp; omega), hb⟩
      · go_wp2
        all_goals
          go_ret
          exact ⟨ret_b (by unfold lightE; rw [Bool.eq_iff_iff]; simp; omega), hb⟩
end Go.Proofs.Ytofllgmieciakab
