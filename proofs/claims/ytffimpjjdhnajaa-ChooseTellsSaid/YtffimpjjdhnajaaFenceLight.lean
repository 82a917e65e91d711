/- tenderlaw26: Light, lives. -/
import Derived.Test.YtffimpjjdhnajaaFenceClose
namespace Go.Proofs.Ytffimpjjdhnajaa
open Go.RowKit Go.WideShapes Go.ChangeShapes Go.ChangeAt

def lensF (l : List CV) : Nat := (l.map fun o => o.p.size).sum
def lightF (l : List CV) : Bool := decide (l.length ≤ 40) && decide (lensF l ≤ 3000)
theorem lensF_take (l : List CV) (i : Nat) (hi : i < l.length) : lensF (l.take (i + 1)) = lensF (l.take i) + l[i].p.size := by
  unfold lensF
  rw [List.take_succ_eq_append_getElem hi, List.map_append, List.sum_append]
  simp
theorem lensF_le (K : Nat) : ∀ (l : List CV), (∀ o ∈ l, o.p.size ≤ K) → lensF l ≤ l.length * K
  | [], _ => by simp [lensF]
  | o :: l, h => by
    have h1 := h o (by simp)
    have h2 := lensF_le K l (fun o ho => h o (by simp [ho]))
    simp only [lensF, List.map_cons, List.sum_cons, List.length_cons, Nat.add_mul] at h2 ⊢
    omega
theorem lensF_take_le (K : Nat) (l : List CV) (i : Nat) (h : ∀ o ∈ l, o.p.size ≤ K) : lensF (l.take i) ≤ i * K := by
  have h1 := lensF_le K (l.take i) (fun o ho => h o (List.mem_of_mem_take ho))
  have h2 : (l.take i).length ≤ i := List.length_take_le _ _
  have h3 : (l.take i).length * K ≤ i * K := Nat.mul_le_mul_right _ h2
  omega
def SeenF (l : List CV) (i : Nat) (s : Int) : Prop := i ≤ 40 → s = (lensF (l.take i) : Int)
theorem seenF_step {l : List CV} {i : Nat} {s : Int} (hs : SeenF l i s) (hi : i < l.length) (h : ∀ o ∈ l, o.p.size ≤ 140737488355328) : SeenF l (i + 1) (wrap64 (s + (l[i].p.size : Int))) := by
  intro hi2
  have e := hs (by omega)
  have h1 := lensF_take_le 140737488355328 l (i + 1) h
  have h2 := lensF_take l i hi
  have h3 : (i + 1) * 140737488355328 ≤ 41 * 140737488355328 := Nat.mul_le_mul_right _ (by omega)
  rw [h2] at h1 ⊢
  rw [e, IntWalk.wrap64_in _ ⟨by omega, by omega⟩]
  omega

set_option maxRecDepth 100000 in
set_option maxHeartbeats 400000 in
theorem lightF_any (A : Option Addr) (c : Nat) (l : List CV) (Z : Nat → Prop) (w : World) (h : Chs w Z A l) :
    Calls Try.prog 35 #[.slice A l.length c] w fun e w' => e = .returned (.bool (lightF l)) ∧ Below w.heap.size w w' := by
  have hlen := h.len
  go_enter Try.func35, Try.ntmps35
  go_wp2_with fail
  go_loopw [3, 8] (fun sv iv wr => ∃ (i : Nat) (s : Int), i ≤ l.length ∧ iv = .int .i64 (i : Int) ∧ sv = .int .i64 s ∧ SeenF l i s ∧ Below w.heap.size w wr) (fun _ iv _ => l.length - (intOf iv).toNat)
  case atStart => exact ⟨0, 0, Nat.zero_le _, rfl, rfl, by intro _; simp [lensF], Below.refl _ _⟩
  case round =>
    obtain ⟨i, s, hi, rfl, rfl, hs, hb⟩ := hrel
    by_cases hlt : i < l.length
    · obtain ⟨b, off, rfl, hz, hbb, at1⟩ := ch_at (h.rd.below hb) hlt
      obtain ⟨a0, a1, a2, a3, a4, a5, a6, a7, a8⟩ := at1
      have hsz := hb.size
      have hpl := h.p _ (List.getElem_mem hlt)
      have hst := Lib.hid (seenF_step hs hlt h.p)
      generalize l[i] = o at *
      obtain ⟨p, bb, m, t, k, oo, ss, ll, v⟩ := o
      dsimp only at *
      go_wp2_with fail
      go_roundw
      case rel => exact ⟨i + 1, _, hlt, by go_num, rfl, hst.out, (hb.alloc hsz _)⟩
      case measure => simp [intOf]; omega
    · have e : i = l.length := by omega
      subst e
      by_cases h2 : l.length ≤ 40
      · have hss := hs h2
        rw [List.take_length] at hss
        subst hss
        go_wp2
        all_goals
          go_ret
          exact ⟨ret_b (by unfold lightF; rw [Bool.eq_iff_iff]; simp; omega), hb⟩
      · go_wp2
        all_goals
          go_ret
          exact ⟨ret_b (by unfold lightF; rw [Bool.eq_iff_iff]; simp; omega), hb⟩
theorem lightF_len {l : List CV} (h : lightF l = true) : l.length ≤ 40 := by
  unfold lightF at h
  simp only [Bool.and_eq_true, decide_eq_true_eq] at h
  exact h.1

def lv1 : CV := ⟨⟨#[100]⟩, 2, true, false, 0, 2, 0, 0, 1⟩
def lv2 : CV := ⟨⟨#[100, 47, 97]⟩, 1, true, false, 0, 1, 0, 0, 1⟩
def lv3 : CV := ⟨⟨#[100, 47, 98]⟩, 0, false, true, 0, 1, 0, 0, 2⟩
theorem lv_closes : Closes [lv1, lv2, lv3] [lv1.conf, lv2.conf, lv3.conf] := by
  have u13 : upB lv1 lv3 = true := by kernel_rfl
  have l12 : lowB lv1.conf lv2 = true := by kernel_rfl
  have l13 : lowB lv1.conf lv3 = true := by kernel_rfl
  refine ⟨?_, ?_⟩
  · have t1 : Turns [lv1, lv2, lv3] ([] ++ lv1.conf :: [lv2, lv3]) := .turn (p := []) (s := [lv2, lv3]) .none (.inl ⟨lv3, by simp, u13⟩)
    have t2 : Turns [lv1, lv2, lv3] ([lv1.conf] ++ lv2.conf :: [lv3]) := .turn (p := [lv1.conf]) (s := [lv3]) t1 (.inr ⟨lv1.conf, by simp, l12⟩)
    exact .turn (p := [lv1.conf, lv2.conf]) (s := []) t2 (.inr ⟨lv1.conf, by simp, l13⟩)
  · intro a ha hf
    have := hf.movesB
    simp only [List.mem_cons, List.not_mem_nil, or_false] at ha
    rcases ha with rfl | rfl | rfl <;> simp [movesB, CV.conf] at this
set_option maxRecDepth 100000 in
set_option maxHeartbeats 1000000 in
theorem lives26_any (w : World) : Calls Try.prog 36 #[] w fun e w' => e = .returned (.bool true) ∧ Below w.heap.size w w' := by
  have hcl : Hid (([lv1, lv2, lv3] : List CV).flatMap CV.cells = [.string ⟨#[100]⟩, .int .i64 2, .bool true, .bool false, .int .i64 0, .int .i64 2, .int .i64 0, .int .i64 0, .int .i64 1, .string ⟨#[100, 47, 97]⟩, .int .i64 1, .bool true, .bool false, .int .i64 0, .int .i64 1, .int .i64 0, .int .i64 0, .int .i64 1, .string ⟨#[100, 47, 98]⟩, .int .i64 0, .bool false, .bool true, .int .i64 0, .int .i64 1, .int .i64 0, .int .i64 0, .int .i64 2]) := rfl
  go_enter Try.func36, Try.ntmps36
  go_wp2_with fail
  refine (close_any (some ⟨w.heap.size, 0, none⟩) 3 [lv1, lv2, lv3] (fun b => w.heap.size ≤ b) _ ⟨Rd.lit (by rw [hcl.out]) rfl rfl, ?_, by simp⟩ (by simp)).mono ?_
  · intro o ho
    simp only [List.mem_cons, List.not_mem_nil, or_false] at ho
    rcases ho with rfl | rfl | rfl <;> decide
  rintro e w1 ⟨A', c', x, rfl, hx, hrd, hb⟩
  obtain rfl := Closes.unique hx lv_closes
  have hb1 : Below w.heap.size w w1 := ((Below.refl _ _).alloc (Nat.le_refl _) _).trans (hb.mono (by simp))
  obtain ⟨b, off, rfl, hz, hbb, hc⟩ := hrd.2 (by simp)
  have c0 : w1.cell? ⟨b, off + 8, none⟩ = some (.int .i64 5) := hc 8 _ rfl
  have c1 : w1.cell? ⟨b, off + 9 + 8, none⟩ = some (.int .i64 5) := hc 17 _ rfl
  have c2 : w1.cell? ⟨b, off + 18 + 8, none⟩ = some (.int .i64 5) := hc 26 _ rfl
  clear hc hrd hx hb
  go_wp2_with fail
  go_ret
  exact ⟨rfl, hb1⟩
end Go.Proofs.Ytffimpjjdhnajaa
