/- tenderlaw07: Light, lives. -/
import Derived.Test.YtofllgmieciakabLeafWrite
namespace Go.Proofs.Ytofllgmieciakab
open Go.RowKit

/-- leaves in a slice -/
structure Leaves (w : World) (Z : Nat → Prop) (A : Option Addr) (l : List LV) : Prop where
  rd : Rd w Z 2 A l.length (l.flatMap LV.cells)
  ok : ∀ o ∈ l, o.x.ok w Z
  lens : ∀ o ∈ l, o.x.l.length ≤ 140737488355328
  ks : ∀ o ∈ l, -9223372036854775808 ≤ o.k ∧ o.k < 9223372036854775808
  len : l.length ≤ 140737488355328
theorem Leaves.fr {w w' : World} {Z S : Nat → Prop} {A : Option Addr} {l : List LV} (h : Leaves w Z A l) (k : Fr S w w') (hs : ∀ b, b < w.heap.size → Z b → ¬ S b) : Leaves w' Z A l :=
  ⟨h.rd.fr k hs, fun o ho => (h.ok o ho).fr k hs, h.lens, h.ks, h.len⟩
theorem Leaves.below {w w' : World} {Z : Nat → Prop} {A : Option Addr} {l : List LV} (h : Leaves w Z A l) (k : Below w.heap.size w w') : Leaves w' Z A l := h.fr (Fr.of_below k (fun _ => False)) (fun _ _ _ h => h)

def lensL (l : List LV) : Nat := (l.map fun o => o.x.l.length).sum
def lightL (l : List LV) : Bool := decide (lensL l ≤ 20000) && decide (l.length ≤ 300)
theorem lensL_take (l : List LV) (i : Nat) (hi : i < l.length) : lensL (l.take (i + 1)) = lensL (l.take i) + l[i].x.l.length := by
  unfold lensL
  rw [List.take_succ_eq_append_getElem hi, List.map_append, List.sum_append]
  simp
theorem lensL_le (K : Nat) : ∀ (l : List LV), (∀ o ∈ l, o.x.l.length ≤ K) → lensL l ≤ l.length * K
  | [], _ => by simp [lensL]
  | o :: l, h => by
    have h1 := h o (by simp)
    have h2 := lensL_le K l (fun o ho => h o (by simp [ho]))
    simp only [lensL, List.map_cons, List.sum_cons, List.length_cons, Nat.add_mul] at h2 ⊢
    omega
theorem lensL_take_le (K : Nat) (l : List LV) (i : Nat) (h : ∀ o ∈ l, o.x.l.length ≤ K) : lensL (l.take i) ≤ i * K := by
  have h1 := lensL_le K (l.take i) (fun o ho => h o (List.mem_of_mem_take ho))
  have h2 : (l.take i).length ≤ i := List.length_take_le _ _
  have h3 : (l.take i).length * K ≤ i * K := Nat.mul_le_mul_right _ h2
  omega
/-- the sum that Light has made: right while few have been seen -/
def SeenL (l : List LV) (i : Nat) (s : Int) : Prop := i ≤ 300 → s = (lensL (l.take i) : Int)
theorem seenL_step {l : List LV} {i : Nat} {s : Int} (hs : SeenL l i s) (hi : i < l.length) (h : ∀ o ∈ l, o.x.l.length ≤ 140737488355328) : SeenL l (i + 1) (wrap64 (s + (l[i].x.l.length : Int))) := by
  intro hi2
  have e := hs (by omega)
  have h1 := lensL_take_le 140737488355328 l (i + 1) h
  have h2 := lensL_take l i hi
  have h3 : (i + 1) * 140737488355328 ≤ 301 * 140737488355328 := Nat.mul_le_mul_right _ (by omega)
  rw [h2] at h1 ⊢
  rw [e, IntWalk.wrap64_in _ ⟨by omega, by omega⟩]
  omega

set_option maxHeartbeats 400000 in
theorem lightL_any (A : Option Addr) (c : Nat) (l : List LV) (Z : Nat → Prop) (w : World) (h : Leaves w Z A l) :
    Calls Try.prog 9 #[.slice A l.length c] w fun e w' => e = .returned (.bool (lightL l)) ∧ Below w.heap.size w w' := by
  have hlen := h.len
  go_enter Try.func9, Try.ntmps9
  go_wp2_with fail
  go_loopw [3, 8] (fun sv iv wr => ∃ (i : Nat) (s : Int), i ≤ l.length ∧ iv = .int .i64 (i : Int) ∧ sv = .int .i64 s ∧ SeenL l i s ∧ Below w.heap.size w wr) (fun _ iv _ => l.length - (intOf iv).toNat)
  case atStart => exact ⟨0, 0, Nat.zero_le _, rfl, rfl, by intro _; simp [lensL], Below.refl _ _⟩
  case round =>
    obtain ⟨i, s, hi, rfl, rfl, hs, hb⟩ := hrel
    by_cases hlt : i < l.length
    · obtain ⟨b, off, rfl, hz, hbb, hc0, hc1⟩ := leaf_at (h.rd.below hb) hlt
      have hsz := hb.size
      have hxl := h.lens _ (List.getElem_mem hlt)
      go_wp2_with fail
      go_roundw
      case rel =>
        refine ⟨i + 1, _, hlt, by go_num, rfl, ?_, (hb.alloc hsz _)⟩
        exact seenL_step hs hlt h.lens
      case measure => simp [intOf]; omega
    · have e : i = l.length := by omega
      subst e
      by_cases h2 : l.length ≤ 300
      · have hss := hs h2
        rw [List.take_length] at hss
        subst hss
        go_wp2
        all_goals
          go_ret
          exact ⟨ret_b (by unfold lightL; rw [Bool.eq_iff_iff]; simp; omega), hb⟩
      · go_wp2
        all_goals
          go_ret
          exact ⟨ret_b (by unfold lightL; rw [Bool.eq_iff_iff]; simp; omega), hb⟩

set_option maxHeartbeats 400000 in
theorem lives07_any (w : World) : Calls Try.prog 10 #[] w fun e w' => e = .returned (.bool true) ∧ Below w.heap.size w w' := by
  go_enter Try.func10, Try.ntmps10
  go_wp2_with fail
  have h5 : By ((w.alloc (.cells #[.slice none 0 0] 49)).alloc (.cells #[.int .u8 5] 5)) (fun _ => True) (some ⟨w.heap.size + 1, 0, none⟩) [5] := by
    have := (OwB.lit1 (w.alloc (.cells #[.slice none 0 0] 49)) (base := 0) (b := 5) (x := 5) rfl (by omega)).rd
    simpa using this.mono (fun _ _ _ => trivial)
  refine (leafOf_any (some ⟨w.heap.size + 1, 0, none⟩) 1 [5] _ _ h5 (by simp)).mono ?_
  rintro e w1 ⟨A1, c1, l1, rfl, hl1, ho1, hb1⟩
  obtain rfl : l1 = [5] := hl1.out
  obtain ⟨A1', c1', e1, hlc, hcm, hA1⟩ := ho1.form
  obtain ⟨rfl, rfl⟩ : A1 = A1' ∧ c1 = c1' := by simpa using e1
  have hlow1 : Below w.heap.size w w1 := (((Below.refl _ _).alloc (Nat.le_refl _) _).alloc (by simp) _).trans (hb1.mono (by simp; omega))
  have hp1 : Pen w1 w.heap.size w.heap.size (.slice none 0 0) [] := ((Pen.new w).alloc _).below hb1
  have hs1 := hb1.size
  simp at hs1
  have hy1 : By w1 (fun b => w.heap.size + 1 ≤ b) A1 [5] := ho1.rd.mono (fun b _ hb => by have := (hA1 b hb).1; simp at this; omega)
  go_wp2_with fail
  refine (leafDir_any _).mono ?_
  rintro e w2 ⟨rfl, hb2⟩
  have hp2 := hp1.below hb2
  have hy2 := hy1.below hb2
  have hs2 := hb2.size
  go_wp2_with fail
  refine (leafWrite_any w.heap.size w.heap.size (.slice none 0 0) [] _ _ [⟨1, ⟨A1, c1, [5]⟩⟩, ⟨2, ⟨none, 0, []⟩⟩, ⟨0, ⟨none, 0, []⟩⟩] (fun b => w.heap.size + 1 ≤ b) _ (hp2.alloc _) ((Rd.lit rfl rfl (by simp)).mono (fun b _ hb => by omega)) ?_ ?_ ?_ ?_).mono ?_
  · intro x hx
    rcases List.mem_cons.1 hx with rfl | hx
    · exact ⟨hy2.alloc _, hlc, hcm⟩
    · rcases List.mem_cons.1 hx with rfl | hx
      · exact ⟨Rd.nil, Nat.le_refl _, by simp [maxLen]⟩
      · obtain rfl := List.mem_singleton.1 hx
        exact ⟨Rd.nil, Nat.le_refl _, by simp [maxLen]⟩
  · rintro b _ hb (rfl | e)
    · omega
    · simp [Value.ownBlock] at e
  · simp; omega
  · simp [wideL]
  rintro e w3 ⟨rfl, v3, h3⟩
  have hlow3 : Below w.heap.size w w3 := ((hlow1.trans (hb2.mono (by omega))).alloc (by omega) _).trans ((hp2.alloc _).low h3 (Nat.le_refl _) (Nat.le_refl _) (by simp; omega))
  have hs3 := hlow3.size
  go_wp2_with fail
  refine (Bytes_any _ _ _ _ _ h3.pen (Nat.le_of_ble_eq_true (by kernel_rfl))).mono ?_
  rintro e w4 ⟨A, c, l, rfl, hx, ho, hb4⟩
  have k := conv_by ho.rd c
  have e1 : (l == [1, 1, 1, 1, 5, 1, 2, 0]) = true := by rw [hx.out]; kernel_rfl
  go_wp2_with fail
  refine (leafName_any 2 _).mono ?_
  rintro e w5 ⟨rfl, rfl⟩
  go_wp2_with fail
  go_ret
  exact ⟨ret_b (x := (kindN 2).toList == [100, 105, 114]) (by kernel_rfl), hlow3.trans (hb4.mono hs3)⟩
end Go.Proofs.Ytofllgmieciakab
