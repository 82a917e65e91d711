/- tenderref27.Of; tenderlaw27.light. -/
import Derived.Test.YtffimpjjdhnajaaChooseOf
namespace Go.Proofs.Ytffimpjjdhnajaa
open Go.RowKit Go.WideShapes Go.ChangeShapes Go.ChangeAt

/-- what the document's search holds -/
def BestR (l : List HV) (p : ByteArray) (i : Nat) (b u : Int) : Prop := (ofF (l.take i) p = none ∧ b = -1 ∧ u = 0) ∨ ∃ c : HV, b = (c.p.size : Int) ∧ u = c.w ∧ ofF (l.take i) p = some c

set_option maxRecDepth 100000 in
set_option maxHeartbeats 2000000 in
theorem ofR_any (A : Option Addr) (c : Nat) (l : List HV) (p : ByteArray) (Z : Nat → Prop) (w : World) (h : Hvs w Z A l) (hp : p.size ≤ 140737488355328) :
    Calls Try.prog 48 #[.slice A l.length c, .string p] w fun e w' => e = .returned (.tuple #[.int .i64 (whoF (ofF l p)), .bool (ofF l p).isSome]) ∧ Below w.heap.size w w' := by
  obtain ⟨R, hR⟩ : ∃ R, R = ofF l p := ⟨_, rfl⟩
  rw [← hR]
  have HR := Lib.hid hR
  clear hR
  have hlen := h.len
  go_enter Try.func48, Try.ntmps48
  go_wp2_with fail
  go_loopw [6, 7, 8] (fun bv uv iv wr => ∃ (i : Nat) (b u : Int), i ≤ l.length ∧ iv = .int .i64 (i : Int) ∧ bv = .int .i64 b ∧ uv = .int .i64 u ∧ Hid (BestR l p i b u) ∧ Below w.heap.size w wr) (fun _ _ iv _ => l.length - (intOf iv).toNat)
  case atStart => exact ⟨0, -1, 0, Nat.zero_le _, rfl, rfl, rfl, .inl ⟨rfl, rfl, rfl⟩, Below.refl _ _⟩
  case round =>
    obtain ⟨i, bb, uu, hi, rfl, rfl, rfl, hB, hb⟩ := hrel
    by_cases hlt : i < l.length
    · obtain ⟨b, off, rfl, hz, hbb, c0, c1⟩ := hv_at (h.rd.below hb) hlt
      have HA := Lib.hid (show l[i]? = some l[i] from List.getElem?_eq_getElem hlt)
      have hxp := h.p _ (List.getElem_mem hlt)
      have HCE := Lib.hid (fun v (hv : Below wr.heap.size wr v) => (⟨cellAt hv hbb c0, cellAt hv hbb c1⟩ : v.cell? ⟨b, off + i * 2, none⟩ = some (.string l[i].p) ∧ v.cell? ⟨b, off + i * 2 + 1, none⟩ = some (.int .i64 l[i].w)))
      generalize l[i] = x at *
      have HS := Lib.hid (ofF_take (p := p) HA.out)
      have HU := Lib.hid (fun w => refUnder_any p x.p (by omega) (by omega) w)
      have hcv : covB x p = ((x.p.toList == p.toList) || underB (tl p) (tl x.p)) := rfl
      generalize underB (tl p) (tl x.p) = U at *
      cases he : (x.p.toList == p.toList)
      · rw [he] at hcv
        cases U
        · have hcov : covB x p = false := by rw [hcv]; rfl
          have HB2 : Hid (BestR l p (i + 1) bb uu) := by
            rcases hB.out with ⟨h1, h2, h3⟩ | ⟨q, h1, h2, h3⟩
            · exact .inl ⟨by rw [HS.out, ofStep_no hcov]; exact h1, h2, h3⟩
            · exact .inr ⟨q, h1, h2, by rw [HS.out, ofStep_no hcov]; exact h3⟩
          clear HS hB hcov hcv
          go_wp2_with fail
          refine (HU.out _).mono ?_
          rintro e w3 ⟨rfl, hbu⟩
          have hb3 := hb.trans (hbu.mono hb.size)
          obtain ⟨e0, e1⟩ := HCE.out _ hbu
          clear c0 c1 hbu
          go_wp2_with fail
          go_roundw
          case rel => exact ⟨i + 1, bb, uu, hlt, by go_num, rfl, rfl, HB2, hb3⟩
          case measure => simp [intOf]; omega
        · -- under
          have hcov : covB x p = true := by rw [hcv]; simp
          rcases hB.out with ⟨h1, rfl, rfl⟩ | ⟨q, rfl, rfl, h3⟩
          · have HB2 : Hid (BestR l p (i + 1) (x.p.size : Int) x.w) := .inr ⟨x, rfl, rfl, by rw [HS.out, h1]; exact ofStep_first hcov⟩
            have hge : decide ((-1 : Int) ≤ (x.p.size : Int)) = true := by rw [decide_eq_true_eq]; omega
            clear HS hB hcov h1 hcv
            go_wp2_with fail
            refine (HU.out _).mono ?_
            rintro e w3 ⟨rfl, hbu⟩
            have hb3 := hb.trans (hbu.mono hb.size)
            obtain ⟨e0, e1⟩ := HCE.out _ hbu
            clear c0 c1 hbu
            go_wp2_with fail
            go_roundw
            case rel => exact ⟨i + 1, (x.p.size : Int), x.w, hlt, by go_num, rfl, rfl, HB2, hb3⟩
            case measure => simp [intOf]; omega
          · by_cases hle : q.p.size ≤ x.p.size
            · have HB2 : Hid (BestR l p (i + 1) (x.p.size : Int) x.w) := .inr ⟨x, rfl, rfl, by rw [HS.out, h3]; exact ofStep_more hcov hle⟩
              have hge : decide ((q.p.size : Int) ≤ (x.p.size : Int)) = true := by simp; omega
              have hge2 : decide (q.p.size ≤ x.p.size) = true := by simp; omega
              clear HS hB hcov h3 hcv
              go_wp2_with fail
              refine (HU.out _).mono ?_
              rintro e w3 ⟨rfl, hbu⟩
              have hb3 := hb.trans (hbu.mono hb.size)
              obtain ⟨e0, e1⟩ := HCE.out _ hbu
              clear c0 c1 hbu
              go_wp2_with fail
              go_roundw
              case rel => exact ⟨i + 1, (x.p.size : Int), x.w, hlt, by go_num, rfl, rfl, HB2, hb3⟩
              case measure => simp [intOf]; omega
            · have HB2 : Hid (BestR l p (i + 1) (q.p.size : Int) q.w) := .inr ⟨q, rfl, rfl, by rw [HS.out, h3]; exact ofStep_less hle⟩
              have hge : decide ((q.p.size : Int) ≤ (x.p.size : Int)) = false := by simp; omega
              have hge2 : decide (q.p.size ≤ x.p.size) = false := by simp; omega
              clear HS hB hcov h3 hcv
              go_wp2_with fail
              refine (HU.out _).mono ?_
              rintro e w3 ⟨rfl, hbu⟩
              have hb3 := hb.trans (hbu.mono hb.size)
              obtain ⟨e0, e1⟩ := HCE.out _ hbu
              clear c0 c1 hbu
              go_wp2_with fail
              go_roundw
              case rel => exact ⟨i + 1, (q.p.size : Int), q.w, hlt, by go_num, rfl, rfl, HB2, hb3⟩
              case measure => simp [intOf]; omega
      · -- the path itself
        have hcov : covB x p = true := by rw [hcv]; simp [he]
        rcases hB.out with ⟨h1, rfl, rfl⟩ | ⟨q, rfl, rfl, h3⟩
        · have HB2 : Hid (BestR l p (i + 1) (x.p.size : Int) x.w) := .inr ⟨x, rfl, rfl, by rw [HS.out, h1]; exact ofStep_first hcov⟩
          have hge : decide ((-1 : Int) ≤ (x.p.size : Int)) = true := by rw [decide_eq_true_eq]; omega
          clear HS hB hcov h1 hcv
          have hb3 := hb
          go_wp2_with fail
          go_roundw
          case rel => exact ⟨i + 1, (x.p.size : Int), x.w, hlt, by go_num, rfl, rfl, HB2, hb3⟩
          case measure => simp [intOf]; omega
        · by_cases hle : q.p.size ≤ x.p.size
          · have HB2 : Hid (BestR l p (i + 1) (x.p.size : Int) x.w) := .inr ⟨x, rfl, rfl, by rw [HS.out, h3]; exact ofStep_more hcov hle⟩
            have hge : decide ((q.p.size : Int) ≤ (x.p.size : Int)) = true := by simp; omega
            have hge2 : decide (q.p.size ≤ x.p.size) = true := by simp; omega
            clear HS hB hcov h3 hcv
            have hb3 := hb
            go_wp2_with fail
            go_roundw
            case rel => exact ⟨i + 1, (x.p.size : Int), x.w, hlt, by go_num, rfl, rfl, HB2, hb3⟩
            case measure => simp [intOf]; omega
          · have HB2 : Hid (BestR l p (i + 1) (q.p.size : Int) q.w) := .inr ⟨q, rfl, rfl, by rw [HS.out, h3]; exact ofStep_less hle⟩
            have hge : decide ((q.p.size : Int) ≤ (x.p.size : Int)) = false := by simp; omega
            have hge2 : decide (q.p.size ≤ x.p.size) = false := by simp; omega
            clear HS hB hcov h3 hcv
            have hb3 := hb
            go_wp2_with fail
            go_roundw
            case rel => exact ⟨i + 1, (q.p.size : Int), q.w, hlt, by go_num, rfl, rfl, HB2, hb3⟩
            case measure => simp [intOf]; omega
    · have e : i = l.length := by omega
      subst e
      have hB2 := hB.out
      unfold BestR at hB2
      rw [List.take_length] at hB2
      rcases hB2 with ⟨h1, rfl, rfl⟩ | ⟨q, rfl, rfl, h3⟩
      · obtain rfl : R = none := HR.out.trans h1
        clear h1 HR hB
        go_wp2_with fail
        go_ret2
        exact ⟨rfl, hb⟩
      · obtain rfl : R = some q := HR.out.trans h3
        clear h3 HR hB
        have hge : decide ((0 : Int) ≤ (q.p.size : Int)) = true := by simp
        go_wp2_with fail
        go_ret2
        exact ⟨rfl, hb⟩

def lensH (l : List HV) : Nat := (l.map fun o => o.p.size).sum
def lightH (l : List HV) : Bool := decide (l.length ≤ 40) && decide (lensH l ≤ 3000)
theorem lensH_take (l : List HV) (i : Nat) (hi : i < l.length) : lensH (l.take (i + 1)) = lensH (l.take i) + l[i].p.size := by
  unfold lensH
  rw [List.take_succ_eq_append_getElem hi, List.map_append, List.sum_append]
  simp
theorem lensH_le (K : Nat) : ∀ (l : List HV), (∀ o ∈ l, o.p.size ≤ K) → lensH l ≤ l.length * K
  | [], _ => by simp [lensH]
  | o :: l, h => by
    have h1 := h o (by simp)
    have h2 := lensH_le K l (fun o ho => h o (by simp [ho]))
    simp only [lensH, List.map_cons, List.sum_cons, List.length_cons, Nat.add_mul] at h2 ⊢
    omega
theorem lensH_take_le (K : Nat) (l : List HV) (i : Nat) (h : ∀ o ∈ l, o.p.size ≤ K) : lensH (l.take i) ≤ i * K := by
  have h1 := lensH_le K (l.take i) (fun o ho => h o (List.mem_of_mem_take ho))
  have h2 : (l.take i).length ≤ i := List.length_take_le _ _
  have h3 : (l.take i).length * K ≤ i * K := Nat.mul_le_mul_right _ h2
  omega
def SeenH (l : List HV) (i : Nat) (s : Int) : Prop := i ≤ 40 → s = (lensH (l.take i) : Int)
theorem seenH_step {l : List HV} {i : Nat} {s : Int} (hs : SeenH l i s) (hi : i < l.length) (h : ∀ o ∈ l, o.p.size ≤ 140737488355328) : SeenH l (i + 1) (wrap64 (s + (l[i].p.size : Int))) := by
  intro hi2
  have e := hs (by omega)
  have h1 := lensH_take_le 140737488355328 l (i + 1) h
  have h2 := lensH_take l i hi
  have h3 : (i + 1) * 140737488355328 ≤ 41 * 140737488355328 := Nat.mul_le_mul_right _ (by omega)
  rw [h2] at h1 ⊢
  rw [e, IntWalk.wrap64_in _ ⟨by omega, by omega⟩]
  omega
theorem lightH_len {l : List HV} (h : lightH l = true) : l.length ≤ 40 := by
  unfold lightH at h
  simp only [Bool.and_eq_true, decide_eq_true_eq] at h
  exact h.1

set_option maxRecDepth 100000 in
set_option maxHeartbeats 400000 in
theorem lightH_any (A : Option Addr) (c : Nat) (l : List HV) (Z : Nat → Prop) (w : World) (h : Hvs w Z A l) :
    Calls Try.prog 44 #[.slice A l.length c] w fun e w' => e = .returned (.bool (lightH l)) ∧ Below w.heap.size w w' := by
  have hlen := h.len
  go_enter Try.func44, Try.ntmps44
  go_wp2_with fail
  go_loopw [3, 8] (fun sv iv wr => ∃ (i : Nat) (s : Int), i ≤ l.length ∧ iv = .int .i64 (i : Int) ∧ sv = .int .i64 s ∧ SeenH l i s ∧ Below w.heap.size w wr) (fun _ iv _ => l.length - (intOf iv).toNat)
  case atStart => exact ⟨0, 0, Nat.zero_le _, rfl, rfl, by intro _; simp [lensH], Below.refl _ _⟩
  case round =>
    obtain ⟨i, s, hi, rfl, rfl, hs, hb⟩ := hrel
    by_cases hlt : i < l.length
    · obtain ⟨b, off, rfl, hz, hbb, c0, c1⟩ := hv_at (h.rd.below hb) hlt
      have hsz := hb.size
      have hpl := h.p _ (List.getElem_mem hlt)
      have hst := Lib.hid (seenH_step hs hlt h.p)
      generalize l[i] = o at *
      obtain ⟨p, ww⟩ := o
      dsimp only at *
      go_wp2_with fail
      go_roundw
      case rel => exact ⟨i + 1, _, hlt, by go_num, rfl, hst.out, (hb.alloc hsz _)⟩
      case measure => simp [intOf]; omega
    · have e : i = l.length := by omega
      subst e
      by_cases h2 : l.length ≤ 40
      · have hss := hs h2
        rw [List.take_length] at hss
        subst hss
        go_wp2
        all_goals
          go_ret
          exact ⟨ret_b (by unfold lightH; rw [Bool.eq_iff_iff]; simp; omega), hb⟩
      · go_wp2
        all_goals
          go_ret
          exact ⟨ret_b (by unfold lightH; rw [Bool.eq_iff_iff]; simp; omega), hb⟩
end Go.Proofs.Ytffimpjjdhnajaa
