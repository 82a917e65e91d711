/- name.Check. -/
import Derived.Test.YtffimpjjdhnajaaNameSeq
namespace Go.Proofs.Ytffimpjjdhnajaa
open Go.RowKit

attribute [local go_sem] Oper.semAt_some

/-- what holds between two rounds of Check -/
def ckI (w : World) (pre : List (List UInt8)) (W : World) : Prop :=
  Boxed W w.heap.size 35 (.int .i64 0) ∧ Boxed W (w.heap.size + 1) 3 (.int .i64 (pre.length : Int)) ∧ Below w.heap.size w W ∧ (pre.all partB = true ∧ pre.length ≤ 6)
def ckX (w : World) (pre : List (List UInt8)) (W : World) : Prop :=
  Boxed W w.heap.size 35 (.int .i64 23) ∧ Below w.heap.size w W ∧ ¬ (pre.all partB = true ∧ pre.length ≤ 6)
theorem ckI_stands (w : World) : Stands (w.heap.size + 2) (w.heap.size + 3) (ckI w) := by
  rintro s A B r ⟨h1, h2, h3, h4⟩ hg hr
  have hlt : w.heap.size + 2 ≤ r := by rcases hr with rfl | ⟨h, _⟩ <;> omega
  exact ⟨h1.kept hg (by simp; omega), h2.kept hg (by simp; omega), h3.grown hg h3.size (fun k e => by cases e; omega), h4⟩
theorem ckX_stands (w : World) : Stands (w.heap.size + 2) (w.heap.size + 3) (ckX w) := by
  rintro s A B r ⟨h1, h3, h4⟩ hg hr
  have hlt : w.heap.size + 2 ≤ r := by rcases hr with rfl | ⟨h, _⟩ <;> omega
  exact ⟨h1.kept hg (by simp; omega), h3.grown hg h3.size (fun k e => by cases e; omega), h4⟩
theorem ck_done {s : List UInt8} (hs : s.length ≤ 96) (h : (cutL s).all partB = true ∧ (cutL s).length ≤ 6) : (if goodB s then (0 : Int) else 23) = 0 := by
  rw [if_pos]
  unfold goodB
  simp [hs, h.1, h.2]
theorem ck_stop {s : List UInt8} {pre : List (List UInt8)} (hp : pre <+: cutL s) (h : ¬ (pre.all partB = true ∧ pre.length ≤ 6)) : (if goodB s then (0 : Int) else 23) = 23 := by
  rw [if_neg]
  intro hg
  unfold goodB at hg
  simp only [Bool.and_eq_true, decide_eq_true_eq] at hg
  obtain ⟨t, ht⟩ := hp
  refine h ⟨?_, ?_⟩
  · have := hg.1.2
    rw [← ht] at this
    exact all_pre this
  · have := hg.2
    rw [← ht, List.length_append] at this
    omega
theorem below_put {w W : World} {D : Nat} {o o' : Obj} (h : Below w.heap.size w W) (hD : w.heap.size ≤ D) (_ : W.heap[D]? = some o) : Below w.heap.size w (W.putObj D o') :=
  h.grown (grownBy_putObj' W D o') h.size (fun k e => by cases e; exact hD)
theorem boxed_put {W : World} {b D : Nat} {t : TypeId} {v : Value} {o' : Obj} (h : Boxed W b t v) (hD : b ≠ D) : Boxed (W.putObj D o') b t v := h.kept (grownBy_putObj' W D o') (fun e => hD (by cases e; rfl))
theorem grown_cell (W : World) (b : Nat) (v : Value) : W.grownBy (W.setCell ⟨b, 0, none⟩ v) (some b) := grownBy_setCell' W b v

set_option maxRecDepth 100000 in
set_option maxHeartbeats 1000000 in
theorem check_near (s : ByteArray) (hs : s.size ≤ 96) (w : World) :
    Calls Try.prog 28 #[.string s] w fun e w' => e = .returned (.int .i64 (if goodB (tl s) then 0 else 23)) ∧ Below w.heap.size w w' := by
  obtain ⟨R, hR⟩ : ∃ R, R = (if goodB (tl s) then (0 : Int) else 23) := ⟨_, rfl⟩
  rw [← hR]
  have HR := Lib.hid hR
  clear hR
  refine (callsIn_wide (n := 2)).1 ?_
  refine callsIn_of_wp_marks Try.func28 rfl trivial ?_ rfl
  simp only [Try.ntmps28, List.size_toArray, List.length_cons, List.length_nil, Nat.reduceAdd, Nat.reduceSub, Array.replicate_succ, Array.replicate_zero, List.push_toArray, List.append_toArray, List.nil_append, List.cons_append]
  gi_wp2_with (refine ⟨trivial, ?_⟩; gi_at_call 67; refine (callsIn_wide.2 (nameParts_any s _)).mono ?_; rintro e w1 ⟨rfl, rfl⟩)
  have b0 := ((Boxed.new w 35 (.int .i64 0)).alloc (.cells #[.int .i64 0] 3)).alloc (.cells #[.string s] 9)
  have b1 := (Boxed.new (w.alloc (.cells #[.int .i64 0] 35)) 3 (.int .i64 0)).alloc (.cells #[.string s] 9)
  have b2 := Boxed.new ((w.alloc (.cells #[.int .i64 0] 35)).alloc (.cells #[.int .i64 0] 3)) 9 (.string s)
  have hl : Below w.heap.size w (((w.alloc (.cells #[.int .i64 0] 35)).alloc (.cells #[.int .i64 0] 3)).alloc (.cells #[.string s] 9)) := (((Below.refl _ _).alloc (Nat.le_refl _) _).alloc (by simp) _).alloc (by simp; omega) _
  have hz : (((w.alloc (.cells #[.int .i64 0] 35)).alloc (.cells #[.int .i64 0] 3)).alloc (.cells #[.string s] 9)).heap.size = w.heap.size + 3 := by simp
  simp only [World.size_alloc] at b1 b2
  rw [show w.heap.size + 1 + 1 = w.heap.size + 2 by omega] at *
  generalize ((w.alloc (.cells #[.int .i64 0] 35)).alloc (.cells #[.int .i64 0] 3)).alloc (.cells #[.string s] 9) = V at *
  refine wp_rangeCell (Bn := w.heap.size + 2) (gf := 88) (lb := #[.pointer (some ⟨w.heap.size + 2, 0, none⟩)]) (enc := stv) (xs := cutL (tl s)) rfl (enters_of Try.func88 (by kernel_rfl) rfl) (by omega)
    (fun W hW => parts_yields s (by omega) _ W (boxed_eq b2 hW)) (ckI w) (ckX w) (by rw [hz]; exact ckI_stands w) (by rw [hz]; exact ckX_stands w) ⟨b0, b1, hl, rfl, by simp⟩
    (fun x => { tmps := #[.string s, undef, .pointer (some ⟨w.heap.size, 0, none⟩), .pointer (some ⟨w.heap.size + 1, 0, none⟩), stv x, .string s, .int .i64 s.size, .bool (decide (96 < (s.size : Int))), .string s, .func (.func 88) #[] #[.pointer (some ⟨w.heap.size + 2, 0, none⟩)], stv x, undef, undef, undef, undef, undef, undef, undef, undef, undef], defers := [] }) ?assign ?body ?done ?stop
  case assign =>
    intro l x W K hK
    gi_wp2
    exact hK
  case body =>
    rintro l pre x W ⟨h1, h2, h3, h4⟩ hpre _
    have hn := h4.2
    have H4 := Lib.hid h4
    clear h4
    have c0 := h1.cell
    have f0 := h1.frozen
    have c1 := h2.cell
    have f1 := h2.frozen
    have hP := fun w => part_any ⟨⟨x⟩⟩ w
    rw [show tl ⟨⟨x⟩⟩ = x from rfl] at hP
    have HP := Lib.hid hP
    clear hP
    unfold stv
    have hkD : ∀ v, Kept (w.heap.size + 2) V.heap.size W (W.setCell ⟨w.heap.size + 1, 0, none⟩ v) := fun v k hk => Below.heap_setCell _ _ _ k (by simp; omega)
    have h1' := fun v => h1.kept (grown_cell W (w.heap.size + 1) v) (by simp)
    have h2' := fun v => h2.set v
    have h3' := fun v => h3.setCell (p := ⟨w.heap.size + 1, 0, none⟩) (by simp) v
    by_cases h6 : pre.length + 1 ≤ 6
    · have g6 : (pre.length : Int) + 1 ≤ 6 := by omega
      cases hp : partB x
      · rw [hp] at HP
        have HPX := Lib.hid hp
        clear hp
        have c0' := (h1' (.int .i64 ((pre.length : Int) + 1))).cell
        have f0' := (h1' (.int .i64 ((pre.length : Int) + 1))).frozen
        gi_wp2
        refine ⟨trivial, rfl, ?_⟩
        refine (CallsIn.inRound l (callsIn_wide.2 (HP.out _))).mono ?_
        rintro e w1 ⟨rfl, rfl⟩
        gi_wp2
        refine ⟨fun k hk => (Below.heap_setCell _ _ _ k (by simp; omega)).trans (hkD _ k hk), (h1' _).set _, (h3' _).setCell (p := ⟨w.heap.size, 0, none⟩) (by simp) _, ?_⟩
        rintro ⟨g, _⟩
        rw [List.all_append] at g
        simp [HPX.out] at g
      · rw [hp] at HP
        have HPX := Lib.hid hp
        clear hp
        gi_wp2
        refine ⟨trivial, rfl, ?_⟩
        refine (CallsIn.inRound l (callsIn_wide.2 (HP.out _))).mono ?_
        rintro e w1 ⟨rfl, rfl⟩
        gi_wp2
        refine ⟨hkD _, h1' _, ?_, h3' _, ?_, ?_⟩
        · have := h2' (.int .i64 ((pre.length : Int) + 1))
          simpa using this
        · rw [List.all_append, H4.out.1]
          simp [HPX.out]
        · simpa using h6
    · have g6 : 6 < (pre.length : Int) + 1 := by omega
      have c0' := (h1' (.int .i64 ((pre.length : Int) + 1))).cell
      have f0' := (h1' (.int .i64 ((pre.length : Int) + 1))).frozen
      gi_wp2
      refine ⟨trivial, ?_⟩
      gi_wp2
      refine ⟨fun k hk => (Below.heap_setCell _ _ _ k (by simp; omega)).trans (hkD _ k hk), (h1' _).set _, (h3' _).setCell (p := ⟨w.heap.size, 0, none⟩) (by simp) _, ?_⟩
      rintro ⟨_, g⟩
      simp at g
      omega
  case done =>
    rintro W ⟨h1, h2, h3, h4⟩ hK
    have c0 := h1.cell
    have f0 := h1.frozen
    obtain rfl : R = 0 := HR.out.trans (ck_done (by rw [tl_len]; omega) h4)
    clear h4
    gi_wp2
    have hK' : (W.setCell ⟨w.heap.size, 0, none⟩ (.int .i64 0)).heap[V.heap.size]? = some (.deferred (some [])) := (Below.heap_setCell _ _ _ _ (by simp; omega)).trans hK
    refine ⟨by simp, .inl ⟨_, _, rfl, run_takeDeferred hK', ?_⟩⟩
    have hc5 := (boxed_put (o' := .deferred none) (h1.set (.int .i64 0)) (show w.heap.size ≠ V.heap.size by omega)).cell
    refine ⟨.int .i64 0, ?_, rfl, below_put (h3.setCell (p := ⟨w.heap.size, 0, none⟩) (Nat.le_refl _) _) (by omega) hK'⟩
    simp [results, Try.f28, go_sem, hc5]
  case stop =>
    rintro pre W hpre ⟨h1, h3, h4⟩ hK
    have c0 := h1.cell
    have f0 := h1.frozen
    obtain rfl : R = 23 := HR.out.trans (ck_stop hpre h4)
    clear h4
    gi_wp2
    refine ⟨by simp, .inl ⟨_, _, rfl, run_takeDeferred hK, ?_⟩⟩
    have hc5 := (boxed_put (o' := .deferred none) h1 (show w.heap.size ≠ V.heap.size by omega)).cell
    refine ⟨.int .i64 23, ?_, rfl, below_put h3 (by omega) hK⟩
    simp [results, Try.f28, go_sem, hc5]
theorem check_any (s : ByteArray) (hs : s.size ≤ 9223372036854775807) (w : World) :
    Calls Try.prog 28 #[.string s] w fun e w' => e = .returned (.int .i64 (if goodB (tl s) then 0 else 23)) ∧ Below w.heap.size w w' := by
  by_cases h : s.size ≤ 96
  · exact check_near s h w
  · have hr : (if goodB (tl s) then (0 : Int) else 23) = 23 := by
      rw [if_neg]
      unfold goodB
      rw [tl_len]
      simp [h]
    rw [hr]
    clear hr
    have h1 : 96 < (s.size : Int) := by omega
    go_enter Try.func28, Try.ntmps28
    go_wp2_with fail
    refine bodyPost_ret (v := .int .i64 23) (by simp [results, Try.f28, go_sem]) rfl ⟨rfl, ?_⟩
    exact (by repeat (first | exact Below.refl _ _ | refine Below.alloc ?_ (by simp) _ | refine Below.setCell ?_ (by simp) _ | refine Below.drew ?_))
end Go.Proofs.Ytffimpjjdhnajaa
