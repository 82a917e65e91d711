/- name.Parts, Depth. -/
import Derived.Test.YtffimpjjdhnajaaNameUser
import Derived.Test.YtffimpjjdhnajaaNameRef
import Derived.Maps.AppendAt
namespace Go.Proofs.Ytffimpjjdhnajaa
open Go.RowKit

attribute [local go_sem] Oper.semAt_some

/-- what holds between two rounds of Parts -/
def ptI (w : World) (D : Nat) (pre : List (List UInt8)) (W : World) : Prop :=
  ∃ A c, Boxed W w.heap.size 31 (.slice A pre.length c) ∧ W.ownsRow (D + 2) 9 1 (.slice A pre.length c) pre.length (pre.map stv) ∧ Below w.heap.size w W
theorem ptI_stands (w : World) (Bn D : Nat) (h1 : w.heap.size < Bn) (h2 : Bn < D) : Stands Bn D (ptI w D) := by
  rintro s A B r ⟨A', c, hb, ho, hw⟩ hg hr
  have hlt : Bn ≤ r := by rcases hr with rfl | ⟨h, _⟩ <;> omega
  refine ⟨A', c, hb.kept hg (by simp; omega), ho.kept hg ?_, hw.grown hg hw.size (fun k e => by cases e; omega)⟩
  rcases ho.2 with ⟨h, _⟩ | ⟨g, cap, cur, e, hgb, hgk, _⟩
  · exact .inl (by rw [h]; rfl)
  · refine .inr fun e' => ?_
    have e2 : r = g := by rw [e] at e'; simpa [Value.ownBlock] using e'.symm
    subst e2
    rcases hr with rfl | ⟨_, o, ho', hc⟩
    · omega
    · rw [hgk] at ho'; cases ho'; cases hc

set_option maxRecDepth 100000 in
set_option maxHeartbeats 1000000 in
theorem parts_good (s : ByteArray) (hs : s.size ≤ 9223372036854775807) (hg : goodB (tl s) = true) (w : World) :
    Calls Try.prog 31 #[.string s] w fun e w' => ∃ A c l, e = .returned (.slice A l.length c) ∧ Hid (l = cutL (tl s)) ∧ Sts w' w.heap.size A c l ∧ Below w.heap.size w w' := by
  have HC := Lib.hid (check_yes s hs hg)
  have hs96 := goodB_len hg
  rw [tl_len] at hs96
  have hcl := cutL_len (tl s)
  rw [tl_len] at hcl
  clear hg
  obtain ⟨i0, hi0, hz0, hz1, hz2⟩ := info_parts str_info
  refine (callsIn_wide (n := 2)).1 ?_
  refine callsIn_of_wp_marks Try.func31 rfl trivial ?_ rfl
  simp only [Try.ntmps31, List.size_toArray, List.length_cons, List.length_nil, Nat.reduceAdd, Nat.reduceSub, Array.replicate_succ, Array.replicate_zero, List.push_toArray, List.append_toArray, List.nil_append, List.cons_append]
  have b0 := Boxed.new w 31 (.slice none 0 0)
  have hl0 : Below w.heap.size w (w.alloc (.cells #[.slice none 0 0] 31)) := (Below.refl _ _).alloc (Nat.le_refl _) _
  have hz : (w.alloc (.cells #[.slice none 0 0] 31)).heap.size = w.heap.size + 1 := by simp
  gi_wp2
  generalize w.alloc (.cells #[.slice none 0 0] 31) = W0 at *
  refine ⟨trivial, ?_⟩
  refine (callsIn_wide.2 (HC.out _)).mono ?_
  rintro e w1 ⟨rfl, hb1⟩
  have b1 : Boxed w1 w.heap.size 31 (.slice none 0 0) := (hb1.block _ b0.lt).trans b0
  have hw1 : Below w.heap.size w w1 := hl0.trans (hb1.mono (by omega))
  have hs1 := hb1.size
  gi_wp2_with (refine ⟨trivial, ?_⟩; gi_at_call 67; refine (callsIn_wide.2 (nameParts_any s _)).mono ?_; rintro e w2 ⟨rfl, rfl⟩)
  have b2 := b1.alloc (.cells #[.string s] 9)
  have bp := Boxed.new w1 9 (.string s)
  have hw2 := hw1.alloc (by omega) (.cells #[.string s] 9)
  have hz2' : (w1.alloc (.cells #[.string s] 9)).heap.size = w1.heap.size + 1 := by simp
  generalize w1.alloc (.cells #[.string s] 9) = V at *
  refine wp_rangeCell (Bn := w1.heap.size) (gf := 88) (lb := #[.pointer (some ⟨w1.heap.size, 0, none⟩)]) (enc := stv) (xs := cutL (tl s)) rfl (enters_of Try.func88 (by kernel_rfl) rfl) (by omega)
    (fun W hW => parts_yields s (by omega) _ W (boxed_eq bp hW)) (ptI w V.heap.size) (fun _ _ => False) (ptI_stands w _ _ (by omega) (by omega)) (fun _ _ _ _ h => h.elim) ⟨none, 0, b2, World.ownsRow_nil _ _ _ _, hw2⟩
    (fun x => { tmps := #[.string s, undef, .pointer (some ⟨w.heap.size, 0, none⟩), stv x, .string s, .int .i64 0, .bool false, .string s, .func (.func 88) #[] #[.pointer (some ⟨w1.heap.size, 0, none⟩)], stv x, undef, undef, undef, undef, undef], defers := [] }) ?assign ?body ?done ?stop
  case assign =>
    intro l x W K hK
    gi_wp2
    exact hK
  case body =>
    rintro l pre x W ⟨A, c, hbx, hown, hB⟩ hpre hsz
    have hpl : pre.length + 1 ≤ 97 := by
      obtain ⟨t, ht⟩ := hpre
      have := congrArg List.length ht
      simp at this
      omega
    have c0 := hbx.cell
    have f0 := hbx.frozen
    have hmx : maxLen = 9223372036854775807 := rfl
    unfold stv
    gi_wp2_with (gi_at_builtin; refine wpListIn_append_own _ rfl _ _ 31 rfl (V.heap.size + 2) 9 i0 (.string ⟨#[]⟩) 1 16 Try.underlying31 hi0 hz0 hz1 hz2 rfl (by decide) _ _ _ rfl (hown.alloc _) ⟨W.heap.size, 0, none⟩ 1 1 [stv x] rfl rfl (cell_one_new _ _ _) (by simp [Value.oneCell', stv]) (by rw [hmx]; omega) (by omega) (by simp; omega) ?_; intro v' w3 hown' hgrow _; obtain ⟨g', cap', rfl⟩ := ownsRow_succ hown'; have hbx3 := (hbx.alloc (.cells #[stv x] 9)).kept hgrow (hbx.not_row (by decide) hown); have c3 := hbx3.cell; have f3 := hbx3.frozen)
    have hbl : ∀ k, (Value.slice A pre.length c).ownBlock = some k → V.heap.size + 2 ≤ k := fun k hk => (hown.lt k hk).1
    refine ⟨fun k hk => ?_, some ⟨g', 0, none⟩, cap', ?_, ?_, ?_⟩
    · have hkW : k < W.heap.size := by omega
      refine (Below.heap_setCell _ _ _ k (by simp; omega)).trans ((hgrow.block k (by simp; omega) (fun e => ?_)).trans (Below.heap_alloc _ _ _ hkW))
      have := hbl k e.symm
      omega
    · rw [List.length_append]
      exact hbx3.set _
    · rw [List.length_append, List.map_append]
      refine World.ownsRow.kept hown' (grown_cell w3 w.heap.size _) (.inr fun e => ?_)
      have := (hown'.lt w.heap.size e).1
      omega
    · refine (hB.alloc hB.size (.cells #[stv x] 9)).grown hgrow (by simp; have := hB.size; omega) (fun k e => ?_) |>.setCell (p := ⟨w.heap.size, 0, none⟩) (Nat.le_refl _) _
      have := hbl k e
      omega
  case done =>
    rintro W ⟨A, c, hbx, hown, hB⟩ hK
    have c0 := hbx.cell
    have f0 := hbx.frozen
    gi_wp2
    have hK' : (W.setCell ⟨w.heap.size, 0, none⟩ (.slice A (cutL (tl s)).length c)).heap[V.heap.size]? = some (.deferred (some [])) := (Below.heap_setCell _ _ _ _ (by simp; omega)).trans hK
    refine ⟨by simp, .inl ⟨_, _, rfl, run_takeDeferred hK', ?_⟩⟩
    have hc5 := (boxed_put (o' := .deferred none) (hbx.set (.slice A (cutL (tl s)).length c)) (show w.heap.size ≠ V.heap.size by omega)).cell
    refine ⟨.slice A (cutL (tl s)).length c, by simp [results, Try.f31, go_sem, hc5], A, c, cutL (tl s), rfl, rfl, ?_, below_put (hB.setCell (p := ⟨w.heap.size, 0, none⟩) (Nat.le_refl _) _) (by omega) hK'⟩
    have h1 := World.ownsRow.kept hown (grown_cell W w.heap.size (.slice A (cutL (tl s)).length c)) (.inr fun e => by have := (hown.lt w.heap.size e).1; omega)
    have h2 := ownsRow_putObj h1 (.deferred none) hK' rfl
    exact (Row.of_own h2).rebase (fun g hg => by have := ((Row.of_own h2).lt g hg).1; omega)
  case stop =>
    rintro pre W hpre h hK
    exact h.elim
set_option maxRecDepth 100000 in
theorem parts_bad (s : ByteArray) (hs : s.size ≤ 9223372036854775807) (hg : goodB (tl s) = false) (w : World) :
    Calls Try.prog 31 #[.string s] w fun e w' => e = .returned (.slice none 0 0) ∧ Below w.heap.size w w' := by
  have HC := Lib.hid (check_no s hs hg)
  clear hg
  have b0 := Boxed.new w 31 (.slice none 0 0)
  have hl0 : Below w.heap.size w (w.alloc (.cells #[.slice none 0 0] 31)) := (Below.refl _ _).alloc (Nat.le_refl _) _
  have hz : (w.alloc (.cells #[.slice none 0 0] 31)).heap.size = w.heap.size + 1 := by simp
  go_enter Try.func31, Try.ntmps31
  go_wp2_with fail
  generalize w.alloc (.cells #[.slice none 0 0] 31) = W0 at *
  refine (HC.out _).mono ?_
  rintro e w1 ⟨rfl, hb1⟩
  have b1 : Boxed w1 w.heap.size 31 (.slice none 0 0) := (hb1.block _ b0.lt).trans b0
  have hw1 : Below w.heap.size w w1 := hl0.trans (hb1.mono (by omega))
  have c0 := b1.cell
  have f0 := b1.frozen
  go_wp2_with fail
  have hc5 := (b1.set (.slice none 0 0)).cell
  refine bodyPost_ret (v := .slice none 0 0) (by simp [results, Try.f31, go_sem, hc5]) rfl ?_
  exact ⟨rfl, hw1.setCell (p := ⟨w.heap.size, 0, none⟩) (Nat.le_refl _) _⟩
end Go.Proofs.Ytffimpjjdhnajaa
