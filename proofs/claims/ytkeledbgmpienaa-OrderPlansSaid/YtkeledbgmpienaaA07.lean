/- slices.swapRangeCmpFunc, rotateCmpFunc at changes. -/
import Derived.Test.YtkeledbgmpienaaA06

namespace Go.Proofs.Ytkeledbgmpienaa
open Go.RowKit Go.WideShapes Go.ChangeShapes Go.ChangeAt


set_option maxRecDepth 100000 in
set_option maxHeartbeats 2000000 in
theorem swapRange_any (A : Option Addr) (c a b n base : Nat) (X : List CV) (w : World) (h : RowC w base A c X) (hab : a + n ≤ b) (hb : b + n ≤ X.length) (hl : X.length ≤ 1000000) :
    Calls Try.prog 79 #[.slice A X.length c, .int .i64 (a : Int), .int .i64 (b : Int), .int .i64 (n : Int), .func (.func 24) #[] #[]] w fun e w' => e = .returned (.tuple #[]) ∧ (∃ LL, LL.length = X.length ∧ (∀ q, q < X.length → LL[q]? = X[swapAt a b n q]?) ∧ RowC w' base A c LL) ∧ Fr (fun g => ablk A = some g) w w' := by
  have HR := Lib.hid h
  obtain ⟨N, hN⟩ : ∃ N, N = X.length := ⟨_, rfl⟩
  have HN := Lib.hid hN
  rw [← hN] at hl hb ⊢
  clear h hN
  go_enter Try.func79, Try.ntmps79
  go_wp2_with fail
  go_loopw [10] (fun iv wr => ∃ (i : Nat) (LL : List CV), i ≤ n ∧ iv = .int .i64 (i : Int) ∧ Hid (LL.length = N) ∧ Hid (∀ q, q < N → LL[q]? = X[swapAt a b i q]?) ∧ RowC wr base A c LL ∧ Fr (fun g => ablk A = some g) w wr) (fun iv _ => n - (intOf iv).toNat)
  case atStart => exact ⟨0, X, Nat.zero_le _, rfl, Lib.hid HN.out.symm, Lib.hid (fun q hq => by unfold swapAt; rw [if_neg (by omega), if_neg (by omega)]), HR.out, Fr.refl _ _⟩
  case round =>
    obtain ⟨i, LL, hi, rfl, HLN, HG, hr2, hf2⟩ := hrel
    by_cases hlt : i < n
    · obtain ⟨k1, hk1⟩ : ∃ k1 : Nat, k1 = a + i := ⟨_, rfl⟩
      obtain ⟨k2, hk2⟩ : ∃ k2 : Nat, k2 = b + i := ⟨_, rfl⟩
      have HK1 := Lib.hid hk1
      have HK2 := Lib.hid hk2
      have hwa : IntKind.i64.wrap ((a : Int) + (i : Int)) = (k1 : Int) := by rw [IntKind.wrap_i64]; omega
      have hwb : IntKind.i64.wrap ((b : Int) + (i : Int)) = (k2 : Int) := by rw [IntKind.wrap_i64]; omega
      have hi1 : k1 < LL.length := by rw [HLN.out]; omega
      have hi2 : k2 < LL.length := by rw [HLN.out]; omega
      obtain ⟨x, hg1⟩ : ∃ x, LL[k1]? = some x := ⟨_, List.getElem?_eq_getElem hi1⟩
      obtain ⟨y, hg2⟩ : ∃ y, LL[k2]? = some y := ⟨_, List.getElem?_eq_getElem hi2⟩
      have HG1 := Lib.hid (show LL[a + i]? = some x by rw [← hk1]; exact hg1)
      have HG2 := Lib.hid (show LL[b + i]? = some y by rw [← hk2]; exact hg2)
      have hz1 : (k1 : Int) < (N : Int) := by omega
      have hz2 : (k2 : Int) < (N : Int) := by omega
      have hy1 : (0 : Int) ≤ (k1 : Int) := by omega
      have hy2 : (0 : Int) ≤ (k2 : Int) := by omega
      obtain ⟨g, off, rfl, _, hgb2⟩ := hr2.addr (by omega)
      rename World => w2
      clear hk1 hk2
      go_wp2_with fail
      have hC0 : Fr (fun b => b = g) w2 w2.drew := (Fr.refl (fun b => b = g) w2).drew
      have hx9' := (hr2.get hg1).below hgb2 (Below.refl w2.heap.size w2).drew
      have hy9' := (hr2.get hg2).below hgb2 (Below.refl w2.heap.size w2).drew
      have hrd := hr2.drew
      refine wp_region_plan (.tell 0 (.tell 1 (.tell 2 (.tell 3 (.tell 4 (.tell 5 (.tell 6 (.tell 7 (.tell 8 (.tell 9 (.tell 10 (.tell 11 (.tell 12 (.tell 14 (.tell 15 (.tell 16 (.tell 17 (.tell 18 (.two 13 (.one 19 (.tell 20 (.one 21 (.tell 22 (.one 23 .done))))) 19 (.one 13 (.tell 20 (.one 21 (.tell 22 (.one 23 .done)))))))))))))))))))))))) (fun W => Fr (fun b => b = g) w2 W) _ (by kernel_rfl) (by kernel_rfl) ?_ (fun _ _ h => h)
      refine pl_val (by (simp only [List.getElem?_toArray, List.getElem?_cons_succ, List.getElem?_cons_zero]; rfl)) (by kernel_rfl) ⟨_, (by (intro w' hC; clear hC; (try go_simp); (try with_reducible rfl); done)), _, (by (simp only [Act.put, List.setIfInBounds_toArray, List.set_cons_zero, List.set_cons_succ]; rfl)), ?_⟩
      refine pl_val (by (simp only [List.getElem?_toArray, List.getElem?_cons_succ, List.getElem?_cons_zero]; rfl)) (by kernel_rfl) ⟨_, (by (intro w' hC; clear hC; (try go_simp); (try with_reducible rfl); done)), _, (by (simp only [Act.put, List.setIfInBounds_toArray, List.set_cons_zero, List.set_cons_succ]; rfl)), ?_⟩
      refine pl_val (by (simp only [List.getElem?_toArray, List.getElem?_cons_succ, List.getElem?_cons_zero]; rfl)) (by kernel_rfl) ⟨_, (by (intro w' hC; clear hC; (try go_simp); (try with_reducible rfl); done)), _, (by (simp only [Act.put, List.setIfInBounds_toArray, List.set_cons_zero, List.set_cons_succ]; rfl)), ?_⟩
      refine pl_val (by (simp only [List.getElem?_toArray, List.getElem?_cons_succ, List.getElem?_cons_zero]; rfl)) (by kernel_rfl) ⟨_, (by (intro w' hC; clear hC; (try go_simp); (try with_reducible rfl); done)), _, (by (simp only [Act.put, List.setIfInBounds_toArray, List.set_cons_zero, List.set_cons_succ]; rfl)), ?_⟩
      refine pl_val (by (simp only [List.getElem?_toArray, List.getElem?_cons_succ, List.getElem?_cons_zero]; rfl)) (by kernel_rfl) ⟨_, (by (intro w' hC; clear hC; (try go_simp); (try with_reducible rfl); done)), _, (by (simp only [Act.put, List.setIfInBounds_toArray, List.set_cons_zero, List.set_cons_succ]; rfl)), ?_⟩
      refine pl_val (by (simp only [List.getElem?_toArray, List.getElem?_cons_succ, List.getElem?_cons_zero]; rfl)) (by kernel_rfl) ⟨_, (by (intro w' hC; clear hC; (try go_simp); (try with_reducible rfl); done)), _, (by (simp only [Act.put, List.setIfInBounds_toArray, List.set_cons_zero, List.set_cons_succ]; rfl)), ?_⟩
      refine pl_val (by (simp only [List.getElem?_toArray, List.getElem?_cons_succ, List.getElem?_cons_zero]; rfl)) (by kernel_rfl) ⟨_, (by (intro w' hC; clear hC; (try go_simp); (try with_reducible rfl); done)), _, (by (simp only [Act.put, List.setIfInBounds_toArray, List.set_cons_zero, List.set_cons_succ]; rfl)), ?_⟩
      refine pl_val (by (simp only [List.getElem?_toArray, List.getElem?_cons_succ, List.getElem?_cons_zero]; rfl)) (by kernel_rfl) ⟨_, (by (intro w' hC; clear hC; (try go_simp); (try with_reducible rfl); done)), _, (by (simp only [Act.put, List.setIfInBounds_toArray, List.set_cons_zero, List.set_cons_succ]; rfl)), ?_⟩
      refine pl_val (by (simp only [List.getElem?_toArray, List.getElem?_cons_succ, List.getElem?_cons_zero]; rfl)) (by kernel_rfl) ⟨_, (by (intro w' hC; clear hC; (try go_simp); (try with_reducible rfl); done)), _, (by (simp only [Act.put, List.setIfInBounds_toArray, List.set_cons_zero, List.set_cons_succ]; rfl)), ?_⟩
      refine pl_val (by (simp only [List.getElem?_toArray, List.getElem?_cons_succ, List.getElem?_cons_zero]; rfl)) (by kernel_rfl) ⟨_, (by (intro w' hC; clear hC; (try go_simp); (try with_reducible rfl); done)), _, (by (simp only [Act.put, List.setIfInBounds_toArray, List.set_cons_zero, List.set_cons_succ]; rfl)), ?_⟩
      refine pl_val (by (simp only [List.getElem?_toArray, List.getElem?_cons_succ, List.getElem?_cons_zero]; rfl)) (by kernel_rfl) ⟨_, (by (intro w' hC; clear hC; (try go_simp); (try with_reducible rfl); done)), _, (by (simp only [Act.put, List.setIfInBounds_toArray, List.set_cons_zero, List.set_cons_succ]; rfl)), ?_⟩
      refine pl_val (by (simp only [List.getElem?_toArray, List.getElem?_cons_succ, List.getElem?_cons_zero]; rfl)) (by kernel_rfl) ⟨_, (by (intro w' hC; clear hC; (try go_simp); (try with_reducible rfl); done)), _, (by (simp only [Act.put, List.setIfInBounds_toArray, List.set_cons_zero, List.set_cons_succ]; rfl)), ?_⟩
      refine pl_val (by (simp only [List.getElem?_toArray, List.getElem?_cons_succ, List.getElem?_cons_zero]; rfl)) (by kernel_rfl) ⟨_, (by (intro w' hC; clear hC; (try go_simp); (try with_reducible rfl); done)), _, (by (simp only [Act.put, List.setIfInBounds_toArray, List.set_cons_zero, List.set_cons_succ]; rfl)), ?_⟩
      refine pl_val (by (simp only [List.getElem?_toArray, List.getElem?_cons_succ, List.getElem?_cons_zero]; rfl)) (by kernel_rfl) ⟨_, (by (intro w' hC; clear hC; (try go_simp); (try with_reducible rfl); done)), _, (by (simp only [Act.put, List.setIfInBounds_toArray, List.set_cons_zero, List.set_cons_succ]; rfl)), ?_⟩
      refine pl_val (by (simp only [List.getElem?_toArray, List.getElem?_cons_succ, List.getElem?_cons_zero]; rfl)) (by kernel_rfl) ⟨_, (by (intro w' hC; clear hC; (try go_simp); (try with_reducible rfl); done)), _, (by (simp only [Act.put, List.setIfInBounds_toArray, List.set_cons_zero, List.set_cons_succ]; rfl)), ?_⟩
      refine pl_val (by (simp only [List.getElem?_toArray, List.getElem?_cons_succ, List.getElem?_cons_zero]; rfl)) (by kernel_rfl) ⟨_, (by (intro w' hC; clear hC; (try go_simp); (try with_reducible rfl); done)), _, (by (simp only [Act.put, List.setIfInBounds_toArray, List.set_cons_zero, List.set_cons_succ]; rfl)), ?_⟩
      refine pl_val (by (simp only [List.getElem?_toArray, List.getElem?_cons_succ, List.getElem?_cons_zero]; rfl)) (by kernel_rfl) ⟨_, (by (intro w' hC; clear hC; (try go_simp); (try with_reducible rfl); done)), _, (by (simp only [Act.put, List.setIfInBounds_toArray, List.set_cons_zero, List.set_cons_succ]; rfl)), ?_⟩
      refine pl_val (by (simp only [List.getElem?_toArray, List.getElem?_cons_succ, List.getElem?_cons_zero]; rfl)) (by kernel_rfl) ⟨_, (by (intro w' hC; clear hC; (try go_simp); (try with_reducible rfl); done)), _, (by (simp only [Act.put, List.setIfInBounds_toArray, List.set_cons_zero, List.set_cons_succ]; rfl)), ?_⟩
      clear hr2
      generalize w2.drew = wd at *
      obtain ⟨x0, x1, x2, x3, x4, x5, x6, x7, x8⟩ := hx9'
      obtain ⟨y0, y1, y2, y3, y4, y5, y6, y7, y8⟩ := hy9'
      have fz := fun o => hrd.frozen o
      refine pl_two (by (simp only [List.getElem?_toArray, List.getElem?_cons_succ, List.getElem?_cons_zero]; rfl)) (by (simp only [List.getElem?_toArray, List.getElem?_cons_succ, List.getElem?_cons_zero]; rfl)) hC0 ?_ ?_
      · refine al_val (by kernel_rfl) ⟨_, _, (by (go_simp; first | done | exact ⟨rfl, rfl⟩)), _, (by (simp only [Act.put, List.setIfInBounds_toArray, List.set_cons_zero, List.set_cons_succ]; rfl)), ?_⟩
        refine pl_one (by (simp only [List.getElem?_toArray, List.getElem?_cons_succ, List.getElem?_cons_zero]; rfl)) hC0 ?_
        refine al_val (by kernel_rfl) ⟨_, _, (by (go_simp; first | done | exact ⟨rfl, rfl⟩)), _, (by (simp only [Act.put, List.setIfInBounds_toArray, List.set_cons_zero, List.set_cons_succ]; rfl)), ?_⟩
        refine pl_val (by (simp only [List.getElem?_toArray, List.getElem?_cons_succ, List.getElem?_cons_zero]; rfl)) (by kernel_rfl) ⟨_, (by (intro w' hC; clear hC; (try go_simp); (try with_reducible rfl); done)), _, (by (simp only [Act.put, List.setIfInBounds_toArray, List.set_cons_zero, List.set_cons_succ]; rfl)), ?_⟩
        refine pl_one (by (simp only [List.getElem?_toArray, List.getElem?_cons_succ, List.getElem?_cons_zero]; rfl)) hC0 ?_
        refine al_skip (by kernel_rfl) ⟨_, (by (go_simp; first | done | rfl)), _, (by (simp only [Act.put, List.setIfInBounds_toArray, List.set_cons_zero, List.set_cons_succ]; rfl)), ?_⟩
        have hr3 := RowC.setCh hrd hi1 y
        change RowC (((((((((wd.setCell ⟨g, off + k1 * 9, none⟩ (.string y.p)).setCell ⟨g, off + k1 * 9 + 1, none⟩ (.int .i64 y.b)).setCell ⟨g, off + k1 * 9 + 2, none⟩ (.bool y.m)).setCell ⟨g, off + k1 * 9 + 3, none⟩ (.bool y.t)).setCell ⟨g, off + k1 * 9 + 4, none⟩ (.int .i64 y.k)).setCell ⟨g, off + k1 * 9 + 5, none⟩ (.int .i64 y.o)).setCell ⟨g, off + k1 * 9 + 6, none⟩ (.int .i64 y.s)).setCell ⟨g, off + k1 * 9 + 7, none⟩ (.int .i64 y.l)).setCell ⟨g, off + k1 * 9 + 8, none⟩ (.int .i64 y.v)) base (some ⟨g, off, none⟩) c (LL.set k1 y) at hr3
        have hf3 : Fr (fun b => b = g) w2 (((((((((wd.setCell ⟨g, off + k1 * 9, none⟩ (.string y.p)).setCell ⟨g, off + k1 * 9 + 1, none⟩ (.int .i64 y.b)).setCell ⟨g, off + k1 * 9 + 2, none⟩ (.bool y.m)).setCell ⟨g, off + k1 * 9 + 3, none⟩ (.bool y.t)).setCell ⟨g, off + k1 * 9 + 4, none⟩ (.int .i64 y.k)).setCell ⟨g, off + k1 * 9 + 5, none⟩ (.int .i64 y.o)).setCell ⟨g, off + k1 * 9 + 6, none⟩ (.int .i64 y.s)).setCell ⟨g, off + k1 * 9 + 7, none⟩ (.int .i64 y.l)).setCell ⟨g, off + k1 * 9 + 8, none⟩ (.int .i64 y.v)) := hC0.trans (setCh_fr wd g (off + k1 * 9) y) (fun _ _ e => e)
        clear x0 x1 x2 x3 x4 x5 x6 x7 x8 y0 y1 y2 y3 y4 y5 y6 y7 y8 fz
        generalize (((((((((wd.setCell ⟨g, off + k1 * 9, none⟩ (.string y.p)).setCell ⟨g, off + k1 * 9 + 1, none⟩ (.int .i64 y.b)).setCell ⟨g, off + k1 * 9 + 2, none⟩ (.bool y.m)).setCell ⟨g, off + k1 * 9 + 3, none⟩ (.bool y.t)).setCell ⟨g, off + k1 * 9 + 4, none⟩ (.int .i64 y.k)).setCell ⟨g, off + k1 * 9 + 5, none⟩ (.int .i64 y.o)).setCell ⟨g, off + k1 * 9 + 6, none⟩ (.int .i64 y.s)).setCell ⟨g, off + k1 * 9 + 7, none⟩ (.int .i64 y.l)).setCell ⟨g, off + k1 * 9 + 8, none⟩ (.int .i64 y.v)) = w3 at *
        have hk0 : k2 < (LL.set k1 y).length := by rw [List.length_set]; exact hi2
        have hy3 := hr3.at9 hk0
        obtain ⟨y0, y1, y2, y3, y4, y5, y6, y7, y8⟩ := hy3
        have fz := fun o => hr3.frozen o
        refine pl_val (by (simp only [List.getElem?_toArray, List.getElem?_cons_succ, List.getElem?_cons_zero]; rfl)) (by kernel_rfl) ⟨_, (by (intro w' hC; clear hC; (try go_simp); (try with_reducible rfl); done)), _, (by (simp only [Act.put, List.setIfInBounds_toArray, List.set_cons_zero, List.set_cons_succ]; rfl)), ?_⟩
        refine pl_one (by (simp only [List.getElem?_toArray, List.getElem?_cons_succ, List.getElem?_cons_zero]; rfl)) hf3 ?_
        refine al_skip (by kernel_rfl) ⟨_, (by (go_simp; first | done | rfl)), _, (by (simp only [Act.put, List.setIfInBounds_toArray, List.set_cons_zero, List.set_cons_succ]; rfl)), ?_⟩
        have hr5 := RowC.setCh hr3 hk0 x
        change RowC (((((((((w3.setCell ⟨g, off + k2 * 9, none⟩ (.string x.p)).setCell ⟨g, off + k2 * 9 + 1, none⟩ (.int .i64 x.b)).setCell ⟨g, off + k2 * 9 + 2, none⟩ (.bool x.m)).setCell ⟨g, off + k2 * 9 + 3, none⟩ (.bool x.t)).setCell ⟨g, off + k2 * 9 + 4, none⟩ (.int .i64 x.k)).setCell ⟨g, off + k2 * 9 + 5, none⟩ (.int .i64 x.o)).setCell ⟨g, off + k2 * 9 + 6, none⟩ (.int .i64 x.s)).setCell ⟨g, off + k2 * 9 + 7, none⟩ (.int .i64 x.l)).setCell ⟨g, off + k2 * 9 + 8, none⟩ (.int .i64 x.v)) base (some ⟨g, off, none⟩) c ((LL.set k1 y).set k2 x) at hr5
        have hf5 : Fr (fun b => b = g) w2 (((((((((w3.setCell ⟨g, off + k2 * 9, none⟩ (.string x.p)).setCell ⟨g, off + k2 * 9 + 1, none⟩ (.int .i64 x.b)).setCell ⟨g, off + k2 * 9 + 2, none⟩ (.bool x.m)).setCell ⟨g, off + k2 * 9 + 3, none⟩ (.bool x.t)).setCell ⟨g, off + k2 * 9 + 4, none⟩ (.int .i64 x.k)).setCell ⟨g, off + k2 * 9 + 5, none⟩ (.int .i64 x.o)).setCell ⟨g, off + k2 * 9 + 6, none⟩ (.int .i64 x.s)).setCell ⟨g, off + k2 * 9 + 7, none⟩ (.int .i64 x.l)).setCell ⟨g, off + k2 * 9 + 8, none⟩ (.int .i64 x.v)) := hf3.trans (setCh_fr w3 g (off + k2 * 9) x) (fun _ _ e => e)
        refine pl_end hf5 ?_
        simp only [Plan.count, Nat.reduceAdd, List.drop_succ_cons, List.drop_zero]
        generalize (((((((((w3.setCell ⟨g, off + k2 * 9, none⟩ (.string x.p)).setCell ⟨g, off + k2 * 9 + 1, none⟩ (.int .i64 x.b)).setCell ⟨g, off + k2 * 9 + 2, none⟩ (.bool x.m)).setCell ⟨g, off + k2 * 9 + 3, none⟩ (.bool x.t)).setCell ⟨g, off + k2 * 9 + 4, none⟩ (.int .i64 x.k)).setCell ⟨g, off + k2 * 9 + 5, none⟩ (.int .i64 x.o)).setCell ⟨g, off + k2 * 9 + 6, none⟩ (.int .i64 x.s)).setCell ⟨g, off + k2 * 9 + 7, none⟩ (.int .i64 x.l)).setCell ⟨g, off + k2 * 9 + 8, none⟩ (.int .i64 x.v)) = w5 at *
        clear y0 y1 y2 y3 y4 y5 y6 y7 y8 fz hr3 hf3 hrd hC0 hk0
        have HY5 : Hid (∀ q, q < N → ((LL.set k1 y).set k2 x)[q]? = X[swapAt a b (i + 1) q]?) := Lib.hid (fun q hq => by
          have e1 := HK1.out
          have e2 := HK2.out
          subst e1 e2
          exact swap_step (by omega) (by rw [HLN.out, HN.out]) (by rw [← HN.out]; omega) (fun q hq => HG.out q (by rw [HN.out]; exact hq)) HG1.out HG2.out q (by rw [← HN.out]; exact hq))
        have HR5 := Lib.hid hr5
        have HF5 := Lib.hid (hf2.trans hf5 (fun _ _ e => by rw [e]; rfl))
        have HL5 : Hid (((LL.set k1 y).set k2 x).length = N) := Lib.hid (by rw [List.length_set, List.length_set]; exact HLN.out)
        clear hr5 hf5
        go_wp2_with fail
        go_roundw
        case rel => exact ⟨i + 1, (LL.set k1 y).set k2 x, by omega, by go_num, HL5, HY5, HR5.out, HF5.out⟩
        case measure => simp [intOf]; omega
      · refine al_val (by kernel_rfl) ⟨_, _, (by (go_simp; first | done | exact ⟨rfl, rfl⟩)), _, (by (simp only [Act.put, List.setIfInBounds_toArray, List.set_cons_zero, List.set_cons_succ]; rfl)), ?_⟩
        refine pl_one (by (simp only [List.getElem?_toArray, List.getElem?_cons_succ, List.getElem?_cons_zero]; rfl)) hC0 ?_
        refine al_val (by kernel_rfl) ⟨_, _, (by (go_simp; first | done | exact ⟨rfl, rfl⟩)), _, (by (simp only [Act.put, List.setIfInBounds_toArray, List.set_cons_zero, List.set_cons_succ]; rfl)), ?_⟩
        refine pl_val (by (simp only [List.getElem?_toArray, List.getElem?_cons_succ, List.getElem?_cons_zero]; rfl)) (by kernel_rfl) ⟨_, (by (intro w' hC; clear hC; (try go_simp); (try with_reducible rfl); done)), _, (by (simp only [Act.put, List.setIfInBounds_toArray, List.set_cons_zero, List.set_cons_succ]; rfl)), ?_⟩
        refine pl_one (by (simp only [List.getElem?_toArray, List.getElem?_cons_succ, List.getElem?_cons_zero]; rfl)) hC0 ?_
        refine al_skip (by kernel_rfl) ⟨_, (by (go_simp; first | done | rfl)), _, (by (simp only [Act.put, List.setIfInBounds_toArray, List.set_cons_zero, List.set_cons_succ]; rfl)), ?_⟩
        have hr3 := RowC.setCh hrd hi1 y
        change RowC (((((((((wd.setCell ⟨g, off + k1 * 9, none⟩ (.string y.p)).setCell ⟨g, off + k1 * 9 + 1, none⟩ (.int .i64 y.b)).setCell ⟨g, off + k1 * 9 + 2, none⟩ (.bool y.m)).setCell ⟨g, off + k1 * 9 + 3, none⟩ (.bool y.t)).setCell ⟨g, off + k1 * 9 + 4, none⟩ (.int .i64 y.k)).setCell ⟨g, off + k1 * 9 + 5, none⟩ (.int .i64 y.o)).setCell ⟨g, off + k1 * 9 + 6, none⟩ (.int .i64 y.s)).setCell ⟨g, off + k1 * 9 + 7, none⟩ (.int .i64 y.l)).setCell ⟨g, off + k1 * 9 + 8, none⟩ (.int .i64 y.v)) base (some ⟨g, off, none⟩) c (LL.set k1 y) at hr3
        have hf3 : Fr (fun b => b = g) w2 (((((((((wd.setCell ⟨g, off + k1 * 9, none⟩ (.string y.p)).setCell ⟨g, off + k1 * 9 + 1, none⟩ (.int .i64 y.b)).setCell ⟨g, off + k1 * 9 + 2, none⟩ (.bool y.m)).setCell ⟨g, off + k1 * 9 + 3, none⟩ (.bool y.t)).setCell ⟨g, off + k1 * 9 + 4, none⟩ (.int .i64 y.k)).setCell ⟨g, off + k1 * 9 + 5, none⟩ (.int .i64 y.o)).setCell ⟨g, off + k1 * 9 + 6, none⟩ (.int .i64 y.s)).setCell ⟨g, off + k1 * 9 + 7, none⟩ (.int .i64 y.l)).setCell ⟨g, off + k1 * 9 + 8, none⟩ (.int .i64 y.v)) := hC0.trans (setCh_fr wd g (off + k1 * 9) y) (fun _ _ e => e)
        clear x0 x1 x2 x3 x4 x5 x6 x7 x8 y0 y1 y2 y3 y4 y5 y6 y7 y8 fz
        generalize (((((((((wd.setCell ⟨g, off + k1 * 9, none⟩ (.string y.p)).setCell ⟨g, off + k1 * 9 + 1, none⟩ (.int .i64 y.b)).setCell ⟨g, off + k1 * 9 + 2, none⟩ (.bool y.m)).setCell ⟨g, off + k1 * 9 + 3, none⟩ (.bool y.t)).setCell ⟨g, off + k1 * 9 + 4, none⟩ (.int .i64 y.k)).setCell ⟨g, off + k1 * 9 + 5, none⟩ (.int .i64 y.o)).setCell ⟨g, off + k1 * 9 + 6, none⟩ (.int .i64 y.s)).setCell ⟨g, off + k1 * 9 + 7, none⟩ (.int .i64 y.l)).setCell ⟨g, off + k1 * 9 + 8, none⟩ (.int .i64 y.v)) = w3 at *
        have hk0 : k2 < (LL.set k1 y).length := by rw [List.length_set]; exact hi2
        have hy3 := hr3.at9 hk0
        obtain ⟨y0, y1, y2, y3, y4, y5, y6, y7, y8⟩ := hy3
        have fz := fun o => hr3.frozen o
        refine pl_val (by (simp only [List.getElem?_toArray, List.getElem?_cons_succ, List.getElem?_cons_zero]; rfl)) (by kernel_rfl) ⟨_, (by (intro w' hC; clear hC; (try go_simp); (try with_reducible rfl); done)), _, (by (simp only [Act.put, List.setIfInBounds_toArray, List.set_cons_zero, List.set_cons_succ]; rfl)), ?_⟩
        refine pl_one (by (simp only [List.getElem?_toArray, List.getElem?_cons_succ, List.getElem?_cons_zero]; rfl)) hf3 ?_
        refine al_skip (by kernel_rfl) ⟨_, (by (go_simp; first | done | rfl)), _, (by (simp only [Act.put, List.setIfInBounds_toArray, List.set_cons_zero, List.set_cons_succ]; rfl)), ?_⟩
        have hr5 := RowC.setCh hr3 hk0 x
        change RowC (((((((((w3.setCell ⟨g, off + k2 * 9, none⟩ (.string x.p)).setCell ⟨g, off + k2 * 9 + 1, none⟩ (.int .i64 x.b)).setCell ⟨g, off + k2 * 9 + 2, none⟩ (.bool x.m)).setCell ⟨g, off + k2 * 9 + 3, none⟩ (.bool x.t)).setCell ⟨g, off + k2 * 9 + 4, none⟩ (.int .i64 x.k)).setCell ⟨g, off + k2 * 9 + 5, none⟩ (.int .i64 x.o)).setCell ⟨g, off + k2 * 9 + 6, none⟩ (.int .i64 x.s)).setCell ⟨g, off + k2 * 9 + 7, none⟩ (.int .i64 x.l)).setCell ⟨g, off + k2 * 9 + 8, none⟩ (.int .i64 x.v)) base (some ⟨g, off, none⟩) c ((LL.set k1 y).set k2 x) at hr5
        have hf5 : Fr (fun b => b = g) w2 (((((((((w3.setCell ⟨g, off + k2 * 9, none⟩ (.string x.p)).setCell ⟨g, off + k2 * 9 + 1, none⟩ (.int .i64 x.b)).setCell ⟨g, off + k2 * 9 + 2, none⟩ (.bool x.m)).setCell ⟨g, off + k2 * 9 + 3, none⟩ (.bool x.t)).setCell ⟨g, off + k2 * 9 + 4, none⟩ (.int .i64 x.k)).setCell ⟨g, off + k2 * 9 + 5, none⟩ (.int .i64 x.o)).setCell ⟨g, off + k2 * 9 + 6, none⟩ (.int .i64 x.s)).setCell ⟨g, off + k2 * 9 + 7, none⟩ (.int .i64 x.l)).setCell ⟨g, off + k2 * 9 + 8, none⟩ (.int .i64 x.v)) := hf3.trans (setCh_fr w3 g (off + k2 * 9) x) (fun _ _ e => e)
        refine pl_end hf5 ?_
        simp only [Plan.count, Nat.reduceAdd, List.drop_succ_cons, List.drop_zero]
        generalize (((((((((w3.setCell ⟨g, off + k2 * 9, none⟩ (.string x.p)).setCell ⟨g, off + k2 * 9 + 1, none⟩ (.int .i64 x.b)).setCell ⟨g, off + k2 * 9 + 2, none⟩ (.bool x.m)).setCell ⟨g, off + k2 * 9 + 3, none⟩ (.bool x.t)).setCell ⟨g, off + k2 * 9 + 4, none⟩ (.int .i64 x.k)).setCell ⟨g, off + k2 * 9 + 5, none⟩ (.int .i64 x.o)).setCell ⟨g, off + k2 * 9 + 6, none⟩ (.int .i64 x.s)).setCell ⟨g, off + k2 * 9 + 7, none⟩ (.int .i64 x.l)).setCell ⟨g, off + k2 * 9 + 8, none⟩ (.int .i64 x.v)) = w5 at *
        clear y0 y1 y2 y3 y4 y5 y6 y7 y8 fz hr3 hf3 hrd hC0 hk0
        have HY5 : Hid (∀ q, q < N → ((LL.set k1 y).set k2 x)[q]? = X[swapAt a b (i + 1) q]?) := Lib.hid (fun q hq => by
          have e1 := HK1.out
          have e2 := HK2.out
          subst e1 e2
          exact swap_step (by omega) (by rw [HLN.out, HN.out]) (by rw [← HN.out]; omega) (fun q hq => HG.out q (by rw [HN.out]; exact hq)) HG1.out HG2.out q (by rw [← HN.out]; exact hq))
        have HR5 := Lib.hid hr5
        have HF5 := Lib.hid (hf2.trans hf5 (fun _ _ e => by rw [e]; rfl))
        have HL5 : Hid (((LL.set k1 y).set k2 x).length = N) := Lib.hid (by rw [List.length_set, List.length_set]; exact HLN.out)
        clear hr5 hf5
        go_wp2_with fail
        go_roundw
        case rel => exact ⟨i + 1, (LL.set k1 y).set k2 x, by omega, by go_num, HL5, HY5, HR5.out, HF5.out⟩
        case measure => simp [intOf]; omega
    · have e : i = n := by omega
      subst e
      have HRE : Hid (∃ LL : List CV, LL.length = N ∧ (∀ q, q < N → LL[q]? = X[swapAt a b i q]?) ∧ RowC wr base A c LL) := Lib.hid ⟨LL, HLN.out, HG.out, hr2⟩
      have HFE := Lib.hid hf2
      clear hr2 hf2 HG HLN
      go_wp2_with fail
      go_end0
      exact ⟨rfl, HRE.out, HFE.out⟩


theorem cut_eq1 {α : Type} (P U V Q : List α) (j : Nat) : P ++ U ++ V ++ Q = P ++ U.take j ++ U.drop j ++ V ++ Q := by rw [List.append_assoc P (U.take j), List.take_append_drop]
theorem cut_eq2 {α : Type} (P U V Q : List α) (j : Nat) : P ++ U ++ V ++ Q = P ++ U ++ V.take j ++ V.drop j ++ Q := by rw [List.append_assoc (P ++ U) (V.take j), List.take_append_drop]
theorem swap_shape2 {α : Type} {P U M V Q X LL : List α} {a b n : Nat} (hX : X = P ++ U ++ M ++ V ++ Q) (hP : P.length = a) (hU : U.length = n) (hV : V.length = n) (hb : a + n + M.length = b) (hl : LL.length = X.length)
    (h : ∀ q, q < X.length → LL[q]? = X[swapAt a b n q]?) : LL = P ++ V ++ M ++ U ++ Q := by
  subst hX
  exact swap_shape hP hU hV hb hl (fun q hq => h q (by rw [← hl]; exact hq))
set_option maxRecDepth 100000 in
set_option maxHeartbeats 2000000 in
theorem rotate_any (A : Option Addr) (c a m b N base : Nat) (P U V Q : List CV) (w : World) (h : RowC w base A c (P ++ U ++ V ++ Q)) (hN : N = (P ++ U ++ V ++ Q).length) (hP : P.length = a) (hU : a + U.length = m) (hV : m + V.length = b) (h1 : 0 < U.length) (h2 : 0 < V.length) (hl : N ≤ 1000000) :
    Calls Try.prog 70 #[.slice A N c, .int .i64 (a : Int), .int .i64 (m : Int), .int .i64 (b : Int), .func (.func 24) #[] #[]] w fun e w' => e = .returned (.tuple #[]) ∧ RowC w' base A c (P ++ V ++ U ++ Q) ∧ Fr (fun g => ablk A = some g) w w' := by
  have HR := Lib.hid h
  have HN := Lib.hid hN
  have HP := Lib.hid hP
  have HU := Lib.hid hU
  have HV := Lib.hid hV
  have hNL : m + V.length + Q.length = N := by rw [hN]; simp only [List.length_append]; omega
  obtain ⟨T, hT⟩ : ∃ T, T = P ++ V ++ U ++ Q := ⟨_, rfl⟩
  have HT := Lib.hid hT
  rw [← hT]
  have hwi : IntKind.i64.wrap ((m : Int) - (a : Int)) = (U.length : Int) := by rw [IntKind.wrap_i64]; omega
  have hwj : IntKind.i64.wrap ((b : Int) - (m : Int)) = (V.length : Int) := by rw [IntKind.wrap_i64]; omega
  have hmN : m ≤ N := by omega
  obtain ⟨i0, hi0⟩ : ∃ i0, i0 = U.length := ⟨_, rfl⟩
  obtain ⟨j0, hj0⟩ : ∃ j0, j0 = V.length := ⟨_, rfl⟩
  rw [← hi0] at hwi
  rw [← hj0] at hwj
  have HI := Lib.hid hi0
  have HJ := Lib.hid hj0
  clear h hN hP hU hV hT hNL hi0 hj0
  go_enter Try.func70, Try.ntmps70
  go_wp2_with fail
  go_loopw [10, 11] (fun iv jv wr => ∃ (i j : Nat) (P' U' V' Q' : List CV), iv = .int .i64 (i : Int) ∧ jv = .int .i64 (j : Int) ∧ 0 < i ∧ 0 < j ∧ Hid (U'.length = i) ∧ Hid (V'.length = j) ∧ i ≤ m ∧ m + j ≤ N ∧ Hid (P'.length + i = m) ∧ Hid ((P' ++ U' ++ V' ++ Q').length = N) ∧ Hid (P' ++ V' ++ U' ++ Q' = T) ∧ RowC wr base A c (P' ++ U' ++ V' ++ Q') ∧ Fr (fun g => ablk A = some g) w wr) (fun iv jv _ => (intOf iv).toNat + (intOf jv).toNat)
  case atStart => exact ⟨i0, j0, P, U, V, Q, rfl, rfl, by rw [HI.out]; exact h1, by rw [HJ.out]; exact h2, Lib.hid HI.out.symm, Lib.hid HJ.out.symm, by have := HU.out; rw [HI.out]; omega, by have := HN.out; simp only [List.length_append] at this; have := HU.out; have := HP.out; rw [HJ.out]; omega, Lib.hid (by rw [HP.out, HI.out]; exact HU.out), Lib.hid HN.out.symm, Lib.hid HT.out.symm, HR.out, Fr.refl _ _⟩
  case round =>
    obtain ⟨i, j, P', U', V', Q', rfl, rfl, hi, hj, HUi, HVj, him, hmj, HPi, HNl, HTT, hr, hf⟩ := hrel
    have hwm : IntKind.i64.wrap ((m : Int) - (i : Int)) = ((m - i : Nat) : Int) := by rw [IntKind.wrap_i64]; omega
    obtain ⟨X, hX⟩ : ∃ X, X = P' ++ U' ++ V' ++ Q' := ⟨_, rfl⟩
    rw [← hX] at hr
    have HX := Lib.hid hX
    have hXN : X.length = N := by rw [hX]; exact HNl.out
    have hPm : P'.length = m - i := by have := HPi.out; omega
    have hlen := HNl.out
    simp only [List.length_append] at hlen
    rw [HUi.out, HVj.out] at hlen
    by_cases hne : i = j
    · subst hne
      have HS := Lib.hid (swapRange_any A c (m - i) m i base X wr hr (by omega) (by omega) (by omega))
      rw [hXN] at HS
      have HPM := Lib.hid hPm
      have HXN := Lib.hid hXN
      obtain ⟨k, hk⟩ : ∃ k, k = m - i := ⟨_, rfl⟩
      have HK := Lib.hid hk
      rw [← hk] at HS hwm HPM
      clear hX hXN hPm hlen hr hk
      go_wp2_with fail
      refine HS.out.mono ?_
      rintro e w2 ⟨rfl, ⟨LL, hLl, hLq, hr2⟩, hf2⟩
      have HSH : Hid (LL = P' ++ V' ++ [] ++ U' ++ Q') := Lib.hid (swap_shape2 (X := X) (M := []) (a := k) (b := m) (n := i) (by rw [HX.out]; simp) HPM.out HUi.out HVj.out (by rw [HK.out]; simp; omega) (by rw [hLl, HXN.out]) (fun q hq => hLq q (by rw [← HXN.out]; exact hq)))
      have HRE : Hid (RowC w2 base A c T) := Lib.hid (by rw [← HTT.out]; have := HSH.out; rw [List.append_nil] at this; rw [← this]; exact hr2)
      have HFE := Lib.hid (hf.trans hf2 (fun _ _ e => e))
      clear hLl hLq hr2 hf2 hf
      go_wp2_with fail
      go_end0
      exact ⟨rfl, HRE.out, HFE.out⟩
    · have hned : ((i : Int) != (j : Int)) = true := by simp; omega
      by_cases hgt : j < i
      · have HS := Lib.hid (swapRange_any A c (m - i) m j base X wr hr (by omega) (by omega) (by omega))
        rw [hXN] at HS
        have HPM := Lib.hid hPm
        have HXN := Lib.hid hXN
        have hwd : IntKind.i64.wrap ((i : Int) - (j : Int)) = ((i - j : Nat) : Int) := by rw [IntKind.wrap_i64]; omega
        obtain ⟨k, hk⟩ : ∃ k, k = m - i := ⟨_, rfl⟩
        obtain ⟨d, hd⟩ : ∃ d, d = i - j := ⟨_, rfl⟩
        have HK := Lib.hid hk
        have HD := Lib.hid hd
        rw [← hk] at HS hwm HPM
        rw [← hd] at hwd
        have HLEN := Lib.hid hlen
        clear hX hXN hPm hlen hr hk hd
        go_wp2_with fail
        refine HS.out.mono ?_
        rintro e w2 ⟨rfl, ⟨LL, hLl, hLq, hr2⟩, hf2⟩
        have HSH : Hid (LL = P' ++ V' ++ U'.drop j ++ U'.take j ++ Q') := Lib.hid (swap_shape2 (X := X) (U := U'.take j) (M := U'.drop j) (a := k) (b := m) (n := j) (HX.out.trans (cut_eq1 P' U' V' Q' j)) HPM.out (by rw [List.length_take, HUi.out]; omega) HVj.out (by rw [List.length_drop, HUi.out, HK.out]; omega) (by rw [hLl, HXN.out]) (fun q hq => hLq q (by rw [← HXN.out]; exact hq)))
        have HRE : Hid (RowC w2 base A c (P' ++ V' ++ U'.drop j ++ U'.take j ++ Q')) := Lib.hid (by rw [← HSH.out]; exact hr2)
        have HFE := Lib.hid (hf.trans hf2 (fun _ _ e => e))
        have HLN : Hid (LL.length = N) := Lib.hid hLl
        clear hLl hLq hr2 hf2 hf
        go_wp2_with fail
        go_roundw
        case rel => exact ⟨d, j, P' ++ V', U'.drop j, U'.take j, Q', by go_num, rfl, by have := HD.out; omega, hj, Lib.hid (by rw [List.length_drop, HUi.out, HD.out]), Lib.hid (by rw [List.length_take, HUi.out]; omega), by have := HD.out; omega, hmj, Lib.hid (by rw [List.length_append, HPM.out, HVj.out, HK.out, HD.out]; omega), Lib.hid (by rw [← HSH.out]; exact HLN.out), Lib.hid (by rw [← HTT.out]; simp), HRE.out, HFE.out⟩
        case measure => have := HD.out; simp [intOf]; omega
      · have hwd : IntKind.i64.wrap ((j : Int) - (i : Int)) = ((j - i : Nat) : Int) := by rw [IntKind.wrap_i64]; omega
        have HS := Lib.hid (swapRange_any A c (m - i) (m + j - i) i base X wr hr (by omega) (by omega) (by omega))
        rw [hXN] at HS
        have hws : IntKind.i64.wrap ((m : Int) + (j : Int)) = (m : Int) + (j : Int) := by rw [IntKind.wrap_i64]; omega
        have hwt : IntKind.i64.wrap ((m : Int) + (j : Int) - (i : Int)) = ((m + j - i : Nat) : Int) := by rw [IntKind.wrap_i64]; omega
        have HPM := Lib.hid hPm
        have HXN := Lib.hid hXN
        obtain ⟨k, hk⟩ : ∃ k, k = m - i := ⟨_, rfl⟩
        obtain ⟨t, ht⟩ : ∃ t, t = m + j - i := ⟨_, rfl⟩
        obtain ⟨d, hd⟩ : ∃ d, d = j - i := ⟨_, rfl⟩
        have HK := Lib.hid hk
        have HD := Lib.hid hd
        have HTI := Lib.hid ht
        rw [← hk] at HS hwm HPM
        rw [← ht] at HS hwt
        rw [← hd] at hwd
        have HLEN := Lib.hid hlen
        clear hX hXN hPm hlen hr hk hd ht
        go_wp2_with fail
        refine HS.out.mono ?_
        rintro e w2 ⟨rfl, ⟨LL, hLl, hLq, hr2⟩, hf2⟩
        have HSH : Hid (LL = P' ++ V'.drop d ++ V'.take d ++ U' ++ Q') := Lib.hid (swap_shape2 (X := X) (V := V'.drop d) (M := V'.take d) (a := k) (b := t) (n := i) (HX.out.trans (cut_eq2 P' U' V' Q' d)) HPM.out HUi.out (by rw [List.length_drop, HVj.out, HD.out]; omega) (by rw [List.length_take, HVj.out, HK.out, HTI.out, HD.out]; omega) (by rw [hLl, HXN.out]) (fun q hq => hLq q (by rw [← HXN.out]; exact hq)))
        have HRE : Hid (RowC w2 base A c (P' ++ V'.drop d ++ V'.take d ++ (U' ++ Q'))) := Lib.hid (by rw [← List.append_assoc, ← HSH.out]; exact hr2)
        have HFE := Lib.hid (hf.trans hf2 (fun _ _ e => e))
        have HLN : Hid (LL.length = N) := Lib.hid hLl
        clear hLl hLq hr2 hf2 hf
        go_wp2_with fail
        go_roundw
        case rel => exact ⟨i, d, P', V'.drop d, V'.take d, U' ++ Q', rfl, by go_num, hi, by have := HD.out; omega, Lib.hid (by rw [List.length_drop, HVj.out, HD.out]; omega), Lib.hid (by rw [List.length_take, HVj.out, HD.out]; omega), him, by have := HD.out; omega, HPi, Lib.hid (by rw [← List.append_assoc, ← HSH.out]; exact HLN.out), Lib.hid (by rw [← HTT.out, ← List.append_assoc, List.append_assoc P', List.take_append_drop]), HRE.out, HFE.out⟩
        case measure => have := HD.out; simp [intOf]; omega

end Go.Proofs.Ytkeledbgmpienaa

/- One that is merged with a sorted row; where symMerge cuts. Plain, no program. -/
namespace Go.Proofs.Ytkeledbgmpienaa

section
variable {α : Type} {lt : α → α → Bool}
theorem sym_one (h : OrdC lt) {x : α} {R1 R2 : List α} (hs : SortedC lt (R1 ++ R2)) (h1 : ∀ y ∈ R1, lt y x = true) (h2 : ∀ y ∈ R2, lt y x = false) : sortC lt ([x] ++ (R1 ++ R2)) = R1 ++ x :: R2 := by
  have hp := List.pairwise_append.1 hs
  have hp1 : SortedC lt R1 := hp.1
  have hp2 : SortedC lt (x :: R2) := List.pairwise_cons.2 ⟨h2, hp.2.1⟩
  have F2 : ([x] : List α).length ≤ 0 ∨ R1.length = 0 ∨ ∃ x' y, ([x] : List α)[0]? = some x' ∧ (R1 ++ R2)[R1.length - 1]? = some y ∧ lt y x' = true := by
    rcases Nat.eq_zero_or_pos R1.length with e | e
    · exact .inr (.inl e)
    · have hl : R1.length - 1 < R1.length := by omega
      refine .inr (.inr ⟨x, R1[R1.length - 1], rfl, ?_, h1 _ (List.getElem_mem hl)⟩)
      rw [List.getElem?_append_left hl, List.getElem?_eq_getElem hl]
  have := sym_parts h (L := [x]) (R := R1 ++ R2) (by simp [SortedC]) hs (i := 0) (j := R1.length) (.inl rfl) F2
  rw [this, List.take_zero, List.nil_append, List.take_left, List.drop_zero, List.drop_left, sortC_sorted_eq h hp1, List.singleton_append, sortC_sorted_eq h hp2]
theorem sym_last (h : OrdC lt) {y : α} {L1 L2 : List α} (hs : SortedC lt (L1 ++ L2)) (h1 : ∀ x ∈ L1, lt y x = false) (h2 : ∀ x ∈ L2, lt y x = true) : sortC lt ((L1 ++ L2) ++ [y]) = L1 ++ y :: L2 := by
  rw [sortC_snoc, sortC_sorted_eq h hs]
  exact insC_split h1 h2
theorem swap_mid2 {U V : List α} {x y : α} {k : Nat} (h : U.length = k) : ((U ++ x :: y :: V).set k y).set (k + 1) x = U ++ y :: x :: V := by
  rw [List.set_append_right _ _ (by omega), show k - U.length = 0 by omega, List.set_append_right _ _ (by omega), show k + 1 - U.length = 1 by omega]
  rfl
theorem four_get1 {P L R Q : List α} {a i : Nat} (hP : P.length = a) (hi : i < L.length) : (P ++ L ++ R ++ Q)[a + i]? = L[i]? := by
  rw [List.append_assoc, List.append_assoc, List.getElem?_append_right (by omega), List.getElem?_append_left (by omega)]
  congr 1; omega
theorem four_get2 {P L R Q : List α} {a m i : Nat} (hP : P.length = a) (hm : a + L.length = m) (hi : i < R.length) : (P ++ L ++ R ++ Q)[m + i]? = R[i]? := by
  rw [List.append_assoc (P ++ L), List.getElem?_append_right (by rw [List.length_append]; omega), List.getElem?_append_left (by rw [List.length_append]; omega), List.length_append]
  congr 1; omega
/-- where symMerge cuts -/
theorem sym_final (h : OrdC lt) {P L R Q : List α} {a m b mid s0 r0 s : Nat} (hP : P.length = a) (hm : a + L.length = m) (hb : m + R.length = b) (hL : SortedC lt L) (hR : SortedC lt R) (hmid : mid = (a + b) / 2) (h1 : 0 < L.length) (h2 : 0 < R.length)
    (hc : (mid < m ∧ s0 + b = mid + m ∧ r0 = mid) ∨ (m ≤ mid ∧ s0 = a ∧ r0 = m)) (hs1 : s0 ≤ s) (hs2 : s ≤ r0)
    (F1 : s = s0 ∨ ∃ x y, (P ++ L ++ R ++ Q)[s - 1]? = some x ∧ (P ++ L ++ R ++ Q)[mid + m - s]? = some y ∧ lt y x = false)
    (F2 : s = r0 ∨ ∃ x y, (P ++ L ++ R ++ Q)[s]? = some x ∧ (P ++ L ++ R ++ Q)[mid + m - 1 - s]? = some y ∧ lt y x = true) :
    sortC lt (L ++ R) = sortC lt (L.take (s - a) ++ R.take (mid - s)) ++ sortC lt (L.drop (s - a) ++ R.drop (mid - s)) := by
  have hlow : a ≤ s := by omega
  refine sym_parts h hL hR ?_ ?_
  · by_cases e0 : s = a
    · exact .inl (by omega)
    by_cases e1 : R.length ≤ mid - s
    · exact .inr (.inl e1)
    rcases F1 with e | ⟨x, y, f1, f2, f3⟩
    · omega
    · refine .inr (.inr ⟨x, y, ?_, ?_, f3⟩)
      · rw [← f1, ← four_get1 (P := P) (R := R) (Q := Q) hP (i := s - a - 1) (by omega)]
        congr 1; omega
      · rw [← f2, ← four_get2 (P := P) (L := L) (Q := Q) hP hm (i := mid - s) (by omega)]
        congr 1; omega
  · by_cases e0 : L.length ≤ s - a
    · exact .inl e0
    by_cases e1 : mid - s = 0
    · exact .inr (.inl e1)
    rcases F2 with e | ⟨x, y, f1, f2, f3⟩
    · omega
    · refine .inr (.inr ⟨x, y, ?_, ?_, f3⟩)
      · rw [← f1, ← four_get1 (P := P) (R := R) (Q := Q) hP (i := s - a) (by omega)]
        congr 1; omega
      · rw [← f2, ← four_get2 (P := P) (L := L) (Q := Q) hP hm (i := mid - s - 1) (by omega)]
        congr 1; omega
end
end Go.Proofs.Ytkeledbgmpienaa

/- slices.symMergeCmpFunc at changes. -/
namespace Go.Proofs.Ytkeledbgmpienaa
open Go.RowKit Go.WideShapes Go.ChangeShapes Go.ChangeAt

theorem half_i64 (i j h : Nat) (hh : h = (i + j) / 2) : ((i : Int) + (j : Int)) / 2 = (h : Int) := by omega

set_option maxRecDepth 100000 in
set_option maxHeartbeats 2000000 in
theorem symOne_any (A : Option Addr) (c a m b N base : Nat) (P : List CV) (x : CV) (R Q : List CV) (w : World) (h : RowC w base A c (P ++ [x] ++ R ++ Q)) (hN : N = (P ++ [x] ++ R ++ Q).length) (hP : P.length = a) (hm : a + 1 = m) (hb : m + R.length = b) (hR : SortedC ltC R) (hp : ∀ y ∈ [x] ++ R, y.p.size ≤ 140737488355328) (hl : N ≤ 1000000) :
    Calls Try.prog 54 #[.slice A N c, .int .i64 (a : Int), .int .i64 (m : Int), .int .i64 (b : Int), .func (.func 24) #[] #[]] w fun e w' => e = .returned (.tuple #[]) ∧ RowC w' base A c (P ++ sortC ltC ([x] ++ R) ++ Q) ∧ Fr (fun g => ablk A = some g) w w' := by
  have hbN : b ≤ N := by rw [hN]; simp only [List.length_append, List.length_singleton]; omega
  have hwm : IntKind.i64.wrap ((m : Int) - (a : Int)) = 1 := by rw [IntKind.wrap_i64]; omega
  have hmN : m ≤ N := by omega
  have haN : a < N := by omega
  have HMA : Hid (m = a + 1) := Lib.hid hm.symm
  have hgx : (P ++ [x] ++ R ++ Q)[a]? = some x := by
    have := four_get1 (P := P) (L := [x]) (R := R) (Q := Q) (i := 0) hP (by simp)
    simpa using this
  have HGR : Hid (∀ k, k < R.length → (P ++ [x] ++ R ++ Q)[m + k]? = R[k]?) := Lib.hid (fun k hk => four_get2 hP hm hk)
  have HB := Lib.hid hb
  have HP := Lib.hid hP
  have HS := Lib.hid hR
  have HPS := Lib.hid hp
  have hxp := hp x (by simp)
  have HN := Lib.hid hN
  obtain ⟨X, hX⟩ : ∃ X, X = P ++ [x] ++ R ++ Q := ⟨_, rfl⟩
  have HX := Lib.hid hX
  rw [← hX] at h hgx HGR HN
  obtain ⟨TT, hT⟩ : ∃ TT, TT = P ++ sortC ltC ([x] ++ R) ++ Q := ⟨_, rfl⟩
  have HT := Lib.hid hT
  rw [← hT]
  obtain ⟨g, off, rfl, _, hgb⟩ := h.addr (by rw [← HN.out]; omega)
  have hx9 := h.get hgx
  have HR := Lib.hid h
  have hHN0 := HN.out
  have hmb : m ≤ b := by omega
  clear h hN hP hm hb hR hp hX hT hgx hHN0
  go_enter Try.func54, Try.ntmps54
  go_wp2_with fail
  go_loopw [10, 11, 12] (fun iv jv _ wr => ∃ (i j : Nat), m ≤ i ∧ i ≤ j ∧ j ≤ b ∧ iv = .int .i64 (i : Int) ∧ jv = .int .i64 (j : Int) ∧ Hid (∀ k y, m + k < i → R[k]? = some y → ltC y x = true) ∧ Hid (∀ k y, j ≤ m + k → R[k]? = some y → ltC y x = false) ∧ Below w.heap.size w wr) (fun iv jv _ _ => (intOf jv).toNat - (intOf iv).toNat)
  case atStart => exact ⟨m, b, Nat.le_refl _, by have := HB.out; omega, Nat.le_refl _, rfl, rfl, Lib.hid (fun k y hk => absurd hk (by omega)), Lib.hid (fun k y hk hy => by have := (List.getElem?_eq_some_iff.1 hy).1; have := HB.out; omega), Below.refl _ _⟩
  case round =>
    obtain ⟨i, j, hmi, hij, hjb, rfl, rfl, HLo, HHi, hbw⟩ := hrel
    by_cases hlt : i < j
    · obtain ⟨h, hhd⟩ : ∃ q : Nat, q = (i + j) / 2 := ⟨_, rfl⟩
      have HHD := Lib.hid hhd
      have hh1 := half_i64 i j h hhd
      have hhi : i ≤ h := by omega
      have hhj : h < j := by omega
      have hhN : h < N := by omega
      obtain ⟨y, hy⟩ : ∃ y, R[h - m]? = some y := ⟨_, List.getElem?_eq_getElem (by have := HB.out; omega)⟩
      have hyX : X[h]? = some y := by
        have := HGR.out (h - m) (by have := HB.out; omega)
        rw [show m + (h - m) = h by omega] at this
        rw [this, hy]
      have HY := Lib.hid hy
      have hyp := HPS.out y (by rw [List.mem_append]; exact .inr (List.mem_of_getElem? hy))
      have hy9 := RowC.get (HR.out.below hbw) hyX
      replace hx9 := hx9.below hgb hbw
      replace hgb := Nat.lt_of_lt_of_le hgb hbw.size
      have HCM := Lib.hid (fun W (_ : Below wr.heap.size wr W) => cmpC_any y x hyp hxp W)
      clear hy hyX hhd
      by_cases hlx : cmpT (tl y.p) (tl x.p) < 0
      · have hld : decide (cmpT (tl y.p) (tl x.p) < 0) = true := decide_eq_true hlx
        have HLX : Hid (ltC y x = true) := Lib.hid hld
        have HLo2 : Hid (∀ k y, m + k < h + 1 → R[k]? = some y → ltC y x = true) := Lib.hid (fun k z hk hz => by
          have h1 : ltC y z = false := HS.out.le ordC hz HY.out (by omega)
          rcases ordC.neg _ z _ HLX.out with g | g
          · rw [h1] at g; cases g
          · exact g)
        go_wp2_with fail
        refine wp_region_b 11 (by kernel_rfl) (by kernel_rfl) ?_
        simp only [List.take_succ_cons, List.take_zero, List.drop_succ_cons, List.drop_zero]
        refine lb_move _ (by kernel_rfl) rfl ⟨_, (by ((try simp [go_sem]); (try rfl); done)), _, (by (simp only [Act.put, List.setIfInBounds_toArray, List.set_cons_zero, List.set_cons_succ]; rfl)), ?_⟩
        refine lb_move _ (by kernel_rfl) rfl ⟨_, (by ((try simp [go_sem]); (try rfl); done)), _, (by (simp only [Act.put, List.setIfInBounds_toArray, List.set_cons_zero, List.set_cons_succ]; rfl)), ?_⟩
        refine lb_move _ (by kernel_rfl) rfl ⟨_, (by ((try simp [go_sem]); (try rfl); done)), _, (by (simp only [Act.put, List.setIfInBounds_toArray, List.set_cons_zero, List.set_cons_succ]; rfl)), ?_⟩
        refine lb_val (by kernel_rfl) ⟨_, (by (intro w' hC; clear hC; (try go_simp); (try with_reducible rfl); done)), _, (by (simp only [Act.put, List.setIfInBounds_toArray, List.set_cons_zero, List.set_cons_succ]; rfl)), ?_⟩
        refine lb_val (by kernel_rfl) ⟨_, (by (intro w' hC; (obtain ⟨y0, y1, y2, y3, y4, y5, y6, y7, y8⟩ := hy9.below hgb hC); clear hC; (try go_simp); (try with_reducible rfl); done)), _, (by (simp only [Act.put, List.setIfInBounds_toArray, List.set_cons_zero, List.set_cons_succ]; rfl)), ?_⟩
        refine lb_move _ (by kernel_rfl) rfl ⟨_, (by ((try simp [go_sem]); (try rfl); done)), _, (by (simp only [Act.put, List.setIfInBounds_toArray, List.set_cons_zero, List.set_cons_succ]; rfl)), ?_⟩
        refine lb_move _ (by kernel_rfl) rfl ⟨_, (by ((try simp [go_sem]); (try rfl); done)), _, (by (simp only [Act.put, List.setIfInBounds_toArray, List.set_cons_zero, List.set_cons_succ]; rfl)), ?_⟩
        refine lb_val (by kernel_rfl) ⟨_, (by (intro w' hC; clear hC; (try go_simp); (try with_reducible rfl); done)), _, (by (simp only [Act.put, List.setIfInBounds_toArray, List.set_cons_zero, List.set_cons_succ]; rfl)), ?_⟩
        refine lb_val (by kernel_rfl) ⟨_, (by (intro w' hC; (obtain ⟨x0, x1, x2, x3, x4, x5, x6, x7, x8⟩ := hx9.below hgb hC); clear hC; (try go_simp); (try with_reducible rfl); done)), _, (by (simp only [Act.put, List.setIfInBounds_toArray, List.set_cons_zero, List.set_cons_succ]; rfl)), ?_⟩
        refine lb_call (by kernel_rfl) (fun w' hC => HCM.out w' hC) (by (intro w'; go_simp; done)) ⟨_, (by (simp only [Act.put, List.setIfInBounds_toArray, List.set_cons_zero, List.set_cons_succ]; rfl)), ?_⟩
        refine lb_val (by kernel_rfl) ⟨_, (by (intro w' hC; clear hC; (try go_simp); (try with_reducible rfl); done)), _, (by (simp only [Act.put, List.setIfInBounds_toArray, List.set_cons_zero, List.set_cons_succ]; rfl)), ?_⟩
        refine .nil ?_
        intro w2 hb2
        have hbw2 := hbw.trans (hb2.mono hbw.size)
        clear hx9 hy9 HCM hb2 hbw
        go_wp2_with fail
        go_roundw
        case rel => exact ⟨h + 1, j, by omega, by omega, hjb, by go_num, rfl, HLo2, HHi, hbw2⟩
        case measure => have := HHD.out; simp [intOf]; omega
      · have hld : decide (cmpT (tl y.p) (tl x.p) < 0) = false := decide_eq_false hlx
        have HLX : Hid (ltC y x = false) := Lib.hid hld
        have HHi2 : Hid (∀ k y, h ≤ m + k → R[k]? = some y → ltC y x = false) := Lib.hid (fun k z hk hz => by
          have h1 : ltC z y = false := HS.out.le ordC HY.out hz (by omega)
          cases hh : ltC z x
          · rfl
          · rcases ordC.neg _ y _ hh with g | g
            · rw [h1] at g; cases g
            · rw [HLX.out] at g; cases g)
        go_wp2_with fail
        refine wp_region_b 11 (by kernel_rfl) (by kernel_rfl) ?_
        simp only [List.take_succ_cons, List.take_zero, List.drop_succ_cons, List.drop_zero]
        refine lb_move _ (by kernel_rfl) rfl ⟨_, (by ((try simp [go_sem]); (try rfl); done)), _, (by (simp only [Act.put, List.setIfInBounds_toArray, List.set_cons_zero, List.set_cons_succ]; rfl)), ?_⟩
        refine lb_move _ (by kernel_rfl) rfl ⟨_, (by ((try simp [go_sem]); (try rfl); done)), _, (by (simp only [Act.put, List.setIfInBounds_toArray, List.set_cons_zero, List.set_cons_succ]; rfl)), ?_⟩
        refine lb_move _ (by kernel_rfl) rfl ⟨_, (by ((try simp [go_sem]); (try rfl); done)), _, (by (simp only [Act.put, List.setIfInBounds_toArray, List.set_cons_zero, List.set_cons_succ]; rfl)), ?_⟩
        refine lb_val (by kernel_rfl) ⟨_, (by (intro w' hC; clear hC; (try go_simp); (try with_reducible rfl); done)), _, (by (simp only [Act.put, List.setIfInBounds_toArray, List.set_cons_zero, List.set_cons_succ]; rfl)), ?_⟩
        refine lb_val (by kernel_rfl) ⟨_, (by (intro w' hC; (obtain ⟨y0, y1, y2, y3, y4, y5, y6, y7, y8⟩ := hy9.below hgb hC); clear hC; (try go_simp); (try with_reducible rfl); done)), _, (by (simp only [Act.put, List.setIfInBounds_toArray, List.set_cons_zero, List.set_cons_succ]; rfl)), ?_⟩
        refine lb_move _ (by kernel_rfl) rfl ⟨_, (by ((try simp [go_sem]); (try rfl); done)), _, (by (simp only [Act.put, List.setIfInBounds_toArray, List.set_cons_zero, List.set_cons_succ]; rfl)), ?_⟩
        refine lb_move _ (by kernel_rfl) rfl ⟨_, (by ((try simp [go_sem]); (try rfl); done)), _, (by (simp only [Act.put, List.setIfInBounds_toArray, List.set_cons_zero, List.set_cons_succ]; rfl)), ?_⟩
        refine lb_val (by kernel_rfl) ⟨_, (by (intro w' hC; clear hC; (try go_simp); (try with_reducible rfl); done)), _, (by (simp only [Act.put, List.setIfInBounds_toArray, List.set_cons_zero, List.set_cons_succ]; rfl)), ?_⟩
        refine lb_val (by kernel_rfl) ⟨_, (by (intro w' hC; (obtain ⟨x0, x1, x2, x3, x4, x5, x6, x7, x8⟩ := hx9.below hgb hC); clear hC; (try go_simp); (try with_reducible rfl); done)), _, (by (simp only [Act.put, List.setIfInBounds_toArray, List.set_cons_zero, List.set_cons_succ]; rfl)), ?_⟩
        refine lb_call (by kernel_rfl) (fun w' hC => HCM.out w' hC) (by (intro w'; go_simp; done)) ⟨_, (by (simp only [Act.put, List.setIfInBounds_toArray, List.set_cons_zero, List.set_cons_succ]; rfl)), ?_⟩
        refine lb_val (by kernel_rfl) ⟨_, (by (intro w' hC; clear hC; (try go_simp); (try with_reducible rfl); done)), _, (by (simp only [Act.put, List.setIfInBounds_toArray, List.set_cons_zero, List.set_cons_succ]; rfl)), ?_⟩
        refine .nil ?_
        intro w2 hb2
        have hbw2 := hbw.trans (hb2.mono hbw.size)
        clear hx9 hy9 HCM hb2 hbw
        go_wp2_with fail
        go_roundw
        case rel => exact ⟨i, h, hmi, hhi, by omega, rfl, rfl, HLo, HHi2, hbw2⟩
        case measure => have := HHD.out; simp [intOf]; omega
    · obtain rfl : i = j := by omega
      have hr2 := HR.out.below hbw
      have hf2 : Fr (fun b => b = g) w wr := (Fr.refl _ w).then_below hbw
      have hRi : i - m ≤ R.length := by have := HB.out; omega
      obtain ⟨R1, hR1⟩ : ∃ R1, R1 = R.take (i - m) := ⟨_, rfl⟩
      obtain ⟨R2, hR2⟩ : ∃ R2, R2 = R.drop (i - m) := ⟨_, rfl⟩
      have HR12 : Hid (R = R1 ++ R2) := Lib.hid (by rw [hR1, hR2, List.take_append_drop])
      have HL1 : Hid (m + R1.length = i) := Lib.hid (by rw [hR1, List.length_take]; omega)
      have HFIN : Hid (TT = P ++ R1 ++ x :: (R2 ++ Q)) := Lib.hid (by
        rw [HT.out, HR12.out, sym_one ordC (by rw [← HR12.out]; exact HS.out) (fun y hy => by
          rw [hR1] at hy
          obtain ⟨k, hk, e⟩ := List.mem_take_iff_getElem.1 hy
          exact HLo.out k y (by omega) (List.getElem?_eq_some_iff.2 ⟨by omega, e⟩)) (fun y hy => by
          rw [hR2] at hy
          obtain ⟨k, hk, e⟩ := List.getElem_of_mem hy
          rw [List.getElem_drop] at e
          exact HHi.out (i - m + k) y (by omega) (List.getElem?_eq_some_iff.2 ⟨by rw [List.length_drop] at hk; omega, e⟩))]
        simp)
      have HST : Hid (X = P ++ [] ++ x :: (R1 ++ (R2 ++ Q))) := Lib.hid (by rw [HX.out, HR12.out]; simp)
      have hwi : IntKind.i64.wrap ((i : Int) - 1) = ((i - 1 : Nat) : Int) := by have := HMA.out; rw [IntKind.wrap_i64]; omega
      obtain ⟨z, hz⟩ : ∃ z, z = i - 1 := ⟨_, rfl⟩
      rw [← hz] at hwi
      have hza : a ≤ z := by have := HMA.out; omega
      have hzm : z + 1 = i := by have := HMA.out; omega
      have HZ := Lib.hid hzm
      have hzN : z < N := by omega
      have HX2 := Lib.hid hr2
      clear hR1 hR2 hx9 HLo HHi hr2 hRi hz hzm hbw
      go_wp2_with fail
      go_loopw [13] (fun kv wr => ∃ (k : Nat) (U V : List CV), a ≤ k ∧ k ≤ z ∧ kv = .int .i64 (k : Int) ∧ Hid (U ++ V = R1) ∧ Hid (a + U.length = k) ∧ RowC wr base (some ⟨g, off, none⟩) c (P ++ U ++ x :: (V ++ (R2 ++ Q))) ∧ Fr (fun b => b = g) w wr) (fun kv _ => z - (intOf kv).toNat)
      case atStart => exact ⟨a, [], R1, Nat.le_refl _, hza, rfl, Lib.hid rfl, Lib.hid rfl, by rw [← HST.out]; exact HX2.out, hf2⟩
      case round =>
        obtain ⟨k, U, V, hak, hkz, rfl, HUV, HU, hr2, hf2⟩ := hrel
        rename World => w2
        by_cases hkl : k < z
        · obtain ⟨y, V2, hV2⟩ : ∃ y V2, V = y :: V2 := by
            have h1 := HUV.out
            have h2 := HU.out
            have h3 := HL1.out
            have h4 := HZ.out
            have h5 := HMA.out
            rcases V with _ | ⟨y, V2⟩
            · rw [List.append_nil] at h1
              rw [h1] at h2; omega
            · exact ⟨y, V2, rfl⟩
          obtain ⟨LL, hLL⟩ : ∃ LL, LL = P ++ U ++ x :: y :: (V2 ++ (R2 ++ Q)) := ⟨_, rfl⟩
          have hLV : P ++ U ++ x :: (V ++ (R2 ++ Q)) = LL := by rw [hLL, hV2]; rfl
          rw [hLV] at hr2
          have hPU : (P ++ U).length = k := by rw [List.length_append, HP.out]; exact HU.out
          have hLn : LL.length = N := by
            rw [← hLV, HN.out, HST.out]
            simp only [List.length_append, List.length_cons, ← HUV.out, List.length_nil]; omega
          have hg1 : LL[k]? = some x := by rw [hLL]; exact mid_get hPU
          have hg2' : LL[k + 1]? = some y := by rw [hLL]; exact mid_get1 hPU
          obtain ⟨k1, hk1⟩ : ∃ k1, k1 = k := ⟨_, rfl⟩
          subst hk1
          obtain ⟨k2, hk2⟩ : ∃ k2, k2 = k1 + 1 := ⟨_, rfl⟩
          have hg2 : LL[k2]? = some y := by rw [hk2]; exact hg2'
          have hwk : IntKind.i64.wrap ((k1 : Int) + 1) = (k2 : Int) := by rw [IntKind.wrap_i64]; omega
          have hi1 : k1 < LL.length := by omega
          have hi2 : k2 < LL.length := by omega
          have hz1 : (k1 : Int) < (N : Int) := by omega
          have hz2 : (k2 : Int) < (N : Int) := by omega
          have hy1 : (0 : Int) ≤ (k1 : Int) := by omega
          have hy2 : (0 : Int) ≤ (k2 : Int) := by omega
          have hgb2 : g < w2.heap.size := (hr2.addr (by omega)).elim fun g' h => by obtain ⟨o', e, _, h3⟩ := h; injection e with e; injection e with e1 e2; rw [e1]; exact h3
          have HNX : Hid ((LL.set k1 y).set k2 x = P ++ (U ++ [y]) ++ x :: (V2 ++ (R2 ++ Q))) := Lib.hid (by rw [hLL, hk2, swap_mid2 hPU]; simp)
          have HK2 := Lib.hid hk2
          have HUV2 : Hid ((U ++ [y]) ++ V2 = R1) := Lib.hid (by rw [← HUV.out, hV2]; simp)
          have HLN := Lib.hid hLn
          clear hLL hLV hLn hg2' hV2 hPU hk2
          go_wp2_with fail
          have hC0 : Fr (fun b => b = g) w2 w2.drew := (Fr.refl (fun b => b = g) w2).drew
          have hx9' := (hr2.get hg1).below hgb2 (Below.refl w2.heap.size w2).drew
          have hy9' := (hr2.get hg2).below hgb2 (Below.refl w2.heap.size w2).drew
          have hrd := hr2.drew
          refine wp_region_plan (.tell 0 (.tell 1 (.tell 2 (.tell 3 (.tell 4 (.tell 5 (.tell 6 (.tell 7 (.tell 8 (.tell 10 (.tell 11 (.tell 12 (.two 9 (.one 13 (.tell 14 (.one 15 (.tell 16 (.one 17 .done))))) 13 (.one 9 (.tell 14 (.one 15 (.tell 16 (.one 17 .done)))))))))))))))))) (fun W => Fr (fun b => b = g) w2 W) _ (by kernel_rfl) (by kernel_rfl) ?_ (fun _ _ h => h)
          refine pl_val (by (simp only [List.getElem?_toArray, List.getElem?_cons_succ, List.getElem?_cons_zero]; rfl)) (by kernel_rfl) ⟨_, (by (intro w' hC; clear hC; (try go_simp); (try with_reducible rfl); done)), _, (by (simp only [Act.put, List.setIfInBounds_toArray, List.set_cons_zero, List.set_cons_succ]; rfl)), ?_⟩
          refine pl_val (by (simp only [List.getElem?_toArray, List.getElem?_cons_succ, List.getElem?_cons_zero]; rfl)) (by kernel_rfl) ⟨_, (by (intro w' hC; clear hC; (try go_simp); (try with_reducible rfl); done)), _, (by (simp only [Act.put, List.setIfInBounds_toArray, List.set_cons_zero, List.set_cons_succ]; rfl)), ?_⟩
          refine pl_val (by (simp only [List.getElem?_toArray, List.getElem?_cons_succ, List.getElem?_cons_zero]; rfl)) (by kernel_rfl) ⟨_, (by (intro w' hC; clear hC; (try go_simp); (try with_reducible rfl); done)), _, (by (simp only [Act.put, List.setIfInBounds_toArray, List.set_cons_zero, List.set_cons_succ]; rfl)), ?_⟩
          refine pl_val (by (simp only [List.getElem?_toArray, List.getElem?_cons_succ, List.getElem?_cons_zero]; rfl)) (by kernel_rfl) ⟨_, (by (intro w' hC; clear hC; (try go_simp); (try with_reducible rfl); done)), _, (by (simp only [Act.put, List.setIfInBounds_toArray, List.set_cons_zero, List.set_cons_succ]; rfl)), ?_⟩
          refine pl_val (by (simp only [List.getElem?_toArray, List.getElem?_cons_succ, List.getElem?_cons_zero]; rfl)) (by kernel_rfl) ⟨_, (by (intro w' hC; clear hC; (try go_simp); (try with_reducible rfl); done)), _, (by (simp only [Act.put, List.setIfInBounds_toArray, List.set_cons_zero, List.set_cons_succ]; rfl)), ?_⟩
          refine pl_val (by (simp only [List.getElem?_toArray, List.getElem?_cons_succ, List.getElem?_cons_zero]; rfl)) (by kernel_rfl) ⟨_, (by (intro w' hC; clear hC; (try go_simp); (try with_reducible rfl); done)), _, (by (simp only [Act.put, List.setIfInBounds_toArray, List.set_cons_zero, List.set_cons_succ]; rfl)), ?_⟩
          refine pl_val (by (simp only [List.getElem?_toArray, List.getElem?_cons_succ, List.getElem?_cons_zero]; rfl)) (by kernel_rfl) ⟨_, (by (intro w' hC; clear hC; (try go_simp); (try with_reducible rfl); done)), _, (by (simp only [Act.put, List.setIfInBounds_toArray, List.set_cons_zero, List.set_cons_succ]; rfl)), ?_⟩
          refine pl_val (by (simp only [List.getElem?_toArray, List.getElem?_cons_succ, List.getElem?_cons_zero]; rfl)) (by kernel_rfl) ⟨_, (by (intro w' hC; clear hC; (try go_simp); (try with_reducible rfl); done)), _, (by (simp only [Act.put, List.setIfInBounds_toArray, List.set_cons_zero, List.set_cons_succ]; rfl)), ?_⟩
          refine pl_val (by (simp only [List.getElem?_toArray, List.getElem?_cons_succ, List.getElem?_cons_zero]; rfl)) (by kernel_rfl) ⟨_, (by (intro w' hC; clear hC; (try go_simp); (try with_reducible rfl); done)), _, (by (simp only [Act.put, List.setIfInBounds_toArray, List.set_cons_zero, List.set_cons_succ]; rfl)), ?_⟩
          refine pl_val (by (simp only [List.getElem?_toArray, List.getElem?_cons_succ, List.getElem?_cons_zero]; rfl)) (by kernel_rfl) ⟨_, (by (intro w' hC; clear hC; (try go_simp); (try with_reducible rfl); done)), _, (by (simp only [Act.put, List.setIfInBounds_toArray, List.set_cons_zero, List.set_cons_succ]; rfl)), ?_⟩
          refine pl_val (by (simp only [List.getElem?_toArray, List.getElem?_cons_succ, List.getElem?_cons_zero]; rfl)) (by kernel_rfl) ⟨_, (by (intro w' hC; clear hC; (try go_simp); (try with_reducible rfl); done)), _, (by (simp only [Act.put, List.setIfInBounds_toArray, List.set_cons_zero, List.set_cons_succ]; rfl)), ?_⟩
          refine pl_val (by (simp only [List.getElem?_toArray, List.getElem?_cons_succ, List.getElem?_cons_zero]; rfl)) (by kernel_rfl) ⟨_, (by (intro w' hC; clear hC; (try go_simp); (try with_reducible rfl); done)), _, (by (simp only [Act.put, List.setIfInBounds_toArray, List.set_cons_zero, List.set_cons_succ]; rfl)), ?_⟩
          clear hr2
          generalize w2.drew = wd at *
          obtain ⟨x0, x1, x2, x3, x4, x5, x6, x7, x8⟩ := hx9'
          obtain ⟨y0, y1, y2, y3, y4, y5, y6, y7, y8⟩ := hy9'
          have fz := fun o => hrd.frozen o
          refine pl_two (by (simp only [List.getElem?_toArray, List.getElem?_cons_succ, List.getElem?_cons_zero]; rfl)) (by (simp only [List.getElem?_toArray, List.getElem?_cons_succ, List.getElem?_cons_zero]; rfl)) hC0 ?_ ?_
          · refine al_val (by kernel_rfl) ⟨_, _, (by (go_simp; first | done | exact ⟨rfl, rfl⟩)), _, (by (simp only [Act.put, List.setIfInBounds_toArray, List.set_cons_zero, List.set_cons_succ]; rfl)), ?_⟩
            refine pl_one (by (simp only [List.getElem?_toArray, List.getElem?_cons_succ, List.getElem?_cons_zero]; rfl)) hC0 ?_
            refine al_val (by kernel_rfl) ⟨_, _, (by (go_simp; first | done | exact ⟨rfl, rfl⟩)), _, (by (simp only [Act.put, List.setIfInBounds_toArray, List.set_cons_zero, List.set_cons_succ]; rfl)), ?_⟩
            refine pl_val (by (simp only [List.getElem?_toArray, List.getElem?_cons_succ, List.getElem?_cons_zero]; rfl)) (by kernel_rfl) ⟨_, (by (intro w' hC; clear hC; (try go_simp); (try with_reducible rfl); done)), _, (by (simp only [Act.put, List.setIfInBounds_toArray, List.set_cons_zero, List.set_cons_succ]; rfl)), ?_⟩
            refine pl_one (by (simp only [List.getElem?_toArray, List.getElem?_cons_succ, List.getElem?_cons_zero]; rfl)) hC0 ?_
            refine al_skip (by kernel_rfl) ⟨_, (by (go_simp; first | done | rfl)), _, (by (simp only [Act.put, List.setIfInBounds_toArray, List.set_cons_zero, List.set_cons_succ]; rfl)), ?_⟩
            have hr3 := RowC.setCh hrd hi1 y
            change RowC (((((((((wd.setCell ⟨g, off + k1 * 9, none⟩ (.string y.p)).setCell ⟨g, off + k1 * 9 + 1, none⟩ (.int .i64 y.b)).setCell ⟨g, off + k1 * 9 + 2, none⟩ (.bool y.m)).setCell ⟨g, off + k1 * 9 + 3, none⟩ (.bool y.t)).setCell ⟨g, off + k1 * 9 + 4, none⟩ (.int .i64 y.k)).setCell ⟨g, off + k1 * 9 + 5, none⟩ (.int .i64 y.o)).setCell ⟨g, off + k1 * 9 + 6, none⟩ (.int .i64 y.s)).setCell ⟨g, off + k1 * 9 + 7, none⟩ (.int .i64 y.l)).setCell ⟨g, off + k1 * 9 + 8, none⟩ (.int .i64 y.v)) base (some ⟨g, off, none⟩) c (LL.set k1 y) at hr3
            have hf3 : Fr (fun b => b = g) w2 (((((((((wd.setCell ⟨g, off + k1 * 9, none⟩ (.string y.p)).setCell ⟨g, off + k1 * 9 + 1, none⟩ (.int .i64 y.b)).setCell ⟨g, off + k1 * 9 + 2, none⟩ (.bool y.m)).setCell ⟨g, off + k1 * 9 + 3, none⟩ (.bool y.t)).setCell ⟨g, off + k1 * 9 + 4, none⟩ (.int .i64 y.k)).setCell ⟨g, off + k1 * 9 + 5, none⟩ (.int .i64 y.o)).setCell ⟨g, off + k1 * 9 + 6, none⟩ (.int .i64 y.s)).setCell ⟨g, off + k1 * 9 + 7, none⟩ (.int .i64 y.l)).setCell ⟨g, off + k1 * 9 + 8, none⟩ (.int .i64 y.v)) := hC0.trans (setCh_fr wd g (off + k1 * 9) y) (fun _ _ e => e)
            clear x0 x1 x2 x3 x4 x5 x6 x7 x8 y0 y1 y2 y3 y4 y5 y6 y7 y8 fz
            generalize (((((((((wd.setCell ⟨g, off + k1 * 9, none⟩ (.string y.p)).setCell ⟨g, off + k1 * 9 + 1, none⟩ (.int .i64 y.b)).setCell ⟨g, off + k1 * 9 + 2, none⟩ (.bool y.m)).setCell ⟨g, off + k1 * 9 + 3, none⟩ (.bool y.t)).setCell ⟨g, off + k1 * 9 + 4, none⟩ (.int .i64 y.k)).setCell ⟨g, off + k1 * 9 + 5, none⟩ (.int .i64 y.o)).setCell ⟨g, off + k1 * 9 + 6, none⟩ (.int .i64 y.s)).setCell ⟨g, off + k1 * 9 + 7, none⟩ (.int .i64 y.l)).setCell ⟨g, off + k1 * 9 + 8, none⟩ (.int .i64 y.v)) = w3 at *
            have hk0 : k2 < (LL.set k1 y).length := by rw [List.length_set]; exact hi2
            have hy3 := hr3.at9 hk0
            obtain ⟨y0, y1, y2, y3, y4, y5, y6, y7, y8⟩ := hy3
            have fz := fun o => hr3.frozen o
            refine pl_val (by (simp only [List.getElem?_toArray, List.getElem?_cons_succ, List.getElem?_cons_zero]; rfl)) (by kernel_rfl) ⟨_, (by (intro w' hC; clear hC; (try go_simp); (try with_reducible rfl); done)), _, (by (simp only [Act.put, List.setIfInBounds_toArray, List.set_cons_zero, List.set_cons_succ]; rfl)), ?_⟩
            refine pl_one (by (simp only [List.getElem?_toArray, List.getElem?_cons_succ, List.getElem?_cons_zero]; rfl)) hf3 ?_
            refine al_skip (by kernel_rfl) ⟨_, (by (go_simp; first | done | rfl)), _, (by (simp only [Act.put, List.setIfInBounds_toArray, List.set_cons_zero, List.set_cons_succ]; rfl)), ?_⟩
            have hr5 := RowC.setCh hr3 hk0 x
            change RowC (((((((((w3.setCell ⟨g, off + k2 * 9, none⟩ (.string x.p)).setCell ⟨g, off + k2 * 9 + 1, none⟩ (.int .i64 x.b)).setCell ⟨g, off + k2 * 9 + 2, none⟩ (.bool x.m)).setCell ⟨g, off + k2 * 9 + 3, none⟩ (.bool x.t)).setCell ⟨g, off + k2 * 9 + 4, none⟩ (.int .i64 x.k)).setCell ⟨g, off + k2 * 9 + 5, none⟩ (.int .i64 x.o)).setCell ⟨g, off + k2 * 9 + 6, none⟩ (.int .i64 x.s)).setCell ⟨g, off + k2 * 9 + 7, none⟩ (.int .i64 x.l)).setCell ⟨g, off + k2 * 9 + 8, none⟩ (.int .i64 x.v)) base (some ⟨g, off, none⟩) c ((LL.set k1 y).set k2 x) at hr5
            have hf5 : Fr (fun b => b = g) w2 (((((((((w3.setCell ⟨g, off + k2 * 9, none⟩ (.string x.p)).setCell ⟨g, off + k2 * 9 + 1, none⟩ (.int .i64 x.b)).setCell ⟨g, off + k2 * 9 + 2, none⟩ (.bool x.m)).setCell ⟨g, off + k2 * 9 + 3, none⟩ (.bool x.t)).setCell ⟨g, off + k2 * 9 + 4, none⟩ (.int .i64 x.k)).setCell ⟨g, off + k2 * 9 + 5, none⟩ (.int .i64 x.o)).setCell ⟨g, off + k2 * 9 + 6, none⟩ (.int .i64 x.s)).setCell ⟨g, off + k2 * 9 + 7, none⟩ (.int .i64 x.l)).setCell ⟨g, off + k2 * 9 + 8, none⟩ (.int .i64 x.v)) := hf3.trans (setCh_fr w3 g (off + k2 * 9) x) (fun _ _ e => e)
            refine pl_end hf5 ?_
            simp only [Plan.count, Nat.reduceAdd, List.drop_succ_cons, List.drop_zero]
            generalize (((((((((w3.setCell ⟨g, off + k2 * 9, none⟩ (.string x.p)).setCell ⟨g, off + k2 * 9 + 1, none⟩ (.int .i64 x.b)).setCell ⟨g, off + k2 * 9 + 2, none⟩ (.bool x.m)).setCell ⟨g, off + k2 * 9 + 3, none⟩ (.bool x.t)).setCell ⟨g, off + k2 * 9 + 4, none⟩ (.int .i64 x.k)).setCell ⟨g, off + k2 * 9 + 5, none⟩ (.int .i64 x.o)).setCell ⟨g, off + k2 * 9 + 6, none⟩ (.int .i64 x.s)).setCell ⟨g, off + k2 * 9 + 7, none⟩ (.int .i64 x.l)).setCell ⟨g, off + k2 * 9 + 8, none⟩ (.int .i64 x.v)) = w5 at *
            clear y0 y1 y2 y3 y4 y5 y6 y7 y8 fz hr3 hf3 hrd hC0 hk0
            have HR5 : Hid (RowC w5 base (some ⟨g, off, none⟩) c (P ++ (U ++ [y]) ++ x :: (V2 ++ (R2 ++ Q)))) := Lib.hid (by rw [← HNX.out]; exact hr5)
            have HF5 := Lib.hid (hf2.trans hf5 (fun _ _ e => e))
            have hk2e := HK2.out
            clear hr5 hf5
            go_wp2_with fail
            go_roundw
            case rel => exact ⟨k2, U ++ [y], V2, by omega, by omega, by go_num, HUV2, Lib.hid (by have := HU.out; rw [List.length_append, List.length_singleton]; omega), HR5.out, HF5.out⟩
            case measure => simp [intOf]; omega
          · refine al_val (by kernel_rfl) ⟨_, _, (by (go_simp; first | done | exact ⟨rfl, rfl⟩)), _, (by (simp only [Act.put, List.setIfInBounds_toArray, List.set_cons_zero, List.set_cons_succ]; rfl)), ?_⟩
            refine pl_one (by (simp only [List.getElem?_toArray, List.getElem?_cons_succ, List.getElem?_cons_zero]; rfl)) hC0 ?_
            refine al_val (by kernel_rfl) ⟨_, _, (by (go_simp; first | done | exact ⟨rfl, rfl⟩)), _, (by (simp only [Act.put, List.setIfInBounds_toArray, List.set_cons_zero, List.set_cons_succ]; rfl)), ?_⟩
            refine pl_val (by (simp only [List.getElem?_toArray, List.getElem?_cons_succ, List.getElem?_cons_zero]; rfl)) (by kernel_rfl) ⟨_, (by (intro w' hC; clear hC; (try go_simp); (try with_reducible rfl); done)), _, (by (simp only [Act.put, List.setIfInBounds_toArray, List.set_cons_zero, List.set_cons_succ]; rfl)), ?_⟩
            refine pl_one (by (simp only [List.getElem?_toArray, List.getElem?_cons_succ, List.getElem?_cons_zero]; rfl)) hC0 ?_
            refine al_skip (by kernel_rfl) ⟨_, (by (go_simp; first | done | rfl)), _, (by (simp only [Act.put, List.setIfInBounds_toArray, List.set_cons_zero, List.set_cons_succ]; rfl)), ?_⟩
            have hr3 := RowC.setCh hrd hi1 y
            change RowC (((((((((wd.setCell ⟨g, off + k1 * 9, none⟩ (.string y.p)).setCell ⟨g, off + k1 * 9 + 1, none⟩ (.int .i64 y.b)).setCell ⟨g, off + k1 * 9 + 2, none⟩ (.bool y.m)).setCell ⟨g, off + k1 * 9 + 3, none⟩ (.bool y.t)).setCell ⟨g, off + k1 * 9 + 4, none⟩ (.int .i64 y.k)).setCell ⟨g, off + k1 * 9 + 5, none⟩ (.int .i64 y.o)).setCell ⟨g, off + k1 * 9 + 6, none⟩ (.int .i64 y.s)).setCell ⟨g, off + k1 * 9 + 7, none⟩ (.int .i64 y.l)).setCell ⟨g, off + k1 * 9 + 8, none⟩ (.int .i64 y.v)) base (some ⟨g, off, none⟩) c (LL.set k1 y) at hr3
            have hf3 : Fr (fun b => b = g) w2 (((((((((wd.setCell ⟨g, off + k1 * 9, none⟩ (.string y.p)).setCell ⟨g, off + k1 * 9 + 1, none⟩ (.int .i64 y.b)).setCell ⟨g, off + k1 * 9 + 2, none⟩ (.bool y.m)).setCell ⟨g, off + k1 * 9 + 3, none⟩ (.bool y.t)).setCell ⟨g, off + k1 * 9 + 4, none⟩ (.int .i64 y.k)).setCell ⟨g, off + k1 * 9 + 5, none⟩ (.int .i64 y.o)).setCell ⟨g, off + k1 * 9 + 6, none⟩ (.int .i64 y.s)).setCell ⟨g, off + k1 * 9 + 7, none⟩ (.int .i64 y.l)).setCell ⟨g, off + k1 * 9 + 8, none⟩ (.int .i64 y.v)) := hC0.trans (setCh_fr wd g (off + k1 * 9) y) (fun _ _ e => e)
            clear x0 x1 x2 x3 x4 x5 x6 x7 x8 y0 y1 y2 y3 y4 y5 y6 y7 y8 fz
            generalize (((((((((wd.setCell ⟨g, off + k1 * 9, none⟩ (.string y.p)).setCell ⟨g, off + k1 * 9 + 1, none⟩ (.int .i64 y.b)).setCell ⟨g, off + k1 * 9 + 2, none⟩ (.bool y.m)).setCell ⟨g, off + k1 * 9 + 3, none⟩ (.bool y.t)).setCell ⟨g, off + k1 * 9 + 4, none⟩ (.int .i64 y.k)).setCell ⟨g, off + k1 * 9 + 5, none⟩ (.int .i64 y.o)).setCell ⟨g, off + k1 * 9 + 6, none⟩ (.int .i64 y.s)).setCell ⟨g, off + k1 * 9 + 7, none⟩ (.int .i64 y.l)).setCell ⟨g, off + k1 * 9 + 8, none⟩ (.int .i64 y.v)) = w3 at *
            have hk0 : k2 < (LL.set k1 y).length := by rw [List.length_set]; exact hi2
            have hy3 := hr3.at9 hk0
            obtain ⟨y0, y1, y2, y3, y4, y5, y6, y7, y8⟩ := hy3
            have fz := fun o => hr3.frozen o
            refine pl_val (by (simp only [List.getElem?_toArray, List.getElem?_cons_succ, List.getElem?_cons_zero]; rfl)) (by kernel_rfl) ⟨_, (by (intro w' hC; clear hC; (try go_simp); (try with_reducible rfl); done)), _, (by (simp only [Act.put, List.setIfInBounds_toArray, List.set_cons_zero, List.set_cons_succ]; rfl)), ?_⟩
            refine pl_one (by (simp only [List.getElem?_toArray, List.getElem?_cons_succ, List.getElem?_cons_zero]; rfl)) hf3 ?_
            refine al_skip (by kernel_rfl) ⟨_, (by (go_simp; first | done | rfl)), _, (by (simp only [Act.put, List.setIfInBounds_toArray, List.set_cons_zero, List.set_cons_succ]; rfl)), ?_⟩
            have hr5 := RowC.setCh hr3 hk0 x
            change RowC (((((((((w3.setCell ⟨g, off + k2 * 9, none⟩ (.string x.p)).setCell ⟨g, off + k2 * 9 + 1, none⟩ (.int .i64 x.b)).setCell ⟨g, off + k2 * 9 + 2, none⟩ (.bool x.m)).setCell ⟨g, off + k2 * 9 + 3, none⟩ (.bool x.t)).setCell ⟨g, off + k2 * 9 + 4, none⟩ (.int .i64 x.k)).setCell ⟨g, off + k2 * 9 + 5, none⟩ (.int .i64 x.o)).setCell ⟨g, off + k2 * 9 + 6, none⟩ (.int .i64 x.s)).setCell ⟨g, off + k2 * 9 + 7, none⟩ (.int .i64 x.l)).setCell ⟨g, off + k2 * 9 + 8, none⟩ (.int .i64 x.v)) base (some ⟨g, off, none⟩) c ((LL.set k1 y).set k2 x) at hr5
            have hf5 : Fr (fun b => b = g) w2 (((((((((w3.setCell ⟨g, off + k2 * 9, none⟩ (.string x.p)).setCell ⟨g, off + k2 * 9 + 1, none⟩ (.int .i64 x.b)).setCell ⟨g, off + k2 * 9 + 2, none⟩ (.bool x.m)).setCell ⟨g, off + k2 * 9 + 3, none⟩ (.bool x.t)).setCell ⟨g, off + k2 * 9 + 4, none⟩ (.int .i64 x.k)).setCell ⟨g, off + k2 * 9 + 5, none⟩ (.int .i64 x.o)).setCell ⟨g, off + k2 * 9 + 6, none⟩ (.int .i64 x.s)).setCell ⟨g, off + k2 * 9 + 7, none⟩ (.int .i64 x.l)).setCell ⟨g, off + k2 * 9 + 8, none⟩ (.int .i64 x.v)) := hf3.trans (setCh_fr w3 g (off + k2 * 9) x) (fun _ _ e => e)
            refine pl_end hf5 ?_
            simp only [Plan.count, Nat.reduceAdd, List.drop_succ_cons, List.drop_zero]
            generalize (((((((((w3.setCell ⟨g, off + k2 * 9, none⟩ (.string x.p)).setCell ⟨g, off + k2 * 9 + 1, none⟩ (.int .i64 x.b)).setCell ⟨g, off + k2 * 9 + 2, none⟩ (.bool x.m)).setCell ⟨g, off + k2 * 9 + 3, none⟩ (.bool x.t)).setCell ⟨g, off + k2 * 9 + 4, none⟩ (.int .i64 x.k)).setCell ⟨g, off + k2 * 9 + 5, none⟩ (.int .i64 x.o)).setCell ⟨g, off + k2 * 9 + 6, none⟩ (.int .i64 x.s)).setCell ⟨g, off + k2 * 9 + 7, none⟩ (.int .i64 x.l)).setCell ⟨g, off + k2 * 9 + 8, none⟩ (.int .i64 x.v)) = w5 at *
            clear y0 y1 y2 y3 y4 y5 y6 y7 y8 fz hr3 hf3 hrd hC0 hk0
            have HR5 : Hid (RowC w5 base (some ⟨g, off, none⟩) c (P ++ (U ++ [y]) ++ x :: (V2 ++ (R2 ++ Q)))) := Lib.hid (by rw [← HNX.out]; exact hr5)
            have HF5 := Lib.hid (hf2.trans hf5 (fun _ _ e => e))
            have hk2e := HK2.out
            clear hr5 hf5
            go_wp2_with fail
            go_roundw
            case rel => exact ⟨k2, U ++ [y], V2, by omega, by omega, by go_num, HUV2, Lib.hid (by have := HU.out; rw [List.length_append, List.length_singleton]; omega), HR5.out, HF5.out⟩
            case measure => simp [intOf]; omega
        · obtain rfl : k = z := by omega
          have HRE : Hid (RowC w2 base (some ⟨g, off, none⟩) c TT) := Lib.hid (by
            have h1 := HUV.out
            have h2 := HU.out
            have h3 := HL1.out
            have h4 := HZ.out
            have h5 := HMA.out
            have hV : V = [] := by
              apply List.eq_nil_of_length_eq_zero
              have := congrArg List.length h1
              rw [List.length_append] at this
              omega
            have hU : U = R1 := by rw [hV, List.append_nil] at h1; exact h1
            rw [HFIN.out, ← hU]
            rw [hV] at hr2
            exact hr2)
          have HFE : Hid (Fr (fun b => ablk (some (⟨g, off, none⟩ : Addr)) = some b) w w2) := Lib.hid (hf2.mono fun _ _ e => by rw [e]; rfl)
          clear hr2 hf2 HUV
          go_wp2_with fail
          (try simp only [Exit.inBlock, Exit.then])
          refine bodyPost_ret (results_none rfl _ _ _) rfl ?_
          exact ⟨rfl, HRE.out, HFE.out⟩

end Go.Proofs.Ytkeledbgmpienaa
