/- slices.SortStableFunc at changes: the order, the closure, swaps, insertion. -/
import Derived.Test.YtkeledbgmpienaaGreatA04
import Derived.Deep.Cut

namespace Go.Proofs.YtkeledbgmpienaaGreat
open Go.RowKit Go.WideShapes Go.ChangeShapes Go.ChangeAt

/-- a change's path is ahead of another one's -/
def ltC (x y : CV) : Bool := decide (cmpT (tl x.p) (tl y.p) < 0)
theorem ordC : OrdC ltC where
  irr a := by unfold ltC; rw [cmpT_self]; rfl
  tr a b c h k := by
    unfold ltC at *
    rw [decide_eq_true_eq] at *
    exact ordT.trans _ _ _ h k
  neg a b c h := by
    unfold ltC at *
    rw [decide_eq_true_eq] at h
    rw [decide_eq_true_eq, decide_eq_true_eq]
    by_cases h1 : cmpT (tl a.p) (tl b.p) < 0
    · exact .inl h1
    · by_cases h2 : cmpT (tl b.p) (tl c.p) < 0
      · exact .inr h2
      · exfalso
        have h3 := leT_trans (tl c.p) (tl b.p) (tl a.p) (by unfold leT; rw [decide_eq_false h2]; rfl) (by unfold leT; rw [decide_eq_false h1]; rfl)
        unfold leT at h3
        rw [decide_eq_true h] at h3
        cases h3
/-- a row of changes of the call's own -/
abbrev RowC (w : World) (base : Nat) (A : Option Addr) (c : Nat) (X : List CV) : Prop := Row w base 47 9 A X.length c (X.flatMap CV.cells)
/-- a change stored at an address -/
def setCh (w : World) (g o : Nat) (x : CV) : World :=
  ((((((((w.setCell ⟨g, o, none⟩ (.string x.p)).setCell ⟨g, o + 1, none⟩ (.int .i64 x.b)).setCell ⟨g, o + 2, none⟩ (.bool x.m)).setCell ⟨g, o + 3, none⟩ (.bool x.t)).setCell ⟨g, o + 4, none⟩ (.int .i64 x.k)).setCell ⟨g, o + 5, none⟩ (.int .i64 x.o)).setCell ⟨g, o + 6, none⟩ (.int .i64 x.s)).setCell ⟨g, o + 7, none⟩ (.int .i64 x.l)).setCell ⟨g, o + 8, none⟩ (.int .i64 x.v)
theorem flat_set : ∀ (X : List CV) (i : Nat) (x : CV), i < X.length → (((((((((X.flatMap CV.cells).set (i * 9) (.string x.p)).set (i * 9 + 1) (.int .i64 x.b)).set (i * 9 + 2) (.bool x.m)).set (i * 9 + 3) (.bool x.t)).set (i * 9 + 4) (.int .i64 x.k)).set (i * 9 + 5) (.int .i64 x.o)).set (i * 9 + 6) (.int .i64 x.s)).set (i * 9 + 7) (.int .i64 x.l)).set (i * 9 + 8) (.int .i64 x.v) = (X.set i x).flatMap CV.cells
  | [], i, x, h => by simp at h
  | a :: X, 0, x, _ => by simp [CV.cells]
  | a :: X, i + 1, x, h => by
    have ih := flat_set X i x (by simpa using h)
    rw [List.flatMap_cons, List.set_cons_succ, List.flatMap_cons, ← ih]
    have hs : ∀ (l : List Value) (k : Nat) (u : Value), (a.cells ++ l).set ((i + 1) * 9 + k) u = a.cells ++ l.set (i * 9 + k) u := fun l k u => by
      rw [List.set_append_right _ _ (by rw [ch_len]; omega), ch_len]
      congr 2
      omega
    have hs0 : ∀ (l : List Value) (u : Value), (a.cells ++ l).set ((i + 1) * 9) u = a.cells ++ l.set (i * 9) u := fun l u => hs l 0 u
    rw [hs0, hs, hs, hs, hs, hs, hs, hs, hs]
theorem RowC.setCh {w : World} {base g off c : Nat} {X : List CV} {i : Nat} (h : RowC w base (some ⟨g, off, none⟩) c X) (hi : i < X.length) (x : CV) : RowC (setCh w g (off + i * 9) x) base (some ⟨g, off, none⟩) c (X.set i x) := by
  have h1 := ((((((((h.put (i * 9) (.string x.p)).put (i * 9 + 1) (.int .i64 x.b)).put (i * 9 + 2) (.bool x.m)).put (i * 9 + 3) (.bool x.t)).put (i * 9 + 4) (.int .i64 x.k)).put (i * 9 + 5) (.int .i64 x.o)).put (i * 9 + 6) (.int .i64 x.s)).put (i * 9 + 7) (.int .i64 x.l)).put (i * 9 + 8) (.int .i64 x.v)
  rw [flat_set X i x hi] at h1
  unfold RowC
  rw [List.length_set]
  exact h1
theorem setCh_fr (w : World) (g o : Nat) (x : CV) : Fr (fun b => b = g) w (setCh w g o x) :=
  ((((((((((Fr.refl (fun b => b = g) w).setAt g _ rfl _).setAt g _ rfl _).setAt g _ rfl _).setAt g _ rfl _).setAt g _ rfl _).setAt g _ rfl _).setAt g _ rfl _).setAt g _ rfl _).setAt g _ rfl _)
theorem RowC.at9 {w : World} {base g off c : Nat} {X : List CV} {i : Nat} (h : RowC w base (some ⟨g, off, none⟩) c X) (hi : i < X.length) : At9 w g (off + i * 9) X[i] := by
  obtain ⟨b, o, e, _, _, ha⟩ := ch_at (h.rd.mono (Z' := fun _ => True) (fun _ _ _ => trivial)) hi
  injection e with e
  injection e with e1 e2
  subst e1 e2
  exact ha
theorem RowC.get {w : World} {base g off c : Nat} {X : List CV} {i : Nat} {z : CV} (h : RowC w base (some ⟨g, off, none⟩) c X) (hi : X[i]? = some z) : At9 w g (off + i * 9) z := by
  obtain ⟨hl, e⟩ := List.getElem?_eq_some_iff.1 hi
  rw [← e]
  exact h.at9 hl
theorem sortC_one {α : Type} (lt : α → α → Bool) {l : List α} (h : l.length ≤ 1) : sortC lt l = l := by
  rcases l with _ | ⟨x, _ | ⟨y, l⟩⟩
  · rfl
  · rfl
  · simp at h
theorem mid_get {α : Type} {U V : List α} {x : α} {k : Nat} (h : U.length = k) : (U ++ x :: V)[k]? = some x := by
  rw [List.getElem?_append_right (by omega), h, Nat.sub_self]; rfl
theorem mid_get1 {α : Type} {U V : List α} {x y : α} {k : Nat} (h : U.length = k) : (U ++ y :: x :: V)[k + 1]? = some x := by
  rw [List.getElem?_append_right (by omega), show k + 1 - U.length = 1 by omega]; rfl
theorem mid_swap {α : Type} {U V : List α} {x y : α} {k : Nat} (h : U.length = k) : ((U ++ y :: x :: V).set (k + 1) y).set k x = U ++ x :: y :: V := by
  rw [List.set_append_right _ _ (by omega), show k + 1 - U.length = 1 by omega, List.set_append_right _ _ (by omega), show k - U.length = 0 by omega]
  rfl

set_option maxHeartbeats 400000 in
theorem cmpC_any (x y : CV) (hx : x.p.size ≤ 140737488355328) (hy : y.p.size ≤ 140737488355328) (w : World) :
    Calls Tryz.prog 33 #[x.val, y.val] w fun e w' => e = .returned (.int .i64 (cmpT (tl x.p) (tl y.p))) ∧ Below w.heap.size w w' := by
  have hb0 : Below w.heap.size w ((w.alloc (.cells #[.string x.p, .int .i64 x.b, .bool x.m, .bool x.t, .int .i64 x.k, .int .i64 x.o, .int .i64 x.s, .int .i64 x.l, .int .i64 x.v] 47)).alloc (.cells #[.string y.p, .int .i64 y.b, .bool y.m, .bool y.t, .int .i64 y.k, .int .i64 y.o, .int .i64 y.s, .int .i64 y.l, .int .i64 y.v] 47)) := ((Below.refl _ _).alloc (Nat.le_refl _) _).alloc (by simp) _
  have b0 := (Blk.new w 47 #[.string x.p, .int .i64 x.b, .bool x.m, .bool x.t, .int .i64 x.k, .int .i64 x.o, .int .i64 x.s, .int .i64 x.l, .int .i64 x.v]).alloc (.cells #[.string y.p, .int .i64 y.b, .bool y.m, .bool y.t, .int .i64 y.k, .int .i64 y.o, .int .i64 y.s, .int .i64 y.l, .int .i64 y.v] 47)
  have b1 : Blk ((w.alloc (.cells #[.string x.p, .int .i64 x.b, .bool x.m, .bool x.t, .int .i64 x.k, .int .i64 x.o, .int .i64 x.s, .int .i64 x.l, .int .i64 x.v] 47)).alloc (.cells #[.string y.p, .int .i64 y.b, .bool y.m, .bool y.t, .int .i64 y.k, .int .i64 y.o, .int .i64 y.s, .int .i64 y.l, .int .i64 y.v] 47)) (w.heap.size + 1) 47 #[.string y.p, .int .i64 y.b, .bool y.m, .bool y.t, .int .i64 y.k, .int .i64 y.o, .int .i64 y.s, .int .i64 y.l, .int .i64 y.v] := by
    have := Blk.new (w.alloc (.cells #[.string x.p, .int .i64 x.b, .bool x.m, .bool x.t, .int .i64 x.k, .int .i64 x.o, .int .i64 x.s, .int .i64 x.l, .int .i64 x.v] 47)) 47 #[.string y.p, .int .i64 y.b, .bool y.m, .bool y.t, .int .i64 y.k, .int .i64 y.o, .int .i64 y.s, .int .i64 y.l, .int .i64 y.v]
    simpa using this
  have c0 := b0.cell 0
  have c1 := b1.cell 0
  simp only [List.getElem?_toArray, List.getElem?_cons_zero, List.getElem?_cons_succ] at c0 c1
  clear b0 b1
  go_enter Tryz.func33, Tryz.ntmps33
  go_upto_region 1 with (fail)
  generalize ((w.alloc (.cells #[.string x.p, .int .i64 x.b, .bool x.m, .bool x.t, .int .i64 x.k, .int .i64 x.o, .int .i64 x.s, .int .i64 x.l, .int .i64 x.v] 47)).alloc (.cells #[.string y.p, .int .i64 y.b, .bool y.m, .bool y.t, .int .i64 y.k, .int .i64 y.o, .int .i64 y.s, .int .i64 y.l, .int .i64 y.v] 47)) = w2 at *
  go_wp2_with fail
  refine (compare_any x.p y.p (by omega) (by omega) w2).mono ?_
  rintro e w3 ⟨rfl, hq⟩
  have hw3 := hb0.trans ((Qt.below hq).mono hb0.size)
  go_wp2_with fail
  go_ret
  exact ⟨rfl, hw3⟩


set_option maxRecDepth 100000 in
set_option maxHeartbeats 2000000 in
theorem insSort_any (A : Option Addr) (c a b base : Nat) (X : List CV) (w : World) (h : RowC w base A c X) (hab : a ≤ b) (hb : b ≤ X.length) (hp : ∀ x ∈ X, x.p.size ≤ 140737488355328) (hl : X.length ≤ 1000000) :
    Calls Tryz.prog 69 #[.slice A X.length c, .int .i64 (a : Int), .int .i64 (b : Int), .func (.func 33) #[] #[]] w fun e w' => e = .returned (.tuple #[]) ∧ RowC w' base A c (X.take a ++ sortC ltC ((X.drop a).take (b - a)) ++ X.drop b) ∧ Fr (fun g => ablk A = some g) w w' := by
  have HR := Lib.hid h
  have HP := Lib.hid hp
  obtain ⟨N, hN⟩ : ∃ N, N = X.length := ⟨_, rfl⟩
  have HN := Lib.hid hN
  rw [← hN] at hb hl ⊢
  clear h hp hN
  go_enter Tryz.func69, Tryz.ntmps69
  go_wp2_with fail
  go_loopw [8, 9] (fun iv _ wr => ∃ (i : Nat) (Y : List CV), a + 1 ≤ i ∧ (i ≤ b ∨ i = a + 1) ∧ iv = .int .i64 (i : Int) ∧ Hid (Y = X.take a ++ sortC ltC ((X.drop a).take (i - a)) ++ X.drop i) ∧ RowC wr base A c Y ∧ Fr (fun g => ablk A = some g) w wr) (fun iv _ _ => b + 1 - (intOf iv).toNat)
  case atStart =>
    refine ⟨a + 1, X, Nat.le_refl _, .inr rfl, by go_num, Lib.hid ?_, HR.out, Fr.refl _ _⟩
    rw [show a + 1 - a = 1 by omega, sortC_one ltC (by rw [List.length_take]; omega), List.append_assoc]
    conv => lhs; rw [← List.take_append_drop a X]
    congr 1
    conv => lhs; rw [← List.take_append_drop 1 (X.drop a)]
    rw [List.drop_drop]
  case round =>
    obtain ⟨i, Y, hi1, hi2, rfl, hY, hr, hf⟩ := hrel
    rename World => wo
    by_cases hlt : i < b
    · have hiN : i < X.length := by rw [← HN.out]; omega
      obtain ⟨x, hx⟩ : ∃ x, x = X[i] := ⟨_, rfl⟩
      obtain ⟨P, hPd⟩ : ∃ P, P = sortC ltC ((X.drop a).take (i - a)) := ⟨_, rfl⟩
      have hPl : P.length = i - a := by rw [hPd, sortC_len, List.length_take, List.length_drop]; omega
      have HPS : Hid (SortedC ltC P) := Lib.hid (by rw [hPd]; exact sortC_sorted ordC _)
      have HY2 : Hid (Y = X.take a ++ P ++ x :: ([] ++ X.drop (i + 1))) := Lib.hid (by
        rw [hY.out, ← hPd, List.drop_eq_getElem_cons hiN, hx]; rfl)
      have HNX : Hid (sortC ltC ((X.drop a).take (i + 1 - a)) = insC ltC x P) := Lib.hid (by
        rw [show i + 1 - a = (i - a) + 1 by omega, List.take_succ_eq_append_getElem (by rw [List.length_drop]; omega), sortC_snoc, ← hPd]
        congr 1
        rw [List.getElem_drop, hx]
        congr 1
        omega)
      have hxm : x ∈ X := by rw [hx]; exact List.getElem_mem hiN
      have HPM : Hid (∀ y ∈ P, y ∈ X) := Lib.hid (fun y hy => by
        rw [hPd] at hy
        exact List.mem_of_mem_drop (List.mem_of_mem_take (sortC_mem.1 hy)))
      have hxp := HP.out x hxm
      have HTA : Hid ((X.take a).length = a) := Lib.hid (by rw [List.length_take]; omega)
      rw [HY2.out] at hr
      have HR2 := Lib.hid hr
      clear hY HY2 hx hPd hxm hr
      go_wp2_with fail
      go_loopw [9] (fun jv wr => ∃ (j : Nat) (U2 V2 : List CV), a ≤ j ∧ j ≤ i ∧ jv = .int .i64 (j : Int) ∧ Hid (U2 ++ V2 = P) ∧ Hid (U2.length = j - a) ∧ Hid (∀ y ∈ V2, ltC x y = true) ∧ RowC wr base A c (X.take a ++ U2 ++ x :: (V2 ++ X.drop (i + 1))) ∧ Fr (fun g => ablk A = some g) w wr) (fun jv _ => (intOf jv).toNat)
      case atStart => exact ⟨i, P, [], by omega, Nat.le_refl _, rfl, Lib.hid (by simp), Lib.hid hPl, Lib.hid (by simp), HR2.out, hf⟩
      case round =>
        obtain ⟨j, U2, V2, hj1, hj2, rfl, hUV, hU, hV, hr, hfr⟩ := hrel
        have hPl2 := hPl
        by_cases hja : a < j
        · obtain ⟨k, rfl⟩ : ∃ k, j = k + 1 := ⟨j - 1, by omega⟩
          obtain ⟨U3, y, hU3⟩ : ∃ U3 y, U2 = U3 ++ [y] := by
            have hne : U2 ≠ [] := by intro e; have := hU.out; rw [e] at this; simp at this; omega
            exact ⟨U2.dropLast, U2.getLast hne, (List.dropLast_concat_getLast hne).symm⟩
          have HUK : Hid ((X.take a ++ U3).length = k) := Lib.hid (by
            have := hU.out
            rw [hU3, List.length_append, List.length_singleton] at this
            rw [List.length_append, HTA.out]; omega)
          have hr2 : RowC wr base A c ((X.take a ++ U3) ++ y :: x :: (V2 ++ X.drop (i + 1))) := by
            have e : X.take a ++ U2 ++ x :: (V2 ++ X.drop (i + 1)) = (X.take a ++ U3) ++ y :: x :: (V2 ++ X.drop (i + 1)) := by rw [hU3]; simp
            rw [← e]; exact hr
          obtain ⟨LL, hLL⟩ : ∃ LL, LL = (X.take a ++ U3) ++ y :: x :: (V2 ++ X.drop (i + 1)) := ⟨_, rfl⟩
          rw [← hLL] at hr2
          have hLn : Hid (LL.length = N) := Lib.hid (by
            rw [hLL, HN.out]
            have h1 := congrArg List.length hUV.out
            rw [hU3] at h1
            have h2 := hU.out
            rw [hU3] at h2
            have h3 := HTA.out
            simp only [List.length_append, List.length_cons, List.length_nil, List.length_drop] at h1 h2 ⊢
            omega)
          have hg1 : LL[k]? = some y := by rw [hLL]; exact mid_get HUK.out
          have hg2 : LL[k + 1]? = some x := by rw [hLL]; exact mid_get1 HUK.out
          have hym : y ∈ X := HPM.out y (by rw [← hUV.out, hU3]; simp)
          have hyp := HP.out y hym
          obtain ⟨g, off, rfl, _, hgb⟩ := hr2.addr (by rw [hLn.out]; omega)
          have hy9 := hr2.get hg1
          have hx9 := hr2.get hg2
          have HCM := Lib.hid (fun W (_ : Below wr.heap.size wr W) => cmpC_any x y hxp hyp W)
          have hkd : decide ((a : Int) < (k : Int) + 1) = true := decide_eq_true (by omega)
          have hz1 : (0 : Int) ≤ (k : Int) + 1 := by omega
          have hz2 : (k : Int) + 1 < (N : Int) := by omega
          have hz3 : (k : Int) < (N : Int) := by omega
          have hwk : IntKind.i64.wrap (k : Int) = (k : Int) := by rw [IntKind.wrap_i64]; omega
          by_cases hlx : cmpT (tl x.p) (tl y.p) < 0
          · have hld : decide (cmpT (tl x.p) (tl y.p) < 0) = true := decide_eq_true hlx
            have HLX : Hid (ltC x y = true) := Lib.hid hld
            have HR2b := Lib.hid hr2
            have HLL := Lib.hid hLL
            have HU3 := Lib.hid hU3
            clear hr2 hLL hg1 hg2 hU3 hr HR2
            go_wp2_with fail
            refine wp_region_b 17 (by kernel_rfl) (by kernel_rfl) ?_
            simp only [List.take_succ_cons, List.take_zero, List.drop_succ_cons, List.drop_zero]
            refine lb_move _ (by kernel_rfl) rfl ⟨_, (by ((try simp [go_sem]); (try rfl); done)), _, (by (simp only [Act.put, List.setIfInBounds_toArray, List.set_cons_zero, List.set_cons_succ]; rfl)), ?_⟩
            refine lb_move _ (by kernel_rfl) rfl ⟨_, (by ((try simp [go_sem]); (try rfl); done)), _, (by (simp only [Act.put, List.setIfInBounds_toArray, List.set_cons_zero, List.set_cons_succ]; rfl)), ?_⟩
            refine lb_val (by kernel_rfl) ⟨_, (by (intro w' hC; clear hC; (try go_simp); (try with_reducible rfl); done)), _, (by (simp only [Act.put, List.setIfInBounds_toArray, List.set_cons_zero, List.set_cons_succ]; rfl)), ?_⟩
            refine lb_move _ (by kernel_rfl) rfl ⟨_, (by ((try simp [go_sem]); (try rfl); done)), _, (by (simp only [Act.put, List.setIfInBounds_toArray, List.set_cons_zero, List.set_cons_succ]; rfl)), ?_⟩
            first | (refine lb_skip (by rfl) ⟨_, (by (simp only [Act.put, List.setIfInBounds_toArray, List.set_cons_zero, List.set_cons_succ]; rfl)), ?_⟩) | (refine lb_move _ (by kernel_rfl) rfl ⟨_, (by ((try simp [go_sem]); (try rfl); done)), _, (by (simp only [Act.put, List.setIfInBounds_toArray, List.set_cons_zero, List.set_cons_succ]; rfl)), ?_⟩)
            first | (refine lb_skip (by rfl) ⟨_, (by (simp only [Act.put, List.setIfInBounds_toArray, List.set_cons_zero, List.set_cons_succ]; rfl)), ?_⟩) | (refine lb_move _ (by kernel_rfl) rfl ⟨_, (by ((try simp [go_sem]); (try rfl); done)), _, (by (simp only [Act.put, List.setIfInBounds_toArray, List.set_cons_zero, List.set_cons_succ]; rfl)), ?_⟩)
            first | (refine lb_skip (by rfl) ⟨_, (by (simp only [Act.put, List.setIfInBounds_toArray, List.set_cons_zero, List.set_cons_succ]; rfl)), ?_⟩) | (refine lb_move _ (by kernel_rfl) rfl ⟨_, (by ((try simp [go_sem]); (try rfl); done)), _, (by (simp only [Act.put, List.setIfInBounds_toArray, List.set_cons_zero, List.set_cons_succ]; rfl)), ?_⟩)
            first | (refine lb_skip (by rfl) ⟨_, (by (simp only [Act.put, List.setIfInBounds_toArray, List.set_cons_zero, List.set_cons_succ]; rfl)), ?_⟩) | (refine lb_val (by kernel_rfl) ⟨_, (by (intro w' hC; clear hC; (try go_simp); (try with_reducible rfl); done)), _, (by (simp only [Act.put, List.setIfInBounds_toArray, List.set_cons_zero, List.set_cons_succ]; rfl)), ?_⟩)
            first | (refine lb_skip (by rfl) ⟨_, (by (simp only [Act.put, List.setIfInBounds_toArray, List.set_cons_zero, List.set_cons_succ]; rfl)), ?_⟩) | (refine lb_val (by kernel_rfl) ⟨_, (by (intro w' hC; (obtain ⟨x0, x1, x2, x3, x4, x5, x6, x7, x8⟩ := hx9.below hgb hC); clear hC; (try go_simp); (try with_reducible rfl); done)), _, (by (simp only [Act.put, List.setIfInBounds_toArray, List.set_cons_zero, List.set_cons_succ]; rfl)), ?_⟩)
            first | (refine lb_skip (by rfl) ⟨_, (by (simp only [Act.put, List.setIfInBounds_toArray, List.set_cons_zero, List.set_cons_succ]; rfl)), ?_⟩) | (refine lb_move _ (by kernel_rfl) rfl ⟨_, (by ((try simp [go_sem]); (try rfl); done)), _, (by (simp only [Act.put, List.setIfInBounds_toArray, List.set_cons_zero, List.set_cons_succ]; rfl)), ?_⟩)
            first | (refine lb_skip (by rfl) ⟨_, (by (simp only [Act.put, List.setIfInBounds_toArray, List.set_cons_zero, List.set_cons_succ]; rfl)), ?_⟩) | (refine lb_move _ (by kernel_rfl) rfl ⟨_, (by ((try simp [go_sem]); (try rfl); done)), _, (by (simp only [Act.put, List.setIfInBounds_toArray, List.set_cons_zero, List.set_cons_succ]; rfl)), ?_⟩)
            first | (refine lb_skip (by rfl) ⟨_, (by (simp only [Act.put, List.setIfInBounds_toArray, List.set_cons_zero, List.set_cons_succ]; rfl)), ?_⟩) | (refine lb_val (by kernel_rfl) ⟨_, (by (intro w' hC; clear hC; (try go_simp); (try with_reducible rfl); done)), _, (by (simp only [Act.put, List.setIfInBounds_toArray, List.set_cons_zero, List.set_cons_succ]; rfl)), ?_⟩)
            first | (refine lb_skip (by rfl) ⟨_, (by (simp only [Act.put, List.setIfInBounds_toArray, List.set_cons_zero, List.set_cons_succ]; rfl)), ?_⟩) | (refine lb_val (by kernel_rfl) ⟨_, (by (intro w' hC; clear hC; (try go_simp); (try with_reducible rfl); done)), _, (by (simp only [Act.put, List.setIfInBounds_toArray, List.set_cons_zero, List.set_cons_succ]; rfl)), ?_⟩)
            first | (refine lb_skip (by rfl) ⟨_, (by (simp only [Act.put, List.setIfInBounds_toArray, List.set_cons_zero, List.set_cons_succ]; rfl)), ?_⟩) | (refine lb_val (by kernel_rfl) ⟨_, (by (intro w' hC; (obtain ⟨y0, y1, y2, y3, y4, y5, y6, y7, y8⟩ := hy9.below hgb hC); clear hC; (try go_simp); (try with_reducible rfl); done)), _, (by (simp only [Act.put, List.setIfInBounds_toArray, List.set_cons_zero, List.set_cons_succ]; rfl)), ?_⟩)
            first | (refine lb_skip (by rfl) ⟨_, (by (simp only [Act.put, List.setIfInBounds_toArray, List.set_cons_zero, List.set_cons_succ]; rfl)), ?_⟩) | (refine lb_call (by kernel_rfl) (fun w' hC => HCM.out w' hC) (by (intro w'; go_simp; done)) ⟨_, (by (simp only [Act.put, List.setIfInBounds_toArray, List.set_cons_zero, List.set_cons_succ]; rfl)), ?_⟩)
            first | (refine lb_skip (by rfl) ⟨_, (by (simp only [Act.put, List.setIfInBounds_toArray, List.set_cons_zero, List.set_cons_succ]; rfl)), ?_⟩) | (refine lb_val (by kernel_rfl) ⟨_, (by (intro w' hC; clear hC; (try go_simp); (try with_reducible rfl); done)), _, (by (simp only [Act.put, List.setIfInBounds_toArray, List.set_cons_zero, List.set_cons_succ]; rfl)), ?_⟩)
            refine lb_val (by kernel_rfl) ⟨_, (by (intro w' hC; clear hC; (try go_simp); (try with_reducible rfl); done)), _, (by (simp only [Act.put, List.setIfInBounds_toArray, List.set_cons_zero, List.set_cons_succ]; rfl)), ?_⟩
            refine .nil ?_
            intro w2 hb2
            have hr4 := HR2b.out.below hb2
            have hgb2 : g < w2.heap.size := Nat.lt_of_lt_of_le hgb hb2.size
            have hx9' := hx9.below hgb hb2
            have hy9' := hy9.below hgb hb2
            have hf2 := hfr.then_below hb2
            clear hx9 hy9 HCM hb2 hfr HR2b
            go_wp2_with fail
            have hC0 : Fr (fun b => b = g) w2 w2.drew := (Fr.refl (fun b => b = g) w2).drew
            have hk1 : k + 1 < LL.length := by rw [hLn.out]; omega
            refine wp_region_plan (.tell 0 (.tell 1 (.tell 2 (.tell 3 (.tell 4 (.tell 5 (.tell 6 (.tell 7 (.tell 8 (.tell 10 (.tell 11 (.tell 12 (.two 9 (.one 13 (.tell 14 (.one 15 (.tell 16 (.one 17 .done))))) 13 (.one 9 (.tell 14 (.one 15 (.tell 16 (.one 17 .done)))))))))))))))))) (fun W => Fr (fun b => b = g) w2 W) _ (by kernel_rfl) (by kernel_rfl) ?_ (fun _ _ h => h)
            refine pl_val (by (simp only [List.getElem?_toArray, List.getElem?_cons_succ, List.getElem?_cons_zero]; rfl)) (by kernel_rfl) ⟨_, (by (intro w' hC; clear hC; (try go_simp); (try with_reducible rfl); done)), _, (by (simp only [Act.put, List.setIfInBounds_toArray, List.set_cons_zero, List.set_cons_succ]; rfl)), ?_⟩
            refine pl_val (by (simp only [List.getElem?_toArray, List.getElem?_cons_succ, List.getElem?_cons_zero]; rfl)) (by kernel_rfl) ⟨_, (by (intro w' hC; clear hC; (try go_simp); (try with_reducible rfl); done)), _, (by (simp only [Act.put, List.setIfInBounds_toArray, List.set_cons_zero, List.set_cons_succ]; rfl)), ?_⟩
            refine pl_val (by (simp only [List.getElem?_toArray, List.getElem?_cons_succ, List.getElem?_cons_zero]; rfl)) (by kernel_rfl) ⟨_, (by (intro w' hC; clear hC; (try go_simp); (try with_reducible rfl); done)), _, (by (simp only [Act.put, List.setIfInBounds_toArray, List.set_cons_zero, List.set_cons_succ]; rfl)), ?_⟩
            refine pl_val (by (simp only [List.getElem?_toArray, List.getElem?_cons_succ, List.getElem?_cons_zero]; rfl)) (by kernel_rfl) ⟨_, (by (intro w' hC; clear hC; (try go_simp); (try with_reducible rfl); done)), _, (by (simp only [Act.put, List.setIfInBounds_toArray, List.set_cons_zero, List.set_cons_succ]; rfl)), ?_⟩
            refine pl_val (by (simp only [List.getElem?_toArray, List.getElem?_cons_succ, List.getElem?_cons_zero]; rfl)) (by kernel_rfl) ⟨_, (by (intro w' hC; clear hC; (try go_simp); (try with_reducible rfl); done)), _, (by (simp only [Act.put, List.setIfInBounds_toArray, List.set_cons_zero, List.set_cons_succ]; rfl)), ?_⟩
            refine pl_val (by (simp only [List.getElem?_toArray, List.getElem?_cons_succ, List.getElem?_cons_zero]; rfl)) (by kernel_rfl) ⟨_, (by (intro w' hC; clear hC; (try go_simp); (try with_reducible rfl); done)), _, (by (simp only [Act.put, List.setIfInBounds_toArray, List.set_cons_zero, List.set_cons_succ]; rfl)), ?_⟩
            refine pl_val (by (simp only [List.getElem?_toArray, List.getElem?_cons_succ, List.getElem?_cons_zero]; rfl)) (by kernel_rfl) ⟨_, (by (intro w' hC; clear hC; (try go_simp); (try with_reducible rfl); done)), _, (by (simp only [Act.put, List.setIfInBounds_toArray, List.set_cons_zero, List.set_cons_succ]; rfl)), ?_⟩
            refine pl_val (by (simp only [List.getElem?_toArray, List.getElem?_cons_succ, List.getElem?_cons_zero]; rfl)) (by kernel_rfl) ⟨_, (by (intro w' hC; clear hC; (try go_simp); (try with_reducible rfl); done)), _, (by (simp only [Act.put, List.setIfInBounds_toArray, List.set_cons_zero, List.set_cons_succ]; rfl)), ?_⟩
            refine pl_val (by (simp only [List.getElem?_toArray, List.getElem?_cons_succ, List.getElem?_cons_zero]; rfl)) (by kernel_rfl) ⟨_, (by (intro w' hC; clear hC; (try go_simp); (try with_reducible rfl); done)), _, (by (simp only [Act.put, List.setIfInBounds_toArray, List.set_cons_zero, List.set_cons_succ]; rfl)), ?_⟩
            refine pl_val (by (simp only [List.getElem?_toArray, List.getElem?_cons_succ, List.getElem?_cons_zero]; rfl)) (by kernel_rfl) ⟨_, (by (intro w' hC; clear hC; (try go_simp); (try with_reducible rfl); done)), _, (by (simp only [Act.put, List.setIfInBounds_toArray, List.set_cons_zero, List.set_cons_succ]; rfl)), ?_⟩
            refine pl_val (by (simp only [List.getElem?_toArray, List.getElem?_cons_succ, List.getElem?_cons_zero]; rfl)) (by kernel_rfl) ⟨_, (by (intro w' hC; clear hC; (try go_simp); (try with_reducible rfl); done)), _, (by (simp only [Act.put, List.setIfInBounds_toArray, List.set_cons_zero, List.set_cons_succ]; rfl)), ?_⟩
            refine pl_val (by (simp only [List.getElem?_toArray, List.getElem?_cons_succ, List.getElem?_cons_zero]; rfl)) (by kernel_rfl) ⟨_, (by (intro w' hC; clear hC; (try go_simp); (try with_reducible rfl); done)), _, (by (simp only [Act.put, List.setIfInBounds_toArray, List.set_cons_zero, List.set_cons_succ]; rfl)), ?_⟩
            have hrd := hr4.drew
            have hxd : At9 w2.drew g (off + (k + 1) * 9) x := hx9'.below hgb2 (Below.refl _ _).drew
            have hyd : At9 w2.drew g (off + k * 9) y := hy9'.below hgb2 (Below.refl _ _).drew
            clear hx9' hy9' hr4
            generalize w2.drew = wd at *
            obtain ⟨x0, x1, x2, x3, x4, x5, x6, x7, x8⟩ := hxd
            obtain ⟨y0, y1, y2, y3, y4, y5, y6, y7, y8⟩ := hyd
            have fz := fun o => hrd.frozen o
            refine pl_two (by (simp only [List.getElem?_toArray, List.getElem?_cons_succ, List.getElem?_cons_zero]; rfl)) (by (simp only [List.getElem?_toArray, List.getElem?_cons_succ, List.getElem?_cons_zero]; rfl)) hC0 ?_ ?_
            · refine al_val (by kernel_rfl) ⟨_, _, (by (go_simp; first | done | exact ⟨rfl, rfl⟩)), _, (by (simp only [Act.put, List.setIfInBounds_toArray, List.set_cons_zero, List.set_cons_succ]; rfl)), ?_⟩
              refine pl_one (by (simp only [List.getElem?_toArray, List.getElem?_cons_succ, List.getElem?_cons_zero]; rfl)) hC0 ?_
              refine al_val (by kernel_rfl) ⟨_, _, (by (go_simp; first | done | exact ⟨rfl, rfl⟩)), _, (by (simp only [Act.put, List.setIfInBounds_toArray, List.set_cons_zero, List.set_cons_succ]; rfl)), ?_⟩
              refine pl_val (by (simp only [List.getElem?_toArray, List.getElem?_cons_succ, List.getElem?_cons_zero]; rfl)) (by kernel_rfl) ⟨_, (by (intro w' hC; clear hC; (try go_simp); (try with_reducible rfl); done)), _, (by (simp only [Act.put, List.setIfInBounds_toArray, List.set_cons_zero, List.set_cons_succ]; rfl)), ?_⟩
              refine pl_one (by (simp only [List.getElem?_toArray, List.getElem?_cons_succ, List.getElem?_cons_zero]; rfl)) hC0 ?_
              refine al_skip (by kernel_rfl) ⟨_, (by (go_simp; first | done | rfl)), _, (by (simp only [Act.put, List.setIfInBounds_toArray, List.set_cons_zero, List.set_cons_succ]; rfl)), ?_⟩
              have hr3 := RowC.setCh hrd hk1 y
              change RowC (((((((((wd.setCell ⟨g, off + (k + 1) * 9, none⟩ (.string y.p)).setCell ⟨g, off + (k + 1) * 9 + 1, none⟩ (.int .i64 y.b)).setCell ⟨g, off + (k + 1) * 9 + 2, none⟩ (.bool y.m)).setCell ⟨g, off + (k + 1) * 9 + 3, none⟩ (.bool y.t)).setCell ⟨g, off + (k + 1) * 9 + 4, none⟩ (.int .i64 y.k)).setCell ⟨g, off + (k + 1) * 9 + 5, none⟩ (.int .i64 y.o)).setCell ⟨g, off + (k + 1) * 9 + 6, none⟩ (.int .i64 y.s)).setCell ⟨g, off + (k + 1) * 9 + 7, none⟩ (.int .i64 y.l)).setCell ⟨g, off + (k + 1) * 9 + 8, none⟩ (.int .i64 y.v)) base (some ⟨g, off, none⟩) c (LL.set (k + 1) y) at hr3
              have hf3 : Fr (fun b => b = g) w2 (((((((((wd.setCell ⟨g, off + (k + 1) * 9, none⟩ (.string y.p)).setCell ⟨g, off + (k + 1) * 9 + 1, none⟩ (.int .i64 y.b)).setCell ⟨g, off + (k + 1) * 9 + 2, none⟩ (.bool y.m)).setCell ⟨g, off + (k + 1) * 9 + 3, none⟩ (.bool y.t)).setCell ⟨g, off + (k + 1) * 9 + 4, none⟩ (.int .i64 y.k)).setCell ⟨g, off + (k + 1) * 9 + 5, none⟩ (.int .i64 y.o)).setCell ⟨g, off + (k + 1) * 9 + 6, none⟩ (.int .i64 y.s)).setCell ⟨g, off + (k + 1) * 9 + 7, none⟩ (.int .i64 y.l)).setCell ⟨g, off + (k + 1) * 9 + 8, none⟩ (.int .i64 y.v)) := hC0.trans (setCh_fr wd g (off + (k + 1) * 9) y) (fun _ _ e => e)
              clear x0 x1 x2 x3 x4 x5 x6 x7 x8 y0 y1 y2 y3 y4 y5 y6 y7 y8 fz
              generalize (((((((((wd.setCell ⟨g, off + (k + 1) * 9, none⟩ (.string y.p)).setCell ⟨g, off + (k + 1) * 9 + 1, none⟩ (.int .i64 y.b)).setCell ⟨g, off + (k + 1) * 9 + 2, none⟩ (.bool y.m)).setCell ⟨g, off + (k + 1) * 9 + 3, none⟩ (.bool y.t)).setCell ⟨g, off + (k + 1) * 9 + 4, none⟩ (.int .i64 y.k)).setCell ⟨g, off + (k + 1) * 9 + 5, none⟩ (.int .i64 y.o)).setCell ⟨g, off + (k + 1) * 9 + 6, none⟩ (.int .i64 y.s)).setCell ⟨g, off + (k + 1) * 9 + 7, none⟩ (.int .i64 y.l)).setCell ⟨g, off + (k + 1) * 9 + 8, none⟩ (.int .i64 y.v)) = w3 at *
              have hk0 : k < (LL.set (k + 1) y).length := by rw [List.length_set]; omega
              have hy3 := hr3.at9 hk0
              obtain ⟨y0, y1, y2, y3, y4, y5, y6, y7, y8⟩ := hy3
              have fz := fun o => hr3.frozen o
              refine pl_val (by (simp only [List.getElem?_toArray, List.getElem?_cons_succ, List.getElem?_cons_zero]; rfl)) (by kernel_rfl) ⟨_, (by (intro w' hC; clear hC; (try go_simp); (try with_reducible rfl); done)), _, (by (simp only [Act.put, List.setIfInBounds_toArray, List.set_cons_zero, List.set_cons_succ]; rfl)), ?_⟩
              refine pl_one (by (simp only [List.getElem?_toArray, List.getElem?_cons_succ, List.getElem?_cons_zero]; rfl)) hf3 ?_
              refine al_skip (by kernel_rfl) ⟨_, (by (go_simp; first | done | rfl)), _, (by (simp only [Act.put, List.setIfInBounds_toArray, List.set_cons_zero, List.set_cons_succ]; rfl)), ?_⟩
              have hr5 := RowC.setCh hr3 hk0 x
              change RowC (((((((((w3.setCell ⟨g, off + k * 9, none⟩ (.string x.p)).setCell ⟨g, off + k * 9 + 1, none⟩ (.int .i64 x.b)).setCell ⟨g, off + k * 9 + 2, none⟩ (.bool x.m)).setCell ⟨g, off + k * 9 + 3, none⟩ (.bool x.t)).setCell ⟨g, off + k * 9 + 4, none⟩ (.int .i64 x.k)).setCell ⟨g, off + k * 9 + 5, none⟩ (.int .i64 x.o)).setCell ⟨g, off + k * 9 + 6, none⟩ (.int .i64 x.s)).setCell ⟨g, off + k * 9 + 7, none⟩ (.int .i64 x.l)).setCell ⟨g, off + k * 9 + 8, none⟩ (.int .i64 x.v)) base (some ⟨g, off, none⟩) c ((LL.set (k + 1) y).set k x) at hr5
              have hf5 : Fr (fun b => b = g) w2 (((((((((w3.setCell ⟨g, off + k * 9, none⟩ (.string x.p)).setCell ⟨g, off + k * 9 + 1, none⟩ (.int .i64 x.b)).setCell ⟨g, off + k * 9 + 2, none⟩ (.bool x.m)).setCell ⟨g, off + k * 9 + 3, none⟩ (.bool x.t)).setCell ⟨g, off + k * 9 + 4, none⟩ (.int .i64 x.k)).setCell ⟨g, off + k * 9 + 5, none⟩ (.int .i64 x.o)).setCell ⟨g, off + k * 9 + 6, none⟩ (.int .i64 x.s)).setCell ⟨g, off + k * 9 + 7, none⟩ (.int .i64 x.l)).setCell ⟨g, off + k * 9 + 8, none⟩ (.int .i64 x.v)) := hf3.trans (setCh_fr w3 g (off + k * 9) x) (fun _ _ e => e)
              refine pl_end hf5 ?_
              simp only [Plan.count, Nat.reduceAdd, List.drop_succ_cons, List.drop_zero]
              generalize (((((((((w3.setCell ⟨g, off + k * 9, none⟩ (.string x.p)).setCell ⟨g, off + k * 9 + 1, none⟩ (.int .i64 x.b)).setCell ⟨g, off + k * 9 + 2, none⟩ (.bool x.m)).setCell ⟨g, off + k * 9 + 3, none⟩ (.bool x.t)).setCell ⟨g, off + k * 9 + 4, none⟩ (.int .i64 x.k)).setCell ⟨g, off + k * 9 + 5, none⟩ (.int .i64 x.o)).setCell ⟨g, off + k * 9 + 6, none⟩ (.int .i64 x.s)).setCell ⟨g, off + k * 9 + 7, none⟩ (.int .i64 x.l)).setCell ⟨g, off + k * 9 + 8, none⟩ (.int .i64 x.v)) = w5 at *
              clear y0 y1 y2 y3 y4 y5 y6 y7 y8 fz
              have HR5 : Hid (RowC w5 base (some ⟨g, off, none⟩) c (X.take a ++ U3 ++ x :: ((y :: V2) ++ X.drop (i + 1)))) := Lib.hid (by
                have e := mid_swap (U := X.take a ++ U3) (V := V2 ++ X.drop (i + 1)) (x := x) (y := y) HUK.out
                rw [HLL.out] at hr5
                rw [e] at hr5
                exact hr5)
              have HF5 := Lib.hid (hf2.trans hf5 (fun _ _ e => by rw [e]; rfl))
              have HUV5 : Hid (U3 ++ (y :: V2) = P) := Lib.hid (by rw [← hUV.out, HU3.out]; simp)
              have HU5 : Hid (U3.length = k - a) := Lib.hid (by
                have h1 := hU.out
                rw [HU3.out, List.length_append, List.length_singleton] at h1
                omega)
              have HV5 : Hid (∀ z ∈ y :: V2, ltC x z = true) := Lib.hid (fun z hz => by
                rcases List.mem_cons.1 hz with e | e
                · rw [e]; exact HLX.out
                · exact hV.out z e)
              clear hr3 hr5 hf3 hf5 hf2 hrd hC0
              go_wp2_with fail
              go_roundw
              case rel => exact ⟨k, U3, y :: V2, by omega, by omega, by go_num, HUV5, HU5, HV5, HR5.out, HF5.out⟩
              case measure => simp [intOf] <;> omega
            · refine al_val (by kernel_rfl) ⟨_, _, (by (go_simp; first | done | exact ⟨rfl, rfl⟩)), _, (by (simp only [Act.put, List.setIfInBounds_toArray, List.set_cons_zero, List.set_cons_succ]; rfl)), ?_⟩
              refine pl_one (by (simp only [List.getElem?_toArray, List.getElem?_cons_succ, List.getElem?_cons_zero]; rfl)) hC0 ?_
              refine al_val (by kernel_rfl) ⟨_, _, (by (go_simp; first | done | exact ⟨rfl, rfl⟩)), _, (by (simp only [Act.put, List.setIfInBounds_toArray, List.set_cons_zero, List.set_cons_succ]; rfl)), ?_⟩
              refine pl_val (by (simp only [List.getElem?_toArray, List.getElem?_cons_succ, List.getElem?_cons_zero]; rfl)) (by kernel_rfl) ⟨_, (by (intro w' hC; clear hC; (try go_simp); (try with_reducible rfl); done)), _, (by (simp only [Act.put, List.setIfInBounds_toArray, List.set_cons_zero, List.set_cons_succ]; rfl)), ?_⟩
              refine pl_one (by (simp only [List.getElem?_toArray, List.getElem?_cons_succ, List.getElem?_cons_zero]; rfl)) hC0 ?_
              refine al_skip (by kernel_rfl) ⟨_, (by (go_simp; first | done | rfl)), _, (by (simp only [Act.put, List.setIfInBounds_toArray, List.set_cons_zero, List.set_cons_succ]; rfl)), ?_⟩
              have hr3 := RowC.setCh hrd hk1 y
              change RowC (((((((((wd.setCell ⟨g, off + (k + 1) * 9, none⟩ (.string y.p)).setCell ⟨g, off + (k + 1) * 9 + 1, none⟩ (.int .i64 y.b)).setCell ⟨g, off + (k + 1) * 9 + 2, none⟩ (.bool y.m)).setCell ⟨g, off + (k + 1) * 9 + 3, none⟩ (.bool y.t)).setCell ⟨g, off + (k + 1) * 9 + 4, none⟩ (.int .i64 y.k)).setCell ⟨g, off + (k + 1) * 9 + 5, none⟩ (.int .i64 y.o)).setCell ⟨g, off + (k + 1) * 9 + 6, none⟩ (.int .i64 y.s)).setCell ⟨g, off + (k + 1) * 9 + 7, none⟩ (.int .i64 y.l)).setCell ⟨g, off + (k + 1) * 9 + 8, none⟩ (.int .i64 y.v)) base (some ⟨g, off, none⟩) c (LL.set (k + 1) y) at hr3
              have hf3 : Fr (fun b => b = g) w2 (((((((((wd.setCell ⟨g, off + (k + 1) * 9, none⟩ (.string y.p)).setCell ⟨g, off + (k + 1) * 9 + 1, none⟩ (.int .i64 y.b)).setCell ⟨g, off + (k + 1) * 9 + 2, none⟩ (.bool y.m)).setCell ⟨g, off + (k + 1) * 9 + 3, none⟩ (.bool y.t)).setCell ⟨g, off + (k + 1) * 9 + 4, none⟩ (.int .i64 y.k)).setCell ⟨g, off + (k + 1) * 9 + 5, none⟩ (.int .i64 y.o)).setCell ⟨g, off + (k + 1) * 9 + 6, none⟩ (.int .i64 y.s)).setCell ⟨g, off + (k + 1) * 9 + 7, none⟩ (.int .i64 y.l)).setCell ⟨g, off + (k + 1) * 9 + 8, none⟩ (.int .i64 y.v)) := hC0.trans (setCh_fr wd g (off + (k + 1) * 9) y) (fun _ _ e => e)
              clear x0 x1 x2 x3 x4 x5 x6 x7 x8 y0 y1 y2 y3 y4 y5 y6 y7 y8 fz
              generalize (((((((((wd.setCell ⟨g, off + (k + 1) * 9, none⟩ (.string y.p)).setCell ⟨g, off + (k + 1) * 9 + 1, none⟩ (.int .i64 y.b)).setCell ⟨g, off + (k + 1) * 9 + 2, none⟩ (.bool y.m)).setCell ⟨g, off + (k + 1) * 9 + 3, none⟩ (.bool y.t)).setCell ⟨g, off + (k + 1) * 9 + 4, none⟩ (.int .i64 y.k)).setCell ⟨g, off + (k + 1) * 9 + 5, none⟩ (.int .i64 y.o)).setCell ⟨g, off + (k + 1) * 9 + 6, none⟩ (.int .i64 y.s)).setCell ⟨g, off + (k + 1) * 9 + 7, none⟩ (.int .i64 y.l)).setCell ⟨g, off + (k + 1) * 9 + 8, none⟩ (.int .i64 y.v)) = w3 at *
              have hk0 : k < (LL.set (k + 1) y).length := by rw [List.length_set]; omega
              have hy3 := hr3.at9 hk0
              obtain ⟨y0, y1, y2, y3, y4, y5, y6, y7, y8⟩ := hy3
              have fz := fun o => hr3.frozen o
              refine pl_val (by (simp only [List.getElem?_toArray, List.getElem?_cons_succ, List.getElem?_cons_zero]; rfl)) (by kernel_rfl) ⟨_, (by (intro w' hC; clear hC; (try go_simp); (try with_reducible rfl); done)), _, (by (simp only [Act.put, List.setIfInBounds_toArray, List.set_cons_zero, List.set_cons_succ]; rfl)), ?_⟩
              refine pl_one (by (simp only [List.getElem?_toArray, List.getElem?_cons_succ, List.getElem?_cons_zero]; rfl)) hf3 ?_
              refine al_skip (by kernel_rfl) ⟨_, (by (go_simp; first | done | rfl)), _, (by (simp only [Act.put, List.setIfInBounds_toArray, List.set_cons_zero, List.set_cons_succ]; rfl)), ?_⟩
              have hr5 := RowC.setCh hr3 hk0 x
              change RowC (((((((((w3.setCell ⟨g, off + k * 9, none⟩ (.string x.p)).setCell ⟨g, off + k * 9 + 1, none⟩ (.int .i64 x.b)).setCell ⟨g, off + k * 9 + 2, none⟩ (.bool x.m)).setCell ⟨g, off + k * 9 + 3, none⟩ (.bool x.t)).setCell ⟨g, off + k * 9 + 4, none⟩ (.int .i64 x.k)).setCell ⟨g, off + k * 9 + 5, none⟩ (.int .i64 x.o)).setCell ⟨g, off + k * 9 + 6, none⟩ (.int .i64 x.s)).setCell ⟨g, off + k * 9 + 7, none⟩ (.int .i64 x.l)).setCell ⟨g, off + k * 9 + 8, none⟩ (.int .i64 x.v)) base (some ⟨g, off, none⟩) c ((LL.set (k + 1) y).set k x) at hr5
              have hf5 : Fr (fun b => b = g) w2 (((((((((w3.setCell ⟨g, off + k * 9, none⟩ (.string x.p)).setCell ⟨g, off + k * 9 + 1, none⟩ (.int .i64 x.b)).setCell ⟨g, off + k * 9 + 2, none⟩ (.bool x.m)).setCell ⟨g, off + k * 9 + 3, none⟩ (.bool x.t)).setCell ⟨g, off + k * 9 + 4, none⟩ (.int .i64 x.k)).setCell ⟨g, off + k * 9 + 5, none⟩ (.int .i64 x.o)).setCell ⟨g, off + k * 9 + 6, none⟩ (.int .i64 x.s)).setCell ⟨g, off + k * 9 + 7, none⟩ (.int .i64 x.l)).setCell ⟨g, off + k * 9 + 8, none⟩ (.int .i64 x.v)) := hf3.trans (setCh_fr w3 g (off + k * 9) x) (fun _ _ e => e)
              refine pl_end hf5 ?_
              simp only [Plan.count, Nat.reduceAdd, List.drop_succ_cons, List.drop_zero]
              generalize (((((((((w3.setCell ⟨g, off + k * 9, none⟩ (.string x.p)).setCell ⟨g, off + k * 9 + 1, none⟩ (.int .i64 x.b)).setCell ⟨g, off + k * 9 + 2, none⟩ (.bool x.m)).setCell ⟨g, off + k * 9 + 3, none⟩ (.bool x.t)).setCell ⟨g, off + k * 9 + 4, none⟩ (.int .i64 x.k)).setCell ⟨g, off + k * 9 + 5, none⟩ (.int .i64 x.o)).setCell ⟨g, off + k * 9 + 6, none⟩ (.int .i64 x.s)).setCell ⟨g, off + k * 9 + 7, none⟩ (.int .i64 x.l)).setCell ⟨g, off + k * 9 + 8, none⟩ (.int .i64 x.v)) = w5 at *
              clear y0 y1 y2 y3 y4 y5 y6 y7 y8 fz
              have HR5 : Hid (RowC w5 base (some ⟨g, off, none⟩) c (X.take a ++ U3 ++ x :: ((y :: V2) ++ X.drop (i + 1)))) := Lib.hid (by
                have e := mid_swap (U := X.take a ++ U3) (V := V2 ++ X.drop (i + 1)) (x := x) (y := y) HUK.out
                rw [HLL.out] at hr5
                rw [e] at hr5
                exact hr5)
              have HF5 := Lib.hid (hf2.trans hf5 (fun _ _ e => by rw [e]; rfl))
              have HUV5 : Hid (U3 ++ (y :: V2) = P) := Lib.hid (by rw [← hUV.out, HU3.out]; simp)
              have HU5 : Hid (U3.length = k - a) := Lib.hid (by
                have h1 := hU.out
                rw [HU3.out, List.length_append, List.length_singleton] at h1
                omega)
              have HV5 : Hid (∀ z ∈ y :: V2, ltC x z = true) := Lib.hid (fun z hz => by
                rcases List.mem_cons.1 hz with e | e
                · rw [e]; exact HLX.out
                · exact hV.out z e)
              clear hr3 hr5 hf3 hf5 hf2 hrd hC0
              go_wp2_with fail
              go_roundw
              case rel => exact ⟨k, U3, y :: V2, by omega, by omega, by go_num, HUV5, HU5, HV5, HR5.out, HF5.out⟩
              case measure => simp [intOf] <;> omega
          · have hld : decide (cmpT (tl x.p) (tl y.p) < 0) = false := decide_eq_false hlx
            have HLX : Hid (ltC x y = false) := Lib.hid hld
            have HIN : Hid (insC ltC x P = U2 ++ x :: V2) := Lib.hid (by
              have h1 : P.take (k + 1 - a) = U2 := by rw [← hUV.out, ← hU.out, List.take_left]
              have h2 : P.drop (k + 1 - a) = V2 := by rw [← hUV.out, ← hU.out, List.drop_left]
              have h3 := insC_at ordC (x := x) HPS.out (j := k + 1 - a) (by rw [hPl]; omega) (by rw [h2]; exact hV.out) (fun i' hi' e' => by
                have h4 : P[i'] = y := by
                  have h5 : P[i']? = some y := by
                    rw [← hUV.out, hU3, List.append_assoc]
                    refine mid_get ?_
                    have := hU.out
                    rw [hU3, List.length_append, List.length_singleton] at this
                    omega
                  exact (List.getElem?_eq_some_iff.1 h5).2
                rw [h4]; exact HLX.out)
              rw [h1, h2] at h3
              exact h3)
            have HR3 := Lib.hid hr
            clear hr2 hLL hg1 hg2 hr HR2
            go_wp2_with fail
            refine wp_region_b 17 (by kernel_rfl) (by kernel_rfl) ?_
            simp only [List.take_succ_cons, List.take_zero, List.drop_succ_cons, List.drop_zero]
            refine lb_move _ (by kernel_rfl) rfl ⟨_, (by ((try simp [go_sem]); (try rfl); done)), _, (by (simp only [Act.put, List.setIfInBounds_toArray, List.set_cons_zero, List.set_cons_succ]; rfl)), ?_⟩
            refine lb_move _ (by kernel_rfl) rfl ⟨_, (by ((try simp [go_sem]); (try rfl); done)), _, (by (simp only [Act.put, List.setIfInBounds_toArray, List.set_cons_zero, List.set_cons_succ]; rfl)), ?_⟩
            refine lb_val (by kernel_rfl) ⟨_, (by (intro w' hC; clear hC; (try go_simp); (try with_reducible rfl); done)), _, (by (simp only [Act.put, List.setIfInBounds_toArray, List.set_cons_zero, List.set_cons_succ]; rfl)), ?_⟩
            refine lb_move _ (by kernel_rfl) rfl ⟨_, (by ((try simp [go_sem]); (try rfl); done)), _, (by (simp only [Act.put, List.setIfInBounds_toArray, List.set_cons_zero, List.set_cons_succ]; rfl)), ?_⟩
            first | (refine lb_skip (by rfl) ⟨_, (by (simp only [Act.put, List.setIfInBounds_toArray, List.set_cons_zero, List.set_cons_succ]; rfl)), ?_⟩) | (refine lb_move _ (by kernel_rfl) rfl ⟨_, (by ((try simp [go_sem]); (try rfl); done)), _, (by (simp only [Act.put, List.setIfInBounds_toArray, List.set_cons_zero, List.set_cons_succ]; rfl)), ?_⟩)
            first | (refine lb_skip (by rfl) ⟨_, (by (simp only [Act.put, List.setIfInBounds_toArray, List.set_cons_zero, List.set_cons_succ]; rfl)), ?_⟩) | (refine lb_move _ (by kernel_rfl) rfl ⟨_, (by ((try simp [go_sem]); (try rfl); done)), _, (by (simp only [Act.put, List.setIfInBounds_toArray, List.set_cons_zero, List.set_cons_succ]; rfl)), ?_⟩)
            first | (refine lb_skip (by rfl) ⟨_, (by (simp only [Act.put, List.setIfInBounds_toArray, List.set_cons_zero, List.set_cons_succ]; rfl)), ?_⟩) | (refine lb_move _ (by kernel_rfl) rfl ⟨_, (by ((try simp [go_sem]); (try rfl); done)), _, (by (simp only [Act.put, List.setIfInBounds_toArray, List.set_cons_zero, List.set_cons_succ]; rfl)), ?_⟩)
            first | (refine lb_skip (by rfl) ⟨_, (by (simp only [Act.put, List.setIfInBounds_toArray, List.set_cons_zero, List.set_cons_succ]; rfl)), ?_⟩) | (refine lb_val (by kernel_rfl) ⟨_, (by (intro w' hC; clear hC; (try go_simp); (try with_reducible rfl); done)), _, (by (simp only [Act.put, List.setIfInBounds_toArray, List.set_cons_zero, List.set_cons_succ]; rfl)), ?_⟩)
            first | (refine lb_skip (by rfl) ⟨_, (by (simp only [Act.put, List.setIfInBounds_toArray, List.set_cons_zero, List.set_cons_succ]; rfl)), ?_⟩) | (refine lb_val (by kernel_rfl) ⟨_, (by (intro w' hC; (obtain ⟨x0, x1, x2, x3, x4, x5, x6, x7, x8⟩ := hx9.below hgb hC); clear hC; (try go_simp); (try with_reducible rfl); done)), _, (by (simp only [Act.put, List.setIfInBounds_toArray, List.set_cons_zero, List.set_cons_succ]; rfl)), ?_⟩)
            first | (refine lb_skip (by rfl) ⟨_, (by (simp only [Act.put, List.setIfInBounds_toArray, List.set_cons_zero, List.set_cons_succ]; rfl)), ?_⟩) | (refine lb_move _ (by kernel_rfl) rfl ⟨_, (by ((try simp [go_sem]); (try rfl); done)), _, (by (simp only [Act.put, List.setIfInBounds_toArray, List.set_cons_zero, List.set_cons_succ]; rfl)), ?_⟩)
            first | (refine lb_skip (by rfl) ⟨_, (by (simp only [Act.put, List.setIfInBounds_toArray, List.set_cons_zero, List.set_cons_succ]; rfl)), ?_⟩) | (refine lb_move _ (by kernel_rfl) rfl ⟨_, (by ((try simp [go_sem]); (try rfl); done)), _, (by (simp only [Act.put, List.setIfInBounds_toArray, List.set_cons_zero, List.set_cons_succ]; rfl)), ?_⟩)
            first | (refine lb_skip (by rfl) ⟨_, (by (simp only [Act.put, List.setIfInBounds_toArray, List.set_cons_zero, List.set_cons_succ]; rfl)), ?_⟩) | (refine lb_val (by kernel_rfl) ⟨_, (by (intro w' hC; clear hC; (try go_simp); (try with_reducible rfl); done)), _, (by (simp only [Act.put, List.setIfInBounds_toArray, List.set_cons_zero, List.set_cons_succ]; rfl)), ?_⟩)
            first | (refine lb_skip (by rfl) ⟨_, (by (simp only [Act.put, List.setIfInBounds_toArray, List.set_cons_zero, List.set_cons_succ]; rfl)), ?_⟩) | (refine lb_val (by kernel_rfl) ⟨_, (by (intro w' hC; clear hC; (try go_simp); (try with_reducible rfl); done)), _, (by (simp only [Act.put, List.setIfInBounds_toArray, List.set_cons_zero, List.set_cons_succ]; rfl)), ?_⟩)
            first | (refine lb_skip (by rfl) ⟨_, (by (simp only [Act.put, List.setIfInBounds_toArray, List.set_cons_zero, List.set_cons_succ]; rfl)), ?_⟩) | (refine lb_val (by kernel_rfl) ⟨_, (by (intro w' hC; (obtain ⟨y0, y1, y2, y3, y4, y5, y6, y7, y8⟩ := hy9.below hgb hC); clear hC; (try go_simp); (try with_reducible rfl); done)), _, (by (simp only [Act.put, List.setIfInBounds_toArray, List.set_cons_zero, List.set_cons_succ]; rfl)), ?_⟩)
            first | (refine lb_skip (by rfl) ⟨_, (by (simp only [Act.put, List.setIfInBounds_toArray, List.set_cons_zero, List.set_cons_succ]; rfl)), ?_⟩) | (refine lb_call (by kernel_rfl) (fun w' hC => HCM.out w' hC) (by (intro w'; go_simp; done)) ⟨_, (by (simp only [Act.put, List.setIfInBounds_toArray, List.set_cons_zero, List.set_cons_succ]; rfl)), ?_⟩)
            first | (refine lb_skip (by rfl) ⟨_, (by (simp only [Act.put, List.setIfInBounds_toArray, List.set_cons_zero, List.set_cons_succ]; rfl)), ?_⟩) | (refine lb_val (by kernel_rfl) ⟨_, (by (intro w' hC; clear hC; (try go_simp); (try with_reducible rfl); done)), _, (by (simp only [Act.put, List.setIfInBounds_toArray, List.set_cons_zero, List.set_cons_succ]; rfl)), ?_⟩)
            refine lb_val (by kernel_rfl) ⟨_, (by (intro w' hC; clear hC; (try go_simp); (try with_reducible rfl); done)), _, (by (simp only [Act.put, List.setIfInBounds_toArray, List.set_cons_zero, List.set_cons_succ]; rfl)), ?_⟩
            refine .nil ?_
            intro w2 hb2
            have HYY : Hid (X.take a ++ U2 ++ x :: (V2 ++ X.drop (i + 1)) = X.take a ++ sortC ltC ((X.drop a).take (i + 1 - a)) ++ X.drop (i + 1)) := Lib.hid (by
              rw [HNX.out, HIN.out]; simp)
            have HRE := Lib.hid (HR3.out.below hb2)
            have HFE := Lib.hid (hfr.then_below hb2)
            clear hx9 hy9 HCM hb2 hfr HR3
            go_wp2_with fail
            go_roundw
            case rel => exact ⟨i + 1, _, by omega, .inl (by omega), by go_num, HYY, HRE.out, HFE.out⟩
            case measure => simp [intOf]; omega
        · have e : j = a := by omega
          subst e
          have hU0 : U2 = [] := by
            have := hU.out
            rw [Nat.sub_self] at this
            exact List.eq_nil_of_length_eq_zero this
          have HIN : Hid (insC ltC x P = U2 ++ x :: V2) := Lib.hid (by
            rw [← hUV.out, hU0]
            exact insC_split (A := []) (by simp) hV.out)
          have hkd : decide ((j : Int) < (j : Int)) = false := decide_eq_false (by omega)
          have HR3 := Lib.hid hr
          clear hr HR2 hU0
          go_wp2_with fail
          refine wp_region_b 17 (by kernel_rfl) (by kernel_rfl) ?_
          simp only [List.take_succ_cons, List.take_zero, List.drop_succ_cons, List.drop_zero]
          refine lb_move _ (by kernel_rfl) rfl ⟨_, (by ((try simp [go_sem]); (try rfl); done)), _, (by (simp only [Act.put, List.setIfInBounds_toArray, List.set_cons_zero, List.set_cons_succ]; rfl)), ?_⟩
          refine lb_move _ (by kernel_rfl) rfl ⟨_, (by ((try simp [go_sem]); (try rfl); done)), _, (by (simp only [Act.put, List.setIfInBounds_toArray, List.set_cons_zero, List.set_cons_succ]; rfl)), ?_⟩
          refine lb_val (by kernel_rfl) ⟨_, (by (intro w' hC; clear hC; (try go_simp); (try with_reducible rfl); done)), _, (by (simp only [Act.put, List.setIfInBounds_toArray, List.set_cons_zero, List.set_cons_succ]; rfl)), ?_⟩
          refine lb_move _ (by kernel_rfl) rfl ⟨_, (by ((try simp [go_sem]); (try rfl); done)), _, (by (simp only [Act.put, List.setIfInBounds_toArray, List.set_cons_zero, List.set_cons_succ]; rfl)), ?_⟩
          first | (refine lb_skip (by rfl) ⟨_, (by (simp only [Act.put, List.setIfInBounds_toArray, List.set_cons_zero, List.set_cons_succ]; rfl)), ?_⟩) | (refine lb_move _ (by kernel_rfl) rfl ⟨_, (by ((try simp [go_sem]); (try rfl); done)), _, (by (simp only [Act.put, List.setIfInBounds_toArray, List.set_cons_zero, List.set_cons_succ]; rfl)), ?_⟩)
          first | (refine lb_skip (by rfl) ⟨_, (by (simp only [Act.put, List.setIfInBounds_toArray, List.set_cons_zero, List.set_cons_succ]; rfl)), ?_⟩) | (refine lb_move _ (by kernel_rfl) rfl ⟨_, (by ((try simp [go_sem]); (try rfl); done)), _, (by (simp only [Act.put, List.setIfInBounds_toArray, List.set_cons_zero, List.set_cons_succ]; rfl)), ?_⟩)
          first | (refine lb_skip (by rfl) ⟨_, (by (simp only [Act.put, List.setIfInBounds_toArray, List.set_cons_zero, List.set_cons_succ]; rfl)), ?_⟩) | (refine lb_move _ (by kernel_rfl) rfl ⟨_, (by ((try simp [go_sem]); (try rfl); done)), _, (by (simp only [Act.put, List.setIfInBounds_toArray, List.set_cons_zero, List.set_cons_succ]; rfl)), ?_⟩)
          first | (refine lb_skip (by rfl) ⟨_, (by (simp only [Act.put, List.setIfInBounds_toArray, List.set_cons_zero, List.set_cons_succ]; rfl)), ?_⟩) | (refine lb_val (by kernel_rfl) ⟨_, (by (intro w' hC; clear hC; (try go_simp); (try with_reducible rfl); done)), _, (by (simp only [Act.put, List.setIfInBounds_toArray, List.set_cons_zero, List.set_cons_succ]; rfl)), ?_⟩)
          first | (refine lb_skip (by rfl) ⟨_, (by (simp only [Act.put, List.setIfInBounds_toArray, List.set_cons_zero, List.set_cons_succ]; rfl)), ?_⟩) | (refine lb_val (by kernel_rfl) ⟨_, (by (intro w' hC; (obtain ⟨x0, x1, x2, x3, x4, x5, x6, x7, x8⟩ := hx9.below hgb hC); clear hC; (try go_simp); (try with_reducible rfl); done)), _, (by (simp only [Act.put, List.setIfInBounds_toArray, List.set_cons_zero, List.set_cons_succ]; rfl)), ?_⟩)
          first | (refine lb_skip (by rfl) ⟨_, (by (simp only [Act.put, List.setIfInBounds_toArray, List.set_cons_zero, List.set_cons_succ]; rfl)), ?_⟩) | (refine lb_move _ (by kernel_rfl) rfl ⟨_, (by ((try simp [go_sem]); (try rfl); done)), _, (by (simp only [Act.put, List.setIfInBounds_toArray, List.set_cons_zero, List.set_cons_succ]; rfl)), ?_⟩)
          first | (refine lb_skip (by rfl) ⟨_, (by (simp only [Act.put, List.setIfInBounds_toArray, List.set_cons_zero, List.set_cons_succ]; rfl)), ?_⟩) | (refine lb_move _ (by kernel_rfl) rfl ⟨_, (by ((try simp [go_sem]); (try rfl); done)), _, (by (simp only [Act.put, List.setIfInBounds_toArray, List.set_cons_zero, List.set_cons_succ]; rfl)), ?_⟩)
          first | (refine lb_skip (by rfl) ⟨_, (by (simp only [Act.put, List.setIfInBounds_toArray, List.set_cons_zero, List.set_cons_succ]; rfl)), ?_⟩) | (refine lb_val (by kernel_rfl) ⟨_, (by (intro w' hC; clear hC; (try go_simp); (try with_reducible rfl); done)), _, (by (simp only [Act.put, List.setIfInBounds_toArray, List.set_cons_zero, List.set_cons_succ]; rfl)), ?_⟩)
          first | (refine lb_skip (by rfl) ⟨_, (by (simp only [Act.put, List.setIfInBounds_toArray, List.set_cons_zero, List.set_cons_succ]; rfl)), ?_⟩) | (refine lb_val (by kernel_rfl) ⟨_, (by (intro w' hC; clear hC; (try go_simp); (try with_reducible rfl); done)), _, (by (simp only [Act.put, List.setIfInBounds_toArray, List.set_cons_zero, List.set_cons_succ]; rfl)), ?_⟩)
          first | (refine lb_skip (by rfl) ⟨_, (by (simp only [Act.put, List.setIfInBounds_toArray, List.set_cons_zero, List.set_cons_succ]; rfl)), ?_⟩) | (refine lb_val (by kernel_rfl) ⟨_, (by (intro w' hC; (obtain ⟨y0, y1, y2, y3, y4, y5, y6, y7, y8⟩ := hy9.below hgb hC); clear hC; (try go_simp); (try with_reducible rfl); done)), _, (by (simp only [Act.put, List.setIfInBounds_toArray, List.set_cons_zero, List.set_cons_succ]; rfl)), ?_⟩)
          first | (refine lb_skip (by rfl) ⟨_, (by (simp only [Act.put, List.setIfInBounds_toArray, List.set_cons_zero, List.set_cons_succ]; rfl)), ?_⟩) | (refine lb_call (by kernel_rfl) (fun w' hC => HCM.out w' hC) (by (intro w'; go_simp; done)) ⟨_, (by (simp only [Act.put, List.setIfInBounds_toArray, List.set_cons_zero, List.set_cons_succ]; rfl)), ?_⟩)
          first | (refine lb_skip (by rfl) ⟨_, (by (simp only [Act.put, List.setIfInBounds_toArray, List.set_cons_zero, List.set_cons_succ]; rfl)), ?_⟩) | (refine lb_val (by kernel_rfl) ⟨_, (by (intro w' hC; clear hC; (try go_simp); (try with_reducible rfl); done)), _, (by (simp only [Act.put, List.setIfInBounds_toArray, List.set_cons_zero, List.set_cons_succ]; rfl)), ?_⟩)
          refine lb_val (by kernel_rfl) ⟨_, (by (intro w' hC; clear hC; (try go_simp); (try with_reducible rfl); done)), _, (by (simp only [Act.put, List.setIfInBounds_toArray, List.set_cons_zero, List.set_cons_succ]; rfl)), ?_⟩
          refine .nil ?_
          intro w2 hb2
          have HYY : Hid (X.take j ++ U2 ++ x :: (V2 ++ X.drop (i + 1)) = X.take j ++ sortC ltC ((X.drop j).take (i + 1 - j)) ++ X.drop (i + 1)) := Lib.hid (by
            rw [HNX.out, HIN.out]; simp)
          have HRE := Lib.hid (HR3.out.below hb2)
          have HFE := Lib.hid (hfr.then_below hb2)
          clear hb2 hfr HR3
          go_wp2_with fail
          go_roundw
          case rel => exact ⟨i + 1, _, by omega, .inl (by omega), by go_num, HYY, HRE.out, HFE.out⟩
          case measure => simp [intOf]; omega
    · have hib : i ≤ b + 1 ∧ b ≤ i := by omega
      have HRE : Hid (RowC wo base A c (X.take a ++ sortC ltC ((X.drop a).take (b - a)) ++ X.drop b)) := Lib.hid (by
        have e : Y = X.take a ++ sortC ltC ((X.drop a).take (b - a)) ++ X.drop b := by
          rw [hY.out]
          by_cases e : i = b
          · rw [e]
          · have hab2 : a = b := by omega
            subst hab2
            have : i = a + 1 := by omega
            subst this
            rw [show a + 1 - a = 1 by omega, sortC_one ltC (by rw [List.length_take]; omega), Nat.sub_self, List.take_zero, show sortC ltC ([] : List CV) = [] from rfl, List.append_assoc, List.append_nil]
            congr 1
            conv => rhs; rw [← List.take_append_drop 1 (X.drop a)]
            rw [List.drop_drop]
        rw [← e]; exact hr)
      have HFE := Lib.hid hf
      clear hr hf hY
      go_wp2_with fail
      go_end0
      exact ⟨rfl, HRE.out, HFE.out⟩

end Go.Proofs.YtkeledbgmpienaaGreat

/- slices.Reverse at changes. -/
namespace Go.Proofs.YtkeledbgmpienaaGreat
open Go.RowKit Go.WideShapes Go.ChangeShapes Go.ChangeAt

theorem set_get2 {α : Type} {X : List α} {i j : Nat} {x y : α} (hi : i < X.length) (hj : j < X.length) (q : Nat) : ((X.set i y).set j x)[q]? = if q = j then some x else if q = i then some y else X[q]? := by
  rw [List.getElem?_set]
  by_cases e : j = q
  · subst e
    rw [if_pos rfl, if_pos rfl, if_pos (by rw [List.length_set]; exact hj)]
  · rw [if_neg e, if_neg (fun h => e h.symm), List.getElem?_set]
    by_cases e2 : i = q
    · subst e2
      rw [if_pos rfl, if_pos rfl, if_pos hi]
    · rw [if_neg e2, if_neg (fun h => e2 h.symm)]

set_option maxRecDepth 100000 in
set_option maxHeartbeats 2000000 in
theorem revC_any (A : Option Addr) (c base : Nat) (X : List CV) (w : World) (h : RowC w base A c X) (hl : X.length ≤ 1000000) :
    Calls Tryz.prog 36 #[.slice A X.length c] w fun e w' => e = .returned (.tuple #[]) ∧ RowC w' base A c X.reverse ∧ Fr (fun g => ablk A = some g) w w' := by
  have HR := Lib.hid h
  obtain ⟨N, hN⟩ : ∃ N, N = X.length := ⟨_, rfl⟩
  have HN := Lib.hid hN
  rw [← hN] at hl ⊢
  clear h hN
  go_enter Tryz.func36, Tryz.ntmps36
  go_wp2_with fail
  go_loopw [2, 3] (fun iv jv wr => ∃ (i : Nat) (LL : List CV), 2 * i ≤ N + 1 ∧ iv = .int .i64 (i : Int) ∧ jv = .int .i64 ((N : Int) - 1 - (i : Int)) ∧ Hid (LL.length = N) ∧ Hid (∀ q, q < N → LL[q]? = X[if q < i ∨ N - i ≤ q then N - 1 - q else q]?) ∧ RowC wr base A c LL ∧ Fr (fun g => ablk A = some g) w wr) (fun iv _ _ => N + 1 - (intOf iv).toNat)
  case atStart => exact ⟨0, X, by omega, rfl, by simp, Lib.hid HN.out.symm, Lib.hid (fun q hq => by rw [if_neg (by omega)]), HR.out, Fr.refl _ _⟩
  case round =>
    obtain ⟨i, LL, hi, rfl, rfl, HLN, HG, hr2, hf2⟩ := hrel
    by_cases hlt : (i : Int) < (N : Int) - 1 - (i : Int)
    · have hd : decide ((i : Int) < (N : Int) - 1 - (i : Int)) = true := decide_eq_true hlt
      obtain ⟨k, hk⟩ : ∃ k : Nat, (k : Int) = (N : Int) - 1 - (i : Int) := ⟨N - 1 - i, by omega⟩
      rw [← hk] at hd ⊢
      have hi1 : i < LL.length := by rw [HLN.out]; omega
      have hi2 : k < LL.length := by rw [HLN.out]; omega
      have hiN : i < N := by omega
      have hkN : k < N := by omega
      have hkk : k = N - 1 - i := by omega
      have hik : i < k := by omega
      have hd2 : decide (i < k) = true := decide_eq_true hik
      have HKK := Lib.hid hkk
      clear hk hkk
      obtain ⟨x, hg1⟩ : ∃ x, LL[i]? = some x := ⟨_, List.getElem?_eq_getElem hi1⟩
      obtain ⟨y, hg2⟩ : ∃ y, LL[k]? = some y := ⟨_, List.getElem?_eq_getElem hi2⟩
      have HG1 := Lib.hid hg1
      have HG2 := Lib.hid hg2
      obtain ⟨g, off, rfl, _, hgb2⟩ := hr2.addr (by omega)
      rename World => w2
      have hz1 : (i : Int) < (N : Int) := by omega
      have hz2 : (k : Int) < (N : Int) := by omega
      have hwk1 : IntKind.i64.wrap ((k : Int) - 1) = (k : Int) - 1 := by rw [IntKind.wrap_i64]; have := HKK.out; omega
      go_wp2_with fail
      have hC0 : Fr (fun b => b = g) w2 w2.drew := (Fr.refl (fun b => b = g) w2).drew
      have hx9' := (hr2.get hg1).below hgb2 (Below.refl w2.heap.size w2).drew
      have hy9' := (hr2.get hg2).below hgb2 (Below.refl w2.heap.size w2).drew
      have hrd := hr2.drew
      refine wp_region_plan (.tell 0 (.tell 1 (.tell 2 (.tell 3 (.tell 4 (.tell 5 (.tell 6 (.tell 8 (.tell 9 (.tell 10 (.two 7 (.one 11 (.tell 12 (.one 13 (.tell 14 (.one 15 .done))))) 11 (.one 7 (.tell 12 (.one 13 (.tell 14 (.one 15 .done)))))))))))))))) (fun W => Fr (fun b => b = g) w2 W) _ (by kernel_rfl) (by kernel_rfl) ?_ (fun _ _ h => h)
      refine pl_val (by (simp only [List.getElem?_toArray, List.getElem?_cons_succ, List.getElem?_cons_zero]; rfl)) (by kernel_rfl) ⟨_, (by (intro w' hC; clear hC; (try go_simp); (try with_reducible rfl); done)), _, (by (simp only [Act.put, List.setIfInBounds_toArray, List.set_cons_zero, List.set_cons_succ]; rfl)), ?_⟩
      refine pl_val (by (simp only [List.getElem?_toArray, List.getElem?_cons_succ, List.getElem?_cons_zero]; rfl)) (by kernel_rfl) ⟨_, (by (intro w' hC; clear hC; (try go_simp); (try with_reducible rfl); done)), _, (by (simp only [Act.put, List.setIfInBounds_toArray, List.set_cons_zero, List.set_cons_succ]; rfl)), ?_⟩
      refine pl_val (by (simp only [List.getElem?_toArray, List.getElem?_cons_succ, List.getElem?_cons_zero]; rfl)) (by kernel_rfl) ⟨_, (by (intro w' hC; clear hC; (try go_simp); (try with_reducible rfl); done)), _, (by (simp only [Act.put, List.setIfInBounds_toArray, List.set_cons_zero, List.set_cons_succ]; rfl)), ?_⟩
      refine pl_val (by (simp only [List.getElem?_toArray, List.getElem?_cons_succ, List.getElem?_cons_zero]; rfl)) (by kernel_rfl) ⟨_, (by (intro w' hC; clear hC; (try go_simp); (try with_reducible rfl); done)), _, (by (simp only [Act.put, List.setIfInBounds_toArray, List.set_cons_zero, List.set_cons_succ]; rfl)), ?_⟩
      refine pl_val (by (simp only [List.getElem?_toArray, List.getElem?_cons_succ, List.getElem?_cons_zero]; rfl)) (by kernel_rfl) ⟨_, (by (intro w' hC; clear hC; (try go_simp); (try with_reducible rfl); done)), _, (by (simp only [Act.put, List.setIfInBounds_toArray, List.set_cons_zero, List.set_cons_succ]; rfl)), ?_⟩
      refine pl_val (by (simp only [List.getElem?_toArray, List.getElem?_cons_succ, List.getElem?_cons_zero]; rfl)) (by kernel_rfl) ⟨_, (by (intro w' hC; clear hC; (try go_simp); (try with_reducible rfl); done)), _, (by (simp only [Act.put, List.setIfInBounds_toArray, List.set_cons_zero, List.set_cons_succ]; rfl)), ?_⟩
      refine pl_val (by (simp only [List.getElem?_toArray, List.getElem?_cons_succ, List.getElem?_cons_zero]; rfl)) (by kernel_rfl) ⟨_, (by (intro w' hC; clear hC; (try go_simp); (try with_reducible rfl); done)), _, (by (simp only [Act.put, List.setIfInBounds_toArray, List.set_cons_zero, List.set_cons_succ]; rfl)), ?_⟩
      refine pl_val (by (simp only [List.getElem?_toArray, List.getElem?_cons_succ, List.getElem?_cons_zero]; rfl)) (by kernel_rfl) ⟨_, (by (intro w' hC; clear hC; (try go_simp); (try with_reducible rfl); done)), _, (by (simp only [Act.put, List.setIfInBounds_toArray, List.set_cons_zero, List.set_cons_succ]; rfl)), ?_⟩
      refine pl_val (by (simp only [List.getElem?_toArray, List.getElem?_cons_succ, List.getElem?_cons_zero]; rfl)) (by kernel_rfl) ⟨_, (by (intro w' hC; clear hC; (try go_simp); (try with_reducible rfl); done)), _, (by (simp only [Act.put, List.setIfInBounds_toArray, List.set_cons_zero, List.set_cons_succ]; rfl)), ?_⟩
      refine pl_val (by (simp only [List.getElem?_toArray, List.getElem?_cons_succ, List.getElem?_cons_zero]; rfl)) (by kernel_rfl) ⟨_, (by (intro w' hC; clear hC; (try go_simp); (try with_reducible rfl); done)), _, (by (simp only [Act.put, List.setIfInBounds_toArray, List.set_cons_zero, List.set_cons_succ]; rfl)), ?_⟩
      clear hr2
      generalize w2.drew = wd at *
      obtain ⟨x0, x1, x2, x3, x4, x5, x6, x7, x8⟩ := hx9'
      obtain ⟨y0, y1, y2, y3, y4, y5, y6, y7, y8⟩ := hy9'
      have fz := fun o => hrd.frozen o
      refine pl_two (by (simp only [List.getElem?_toArray, List.getElem?_cons_succ, List.getElem?_cons_zero]; rfl)) (by (simp only [List.getElem?_toArray, List.getElem?_cons_succ, List.getElem?_cons_zero]; rfl)) hC0 ?_ ?_
      · refine al_val (by kernel_rfl) ⟨_, _, (by (go_simp; first | done | exact ⟨rfl, rfl⟩)), _, (by (simp only [Act.put, List.setIfInBounds_toArray, List.set_cons_zero, List.set_cons_succ]; rfl)), ?_⟩
        refine pl_one (by (simp only [List.getElem?_toArray, List.getElem?_cons_succ, List.getElem?_cons_zero]; rfl)) hC0 ?_
        refine al_val (by kernel_rfl) ⟨_, _, (by (go_simp; first | done | exact ⟨rfl, rfl⟩)), _, (by (simp only [Act.put, List.setIfInBounds_toArray, List.set_cons_zero, List.set_cons_succ]; rfl)), ?_⟩
        refine pl_val (by (simp only [List.getElem?_toArray, List.getElem?_cons_succ, List.getElem?_cons_zero]; rfl)) (by kernel_rfl) ⟨_, (by (intro w' hC; clear hC; (try go_simp); (try with_reducible rfl); done)), _, (by (simp only [Act.put, List.setIfInBounds_toArray, List.set_cons_zero, List.set_cons_succ]; rfl)), ?_⟩
        refine pl_one (by (simp only [List.getElem?_toArray, List.getElem?_cons_succ, List.getElem?_cons_zero]; rfl)) hC0 ?_
        refine al_skip (by kernel_rfl) ⟨_, (by (go_simp; first | done | rfl)), _, (by (simp only [Act.put, List.setIfInBounds_toArray, List.set_cons_zero, List.set_cons_succ]; rfl)), ?_⟩
        have hr3 := RowC.setCh hrd hi1 y
        change RowC (((((((((wd.setCell ⟨g, off + i * 9, none⟩ (.string y.p)).setCell ⟨g, off + i * 9 + 1, none⟩ (.int .i64 y.b)).setCell ⟨g, off + i * 9 + 2, none⟩ (.bool y.m)).setCell ⟨g, off + i * 9 + 3, none⟩ (.bool y.t)).setCell ⟨g, off + i * 9 + 4, none⟩ (.int .i64 y.k)).setCell ⟨g, off + i * 9 + 5, none⟩ (.int .i64 y.o)).setCell ⟨g, off + i * 9 + 6, none⟩ (.int .i64 y.s)).setCell ⟨g, off + i * 9 + 7, none⟩ (.int .i64 y.l)).setCell ⟨g, off + i * 9 + 8, none⟩ (.int .i64 y.v)) base (some ⟨g, off, none⟩) c (LL.set i y) at hr3
        have hf3 : Fr (fun b => b = g) w2 (((((((((wd.setCell ⟨g, off + i * 9, none⟩ (.string y.p)).setCell ⟨g, off + i * 9 + 1, none⟩ (.int .i64 y.b)).setCell ⟨g, off + i * 9 + 2, none⟩ (.bool y.m)).setCell ⟨g, off + i * 9 + 3, none⟩ (.bool y.t)).setCell ⟨g, off + i * 9 + 4, none⟩ (.int .i64 y.k)).setCell ⟨g, off + i * 9 + 5, none⟩ (.int .i64 y.o)).setCell ⟨g, off + i * 9 + 6, none⟩ (.int .i64 y.s)).setCell ⟨g, off + i * 9 + 7, none⟩ (.int .i64 y.l)).setCell ⟨g, off + i * 9 + 8, none⟩ (.int .i64 y.v)) := hC0.trans (setCh_fr wd g (off + i * 9) y) (fun _ _ e => e)
        clear x0 x1 x2 x3 x4 x5 x6 x7 x8 y0 y1 y2 y3 y4 y5 y6 y7 y8 fz
        generalize (((((((((wd.setCell ⟨g, off + i * 9, none⟩ (.string y.p)).setCell ⟨g, off + i * 9 + 1, none⟩ (.int .i64 y.b)).setCell ⟨g, off + i * 9 + 2, none⟩ (.bool y.m)).setCell ⟨g, off + i * 9 + 3, none⟩ (.bool y.t)).setCell ⟨g, off + i * 9 + 4, none⟩ (.int .i64 y.k)).setCell ⟨g, off + i * 9 + 5, none⟩ (.int .i64 y.o)).setCell ⟨g, off + i * 9 + 6, none⟩ (.int .i64 y.s)).setCell ⟨g, off + i * 9 + 7, none⟩ (.int .i64 y.l)).setCell ⟨g, off + i * 9 + 8, none⟩ (.int .i64 y.v)) = w3 at *
        have hk0 : k < (LL.set i y).length := by rw [List.length_set]; exact hi2
        have hy3 := hr3.at9 hk0
        obtain ⟨y0, y1, y2, y3, y4, y5, y6, y7, y8⟩ := hy3
        have fz := fun o => hr3.frozen o
        refine pl_val (by (simp only [List.getElem?_toArray, List.getElem?_cons_succ, List.getElem?_cons_zero]; rfl)) (by kernel_rfl) ⟨_, (by (intro w' hC; clear hC; (try go_simp); (try with_reducible rfl); done)), _, (by (simp only [Act.put, List.setIfInBounds_toArray, List.set_cons_zero, List.set_cons_succ]; rfl)), ?_⟩
        refine pl_one (by (simp only [List.getElem?_toArray, List.getElem?_cons_succ, List.getElem?_cons_zero]; rfl)) hf3 ?_
        refine al_skip (by kernel_rfl) ⟨_, (by (go_simp; first | done | rfl)), _, (by (simp only [Act.put, List.setIfInBounds_toArray, List.set_cons_zero, List.set_cons_succ]; rfl)), ?_⟩
        have hr5 := RowC.setCh hr3 hk0 x
        change RowC (((((((((w3.setCell ⟨g, off + k * 9, none⟩ (.string x.p)).setCell ⟨g, off + k * 9 + 1, none⟩ (.int .i64 x.b)).setCell ⟨g, off + k * 9 + 2, none⟩ (.bool x.m)).setCell ⟨g, off + k * 9 + 3, none⟩ (.bool x.t)).setCell ⟨g, off + k * 9 + 4, none⟩ (.int .i64 x.k)).setCell ⟨g, off + k * 9 + 5, none⟩ (.int .i64 x.o)).setCell ⟨g, off + k * 9 + 6, none⟩ (.int .i64 x.s)).setCell ⟨g, off + k * 9 + 7, none⟩ (.int .i64 x.l)).setCell ⟨g, off + k * 9 + 8, none⟩ (.int .i64 x.v)) base (some ⟨g, off, none⟩) c ((LL.set i y).set k x) at hr5
        have hf5 : Fr (fun b => b = g) w2 (((((((((w3.setCell ⟨g, off + k * 9, none⟩ (.string x.p)).setCell ⟨g, off + k * 9 + 1, none⟩ (.int .i64 x.b)).setCell ⟨g, off + k * 9 + 2, none⟩ (.bool x.m)).setCell ⟨g, off + k * 9 + 3, none⟩ (.bool x.t)).setCell ⟨g, off + k * 9 + 4, none⟩ (.int .i64 x.k)).setCell ⟨g, off + k * 9 + 5, none⟩ (.int .i64 x.o)).setCell ⟨g, off + k * 9 + 6, none⟩ (.int .i64 x.s)).setCell ⟨g, off + k * 9 + 7, none⟩ (.int .i64 x.l)).setCell ⟨g, off + k * 9 + 8, none⟩ (.int .i64 x.v)) := hf3.trans (setCh_fr w3 g (off + k * 9) x) (fun _ _ e => e)
        refine pl_end hf5 ?_
        simp only [Plan.count, Nat.reduceAdd, List.drop_succ_cons, List.drop_zero]
        generalize (((((((((w3.setCell ⟨g, off + k * 9, none⟩ (.string x.p)).setCell ⟨g, off + k * 9 + 1, none⟩ (.int .i64 x.b)).setCell ⟨g, off + k * 9 + 2, none⟩ (.bool x.m)).setCell ⟨g, off + k * 9 + 3, none⟩ (.bool x.t)).setCell ⟨g, off + k * 9 + 4, none⟩ (.int .i64 x.k)).setCell ⟨g, off + k * 9 + 5, none⟩ (.int .i64 x.o)).setCell ⟨g, off + k * 9 + 6, none⟩ (.int .i64 x.s)).setCell ⟨g, off + k * 9 + 7, none⟩ (.int .i64 x.l)).setCell ⟨g, off + k * 9 + 8, none⟩ (.int .i64 x.v)) = w5 at *
        clear y0 y1 y2 y3 y4 y5 y6 y7 y8 fz hr3 hf3 hrd hC0 hk0
        have hkk := HKK.out
        have HY5 : Hid (∀ q, q < N → ((LL.set i y).set k x)[q]? = X[if q < i + 1 ∨ N - (i + 1) ≤ q then N - 1 - q else q]?) := Lib.hid (fun q hq => by
          rw [set_get2 hi1 hi2]
          have e1 : X[i]? = some x := by
            have := HG.out i (by omega)
            rw [if_neg (by omega)] at this
            rw [← this]; exact HG1.out
          have e2 : X[k]? = some y := by
            have := HG.out k (by omega)
            rw [if_neg (by omega)] at this
            rw [← this]; exact HG2.out
          by_cases h1 : q = k
          · rw [if_pos h1, if_pos (by omega), show N - 1 - q = i by omega, e1]
          · rw [if_neg h1]
            by_cases h2 : q = i
            · rw [if_pos h2, if_pos (by omega), show N - 1 - q = k by omega, e2]
            · rw [if_neg h2, HG.out q hq]
              by_cases h3 : q < i ∨ N - i ≤ q
              · rw [if_pos h3, if_pos (by omega)]
              · rw [if_neg h3, if_neg (by omega)])
        have HR5 := Lib.hid hr5
        have HF5 := Lib.hid (hf2.trans hf5 (fun _ _ e => by rw [e]; rfl))
        have HL5 : Hid (((LL.set i y).set k x).length = N) := Lib.hid (by rw [List.length_set, List.length_set]; exact HLN.out)
        clear hr5 hf5
        go_wp2_with fail
        go_roundw
        case rel => exact ⟨i + 1, (LL.set i y).set k x, by omega, by go_num, by congr 1; omega, HL5, HY5, HR5.out, HF5.out⟩
        case measure => simp [intOf]; omega
      · refine al_val (by kernel_rfl) ⟨_, _, (by (go_simp; first | done | exact ⟨rfl, rfl⟩)), _, (by (simp only [Act.put, List.setIfInBounds_toArray, List.set_cons_zero, List.set_cons_succ]; rfl)), ?_⟩
        refine pl_one (by (simp only [List.getElem?_toArray, List.getElem?_cons_succ, List.getElem?_cons_zero]; rfl)) hC0 ?_
        refine al_val (by kernel_rfl) ⟨_, _, (by (go_simp; first | done | exact ⟨rfl, rfl⟩)), _, (by (simp only [Act.put, List.setIfInBounds_toArray, List.set_cons_zero, List.set_cons_succ]; rfl)), ?_⟩
        refine pl_val (by (simp only [List.getElem?_toArray, List.getElem?_cons_succ, List.getElem?_cons_zero]; rfl)) (by kernel_rfl) ⟨_, (by (intro w' hC; clear hC; (try go_simp); (try with_reducible rfl); done)), _, (by (simp only [Act.put, List.setIfInBounds_toArray, List.set_cons_zero, List.set_cons_succ]; rfl)), ?_⟩
        refine pl_one (by (simp only [List.getElem?_toArray, List.getElem?_cons_succ, List.getElem?_cons_zero]; rfl)) hC0 ?_
        refine al_skip (by kernel_rfl) ⟨_, (by (go_simp; first | done | rfl)), _, (by (simp only [Act.put, List.setIfInBounds_toArray, List.set_cons_zero, List.set_cons_succ]; rfl)), ?_⟩
        have hr3 := RowC.setCh hrd hi1 y
        change RowC (((((((((wd.setCell ⟨g, off + i * 9, none⟩ (.string y.p)).setCell ⟨g, off + i * 9 + 1, none⟩ (.int .i64 y.b)).setCell ⟨g, off + i * 9 + 2, none⟩ (.bool y.m)).setCell ⟨g, off + i * 9 + 3, none⟩ (.bool y.t)).setCell ⟨g, off + i * 9 + 4, none⟩ (.int .i64 y.k)).setCell ⟨g, off + i * 9 + 5, none⟩ (.int .i64 y.o)).setCell ⟨g, off + i * 9 + 6, none⟩ (.int .i64 y.s)).setCell ⟨g, off + i * 9 + 7, none⟩ (.int .i64 y.l)).setCell ⟨g, off + i * 9 + 8, none⟩ (.int .i64 y.v)) base (some ⟨g, off, none⟩) c (LL.set i y) at hr3
        have hf3 : Fr (fun b => b = g) w2 (((((((((wd.setCell ⟨g, off + i * 9, none⟩ (.string y.p)).setCell ⟨g, off + i * 9 + 1, none⟩ (.int .i64 y.b)).setCell ⟨g, off + i * 9 + 2, none⟩ (.bool y.m)).setCell ⟨g, off + i * 9 + 3, none⟩ (.bool y.t)).setCell ⟨g, off + i * 9 + 4, none⟩ (.int .i64 y.k)).setCell ⟨g, off + i * 9 + 5, none⟩ (.int .i64 y.o)).setCell ⟨g, off + i * 9 + 6, none⟩ (.int .i64 y.s)).setCell ⟨g, off + i * 9 + 7, none⟩ (.int .i64 y.l)).setCell ⟨g, off + i * 9 + 8, none⟩ (.int .i64 y.v)) := hC0.trans (setCh_fr wd g (off + i * 9) y) (fun _ _ e => e)
        clear x0 x1 x2 x3 x4 x5 x6 x7 x8 y0 y1 y2 y3 y4 y5 y6 y7 y8 fz
        generalize (((((((((wd.setCell ⟨g, off + i * 9, none⟩ (.string y.p)).setCell ⟨g, off + i * 9 + 1, none⟩ (.int .i64 y.b)).setCell ⟨g, off + i * 9 + 2, none⟩ (.bool y.m)).setCell ⟨g, off + i * 9 + 3, none⟩ (.bool y.t)).setCell ⟨g, off + i * 9 + 4, none⟩ (.int .i64 y.k)).setCell ⟨g, off + i * 9 + 5, none⟩ (.int .i64 y.o)).setCell ⟨g, off + i * 9 + 6, none⟩ (.int .i64 y.s)).setCell ⟨g, off + i * 9 + 7, none⟩ (.int .i64 y.l)).setCell ⟨g, off + i * 9 + 8, none⟩ (.int .i64 y.v)) = w3 at *
        have hk0 : k < (LL.set i y).length := by rw [List.length_set]; exact hi2
        have hy3 := hr3.at9 hk0
        obtain ⟨y0, y1, y2, y3, y4, y5, y6, y7, y8⟩ := hy3
        have fz := fun o => hr3.frozen o
        refine pl_val (by (simp only [List.getElem?_toArray, List.getElem?_cons_succ, List.getElem?_cons_zero]; rfl)) (by kernel_rfl) ⟨_, (by (intro w' hC; clear hC; (try go_simp); (try with_reducible rfl); done)), _, (by (simp only [Act.put, List.setIfInBounds_toArray, List.set_cons_zero, List.set_cons_succ]; rfl)), ?_⟩
        refine pl_one (by (simp only [List.getElem?_toArray, List.getElem?_cons_succ, List.getElem?_cons_zero]; rfl)) hf3 ?_
        refine al_skip (by kernel_rfl) ⟨_, (by (go_simp; first | done | rfl)), _, (by (simp only [Act.put, List.setIfInBounds_toArray, List.set_cons_zero, List.set_cons_succ]; rfl)), ?_⟩
        have hr5 := RowC.setCh hr3 hk0 x
        change RowC (((((((((w3.setCell ⟨g, off + k * 9, none⟩ (.string x.p)).setCell ⟨g, off + k * 9 + 1, none⟩ (.int .i64 x.b)).setCell ⟨g, off + k * 9 + 2, none⟩ (.bool x.m)).setCell ⟨g, off + k * 9 + 3, none⟩ (.bool x.t)).setCell ⟨g, off + k * 9 + 4, none⟩ (.int .i64 x.k)).setCell ⟨g, off + k * 9 + 5, none⟩ (.int .i64 x.o)).setCell ⟨g, off + k * 9 + 6, none⟩ (.int .i64 x.s)).setCell ⟨g, off + k * 9 + 7, none⟩ (.int .i64 x.l)).setCell ⟨g, off + k * 9 + 8, none⟩ (.int .i64 x.v)) base (some ⟨g, off, none⟩) c ((LL.set i y).set k x) at hr5
        have hf5 : Fr (fun b => b = g) w2 (((((((((w3.setCell ⟨g, off + k * 9, none⟩ (.string x.p)).setCell ⟨g, off + k * 9 + 1, none⟩ (.int .i64 x.b)).setCell ⟨g, off + k * 9 + 2, none⟩ (.bool x.m)).setCell ⟨g, off + k * 9 + 3, none⟩ (.bool x.t)).setCell ⟨g, off + k * 9 + 4, none⟩ (.int .i64 x.k)).setCell ⟨g, off + k * 9 + 5, none⟩ (.int .i64 x.o)).setCell ⟨g, off + k * 9 + 6, none⟩ (.int .i64 x.s)).setCell ⟨g, off + k * 9 + 7, none⟩ (.int .i64 x.l)).setCell ⟨g, off + k * 9 + 8, none⟩ (.int .i64 x.v)) := hf3.trans (setCh_fr w3 g (off + k * 9) x) (fun _ _ e => e)
        refine pl_end hf5 ?_
        simp only [Plan.count, Nat.reduceAdd, List.drop_succ_cons, List.drop_zero]
        generalize (((((((((w3.setCell ⟨g, off + k * 9, none⟩ (.string x.p)).setCell ⟨g, off + k * 9 + 1, none⟩ (.int .i64 x.b)).setCell ⟨g, off + k * 9 + 2, none⟩ (.bool x.m)).setCell ⟨g, off + k * 9 + 3, none⟩ (.bool x.t)).setCell ⟨g, off + k * 9 + 4, none⟩ (.int .i64 x.k)).setCell ⟨g, off + k * 9 + 5, none⟩ (.int .i64 x.o)).setCell ⟨g, off + k * 9 + 6, none⟩ (.int .i64 x.s)).setCell ⟨g, off + k * 9 + 7, none⟩ (.int .i64 x.l)).setCell ⟨g, off + k * 9 + 8, none⟩ (.int .i64 x.v)) = w5 at *
        clear y0 y1 y2 y3 y4 y5 y6 y7 y8 fz hr3 hf3 hrd hC0 hk0
        have hkk := HKK.out
        have HY5 : Hid (∀ q, q < N → ((LL.set i y).set k x)[q]? = X[if q < i + 1 ∨ N - (i + 1) ≤ q then N - 1 - q else q]?) := Lib.hid (fun q hq => by
          rw [set_get2 hi1 hi2]
          have e1 : X[i]? = some x := by
            have := HG.out i (by omega)
            rw [if_neg (by omega)] at this
            rw [← this]; exact HG1.out
          have e2 : X[k]? = some y := by
            have := HG.out k (by omega)
            rw [if_neg (by omega)] at this
            rw [← this]; exact HG2.out
          by_cases h1 : q = k
          · rw [if_pos h1, if_pos (by omega), show N - 1 - q = i by omega, e1]
          · rw [if_neg h1]
            by_cases h2 : q = i
            · rw [if_pos h2, if_pos (by omega), show N - 1 - q = k by omega, e2]
            · rw [if_neg h2, HG.out q hq]
              by_cases h3 : q < i ∨ N - i ≤ q
              · rw [if_pos h3, if_pos (by omega)]
              · rw [if_neg h3, if_neg (by omega)])
        have HR5 := Lib.hid hr5
        have HF5 := Lib.hid (hf2.trans hf5 (fun _ _ e => by rw [e]; rfl))
        have HL5 : Hid (((LL.set i y).set k x).length = N) := Lib.hid (by rw [List.length_set, List.length_set]; exact HLN.out)
        clear hr5 hf5
        go_wp2_with fail
        go_roundw
        case rel => exact ⟨i + 1, (LL.set i y).set k x, by omega, by go_num, by congr 1; omega, HL5, HY5, HR5.out, HF5.out⟩
        case measure => simp [intOf]; omega
    · have hd : decide ((i : Int) < (N : Int) - 1 - (i : Int)) = false := decide_eq_false hlt
      have HRE : Hid (RowC wr base A c X.reverse) := Lib.hid (by
        have e : LL = X.reverse := by
          apply List.ext_getElem?
          intro q
          by_cases hq : q < N
          · rw [HG.out q hq, List.getElem?_reverse (by rw [← HN.out]; exact hq), ← HN.out]
            by_cases h3 : q < i ∨ N - i ≤ q
            · rw [if_pos h3]
            · rw [if_neg h3]
              congr 1
              omega
          · rw [List.getElem?_eq_none (by rw [HLN.out]; omega), List.getElem?_eq_none (by rw [List.length_reverse, ← HN.out]; omega)]
        rw [← e]; exact hr2)
      have HFE := Lib.hid hf2
      clear hr2 hf2 HG
      go_wp2_with fail
      go_end0
      exact ⟨rfl, HRE.out, HFE.out⟩

end Go.Proofs.YtkeledbgmpienaaGreat

/- order: moves, Removes; tenderref28: Removes; slices.SortStableFunc of few. -/
namespace Go.Proofs.YtkeledbgmpienaaGreat
open Go.RowKit Go.WideShapes Go.ChangeShapes Go.ChangeAt

def remB (x : CV) : Bool := movesB x.v && (x.res == 0)
def restB (x : CV) : Bool := movesB x.v || x.v == 3

set_option maxHeartbeats 400000 in
theorem omoves_any (p : ByteArray) (b : Int) (m t : Bool) (k o s l v : Int) (w : World) :
    Calls Tryz.prog 35 #[chV p b m t k o s l v] w fun e w' => e = .returned (.bool (movesB v)) ∧ Below w.heap.size w w' := by
  cases h : (v == 1)
  · go_enter Tryz.func35, Tryz.ntmps35
    go_wp2_with fail
    go_ret
    exact ⟨ret_b (by unfold movesB; rw [h]; simp), (by repeat (first | exact Below.refl _ _ | refine Below.alloc ?_ (by simp) _ | refine Below.setCell ?_ (by simp) _ | refine Below.drew ?_))⟩
  · go_enter Tryz.func35, Tryz.ntmps35
    go_wp2_with fail
    go_ret
    exact ⟨ret_b (by unfold movesB; rw [h]; simp), (by repeat (first | exact Below.refl _ _ | refine Below.alloc ?_ (by simp) _ | refine Below.setCell ?_ (by simp) _ | refine Below.drew ?_))⟩


set_option maxRecDepth 100000 in
set_option maxHeartbeats 400000 in
theorem removes_any (x : CV) (w : World) : Calls Tryz.prog 16 #[x.val] w fun e w' => e = .returned (.bool (remB x)) ∧ Below w.heap.size w w' := by
  have hb0 : Below w.heap.size w (w.alloc (.cells #[.string x.p, .int .i64 x.b, .bool x.m, .bool x.t, .int .i64 x.k, .int .i64 x.o, .int .i64 x.s, .int .i64 x.l, .int .i64 x.v] 47)) := (Below.refl _ _).alloc (Nat.le_refl _) _
  have bc : Blk (w.alloc (.cells #[.string x.p, .int .i64 x.b, .bool x.m, .bool x.t, .int .i64 x.k, .int .i64 x.o, .int .i64 x.s, .int .i64 x.l, .int .i64 x.v] 47)) w.heap.size 47 x.cells.toArray := Blk.new w _ _
  obtain ⟨zb, hzb⟩ : ∃ zb, zb = w.heap.size := ⟨_, rfl⟩
  rw [← hzb] at bc
  have HRS := Lib.hid (fun W => result_any x.p x.b x.m x.t x.k x.o x.s x.l x.v W)
  obtain ⟨R, hR⟩ : ∃ R, R = resK x.b x.k x.o x.v := ⟨_, rfl⟩
  rw [← hR] at HRS
  have HRB : Hid (remB x = (movesB x.v && (R == 0))) := Lib.hid (by unfold remB CV.res; rw [hR])
  have HMV := Lib.hid (fun W => omoves_any x.p x.b x.m x.t x.k x.o x.s x.l x.v W)
  obtain ⟨M, hM⟩ : ∃ M, M = movesB x.v := ⟨_, rfl⟩
  rw [← hM] at HRB HMV
  clear hR hM
  go_enter Tryz.func16, Tryz.ntmps16
  go_upto_region 1 with (fail)
  rw [← hzb]
  clear hzb
  generalize w.alloc (.cells #[.string x.p, .int .i64 x.b, .bool x.m, .bool x.t, .int .i64 x.k, .int .i64 x.o, .int .i64 x.s, .int .i64 x.l, .int .i64 x.v] 47) = w1 at *
  obtain ⟨q0, q1, q2, q3, q4, q5, q6, q7, q8⟩ := cells9 bc
  go_wp2_with fail
  refine (HRS.out w1).mono ?_
  rintro e w2 ⟨rfl, hb2⟩
  have hw2 := hb0.trans (hb2.mono hb0.size)
  have bc2 := bc.below hb2
  clear q0 q1 q2 q3 q4 q5 q6 q7 q8 bc
  obtain ⟨q0, q1, q2, q3, q4, q5, q6, q7, q8⟩ := cells9 bc2
  go_wp2_with fail
  refine (HMV.out w2).mono ?_
  rintro e w3 ⟨rfl, hb3⟩
  have hw3 := hw2.trans (hb3.mono hw2.size)
  cases M
  all_goals
    go_wp2_with fail
    go_ret
    exact ⟨ret_b (by rw [HRB.out]; rfl), hw3⟩


/-- slices.SortStableFunc at rows of at most so many changes -/
def SortsC (m : Nat) : Prop := ∀ (A : Option Addr) (c base : Nat) (X : List CV) (w : World), RowC w base A c X → (∀ x ∈ X, x.p.size ≤ 140737488355328) → X.length ≤ m →
  Calls Tryz.prog 32 #[.slice A X.length c, .func (.func 33) #[] #[]] w fun e w' => e = .returned (.tuple #[]) ∧ RowC w' base A c (sortC ltC X) ∧ Fr (fun g => ablk A = some g) w w'
set_option maxRecDepth 100000 in
set_option maxHeartbeats 1000000 in
theorem stableFew_any (A : Option Addr) (c base : Nat) (X : List CV) (w : World) (h : RowC w base A c X) (hp : ∀ x ∈ X, x.p.size ≤ 140737488355328) (hl : X.length ≤ 19) :
    Calls Tryz.prog 57 #[.slice A X.length c, .int .i64 (X.length : Int), .func (.func 33) #[] #[]] w fun e w' => e = .returned (.tuple #[]) ∧ RowC w' base A c (sortC ltC X) ∧ Fr (fun g => ablk A = some g) w w' := by
  have HI := Lib.hid (insSort_any A c 0 X.length base X w h (Nat.zero_le _) (Nat.le_refl _) hp (by omega))
  rw [List.take_zero, List.drop_zero, Nat.sub_zero, List.take_length, List.drop_length, List.nil_append, List.append_nil] at HI
  have HS : Hid (∀ W, RowC W base A c (sortC ltC X) → RowC W base A c (sortC ltC X)) := Lib.hid (fun _ h => h)
  have hd1 : decide ((20 : Int) ≤ (X.length : Int)) = false := decide_eq_false (by omega)
  have hd2 : decide ((20 : Int) < (X.length : Int)) = false := decide_eq_false (by omega)
  clear h hp
  go_enter Tryz.func57, Tryz.ntmps57
  go_wp2_with fail
  go_loopw [7, 8] (fun av bv wr => av = .int .i64 0 ∧ bv = .int .i64 20 ∧ wr = w) (fun _ _ _ => 0)
  case atStart => exact ⟨rfl, rfl, rfl⟩
  case round =>
    obtain ⟨rfl, rfl, rfl⟩ := hrel
    go_wp2_with fail
    refine HI.out.mono ?_
    rintro e w1 ⟨rfl, hr1, hf1⟩
    have HR1 := Lib.hid hr1
    have HF1 := Lib.hid hf1
    clear hr1 hf1 HI
    go_wp2_with fail
    go_loopw [6, 7, 8, 9] (fun nv _ _ _ wr => nv = .int .i64 20 ∧ wr = w1) (fun _ _ _ _ _ => 0)
    case atStart => exact ⟨rfl, rfl⟩
    case round =>
      obtain ⟨rfl, rfl⟩ := hrel
      go_wp2_with fail
      go_end0
      exact ⟨rfl, HR1.out, HF1.out⟩
theorem sorts19 : SortsC 19 := by
  intro A c base X w h hp hl
  have HS := Lib.hid (stableFew_any A c base X w h hp hl)
  clear h
  go_enter Tryz.func32, Tryz.ntmps32
  go_wp2_with fail
  refine HS.out.mono ?_
  rintro e w1 ⟨rfl, hr1, hf1⟩
  have HR1 := Lib.hid hr1
  clear hr1
  go_wp2_with fail
  go_end0
  exact ⟨rfl, HR1.out, hf1⟩

end Go.Proofs.YtkeledbgmpienaaGreat
