/- tenderref11: Append, Drop. -/
import Derived.Test.YtmdbfhfjaapeoaaA05

namespace Go.Proofs.Ytmdbfhfjaapeoaa
open Go.RowKit Go.Maps

theorem wp_append_by {w : World} {o : Oper} {a : Act} {K : Act → World → Prop} {Q : Exit → Act → World → Prop} (s x : Operand)
    (ho : o.op = .call { callee := .builtin .append, args := #[s, x], argTypes := #[23, 23] })
    {base : Nat} {v : Value} {l m : List UInt8} {Z : Nat → Prop} {A : Option Addr} {c : Nat} (hs : a.eval s = v) (hown : OwB w base v l) (hx : a.eval x = .slice A m.length c) (hr : By w Z A m)
    (hsum : l.length + m.length ≤ 140737488355328) (hbase : base ≤ w.heap.size)
    (h : ∀ (L : List UInt8) (A' : Option Addr) (c' : Nat) (w' : World), Hid (L = l ++ m) → OwB w' base (.slice A' L.length c') L → Below base w w' → K (a.put o.dst (.slice A' L.length c')) w') : o.wp Try.prog a w K Q := by
  obtain ⟨i0, hi0, hz0, hz1, hz2⟩ := info_parts u8_info
  refine wp_append_any w s x _ ho base 5 i0 _ 1 1 Try.underlying23 hi0 hz0 hz1 hz2 rfl (by omega) v l.length (l.map bv) hs hown Z A m.length c (m.map bv) hx hr (bv_one m) (by simp only [maxLen]; omega) (by omega) hbase ?_
  intro v' w' h1 h2 h3
  have ho : OwB w' base v' (l ++ m) := by
    unfold OwB
    rw [List.length_append, List.map_append]
    exact h1
  obtain ⟨A', c', rfl, _⟩ := ho.form
  exact h (l ++ m) A' c' w' rfl ho (grown_belowD h2 hbase (fun g e => (hown.lt g e).1))
/-- own bytes, as a file's, where a block below them is written -/
theorem own_bv {w w' : World} {base g : Nat} {A : Option Addr} {c : Nat} {l : List UInt8} (h : OwB w base (.slice A l.length c) l) (k : Fr (fun x => x = g) w w') (hg : g < base) : BV.ok w' (fun _ => True) ⟨A, c, l⟩ := by
  have r := Row.of_own h
  refine ⟨(h.rd.fr k (fun b hb hz e => ?_)).mono (fun _ _ _ => trivial), r.room, r.cap⟩
  have := (r.lt b hz).1
  omega
theorem file_slice_head (A : Option Addr) (n c m : Nat) (hm : m ≤ c) (W : World) (hA : A ≠ none) : (Instr.slice 36 (.slice A n c) none (some (.int .i64 (m : Int))) none).run Try.prog W = .ok (.slice A m c) W := by
  rw [run_slice_h W 36 A n c (by kernel_rfl) .i64 (m : Int) (by omega) (by omega)]
  rw [show (sizeOf (Try.prog.elem 36)).run Try.prog W = .ok 3 W by kernel_rfl]
  simp only [Result.andThen, sliced, Int.toNat_natCast]
  rcases A with _ | a
  · simp at hA
  · simp [Addr.add]
theorem file_slice_tail (A : Option Addr) (n c m : Nat) (hm : m ≤ n) (W : World) : (Instr.slice 36 (.slice A n c) (some (.int .i64 (m : Int))) none none).run Try.prog W = .ok (.slice (if c = m then A else A.map (·.add (m * 3))) (n - m) (c - m)) W := by
  rw [run_slice_l W 36 A n c (by kernel_rfl) .i64 (m : Int) (by omega) (by omega)]
  rw [show (sizeOf (Try.prog.elem 36)).run Try.prog W = .ok 3 W by kernel_rfl]
  simp only [Result.andThen, sliced, Int.toNat_natCast]
theorem flat_takeF (L : List (Int × FV)) (m : Nat) : (L.take m).flatMap fileC = (L.flatMap fileC).take (m * 3) := by
  induction L generalizing m with
  | nil => simp
  | cons x l ih =>
    cases m with
    | zero => simp
    | succ m => simp [ih, fileC, Nat.succ_mul]
theorem flat_dropF (L : List (Int × FV)) (m : Nat) : (L.drop m).flatMap fileC = (L.flatMap fileC).drop (m * 3) := by
  induction L generalizing m with
  | nil => simp
  | cons x l ih =>
    cases m with
    | zero => simp
    | succ m => simp [ih, fileC, Nat.succ_mul]

set_option maxRecDepth 100000 in
set_option maxHeartbeats 2000000 in
theorem refAppend_any (v : Value) (D : DP) (k : Nat) (n : Int) (y : BV) (w : World) (h : RefAt w v D) (hok : DOk D k) (hy : y.ok w (fun _ => True)) (hyl : y.l.length ≤ 1048576) :
    Calls Try.prog 31 #[v, .int .i64 n, .slice y.A y.l.length y.c] w fun e w' => ∃ v', e = .returned (.tuple #[v', .int .i64 (appendS D n y.l).2]) ∧ RefAt w' v' (appendS D n y.l).1 ∧ Below w.heap.size w w' := by
  obtain ⟨A, c, L, rfl, hF, hc, hp⟩ := h.at_
  obtain ⟨yA, yc, yl⟩ := y
  dsimp only at hyl ⊢
  have HY := Lib.hid hy
  clear hy
  have hw2 : Below w.heap.size w ((w.alloc (.cells #[.slice A L.length c, .int .i64 D.last, .int .i64 D.room, .int .i64 D.left] 38)).alloc (.cells #[.slice none 0 0, .int .i64 0, .int .i64 0, .int .i64 0] 38)) := ((Below.refl _ _).alloc (Nat.le_refl _) _).alloc (by simp) _
  have x0 : Blk ((w.alloc (.cells #[.slice A L.length c, .int .i64 D.last, .int .i64 D.room, .int .i64 D.left] 38)).alloc (.cells #[.slice none 0 0, .int .i64 0, .int .i64 0, .int .i64 0] 38)) w.heap.size 38 #[.slice A L.length c, .int .i64 D.last, .int .i64 D.room, .int .i64 D.left] := (Blk.new w 38 #[.slice A L.length c, .int .i64 D.last, .int .i64 D.room, .int .i64 D.left]).below ((Below.refl _ _).alloc (Nat.le_refl _) _)
  have x1 : Blk ((w.alloc (.cells #[.slice A L.length c, .int .i64 D.last, .int .i64 D.room, .int .i64 D.left] 38)).alloc (.cells #[.slice none 0 0, .int .i64 0, .int .i64 0, .int .i64 0] 38)) (w.heap.size + 1) 38 #[.slice none 0 0, .int .i64 0, .int .i64 0, .int .i64 0] := by
    have := Blk.new (w.alloc (.cells #[.slice A L.length c, .int .i64 D.last, .int .i64 D.room, .int .i64 D.left] 38)) 38 #[.slice none 0 0, .int .i64 0, .int .i64 0, .int .i64 0]
    rwa [show (w.alloc (.cells #[.slice A L.length c, .int .i64 D.last, .int .i64 D.room, .int .i64 D.left] 38)).heap.size = w.heap.size + 1 by simp] at this
  have HF := Lib.hid hF
  have HRM := Lib.hid hc
  have HP := Lib.hid hp.out
  have HO := Lib.hid hok
  have hlf := hok.left
  have hll := hF.len
  have HAK := refAsked_any A c L D n _ (hF.below hw2) hp.out
  clear h hF hc hp hok
  by_cases h0 : askS D n = 0
  · by_cases hful : D.room < (usedS D.L : Int) + (yl.length : Int)
    · have HEQ : appendS D n yl = (D, 24) := by unfold appendS; rw [if_neg (by simpa using h0), if_pos hful]
      rw [HEQ]
      rw [h0] at HAK
      replace HAK := Lib.hid HAK
      obtain ⟨U, hU⟩ : ∃ U : Nat, U = usedS D.L := ⟨_, rfl⟩
      have hU2 := HO.out.room
      rw [← hU] at hU2
      have HUS : Hid (∀ W, Fls W A L → Calls Try.prog 41 #[refV A L.length c D.last D.room D.left] W fun e w' => e = .returned (.int .i64 (U : Int)) ∧ Below W.heap.size W w') := Lib.hid (fun W hW => by
        have := refUsed_any A c L D.last D.room D.left W hW (by rw [HP.out]; omega)
        rwa [HP.out, ← hU] at this)
      have HUE := Lib.hid hU
      clear hU
      have hwr := IntWalk.i64_in ((U : Int) + (yl.length : Int)) ⟨by omega, by omega⟩
      rw [← HUE.out] at hful
      have hgt : decide (D.room < (U : Int) + (yl.length : Int)) = true := decide_eq_true hful
      clear HEQ h0 hful hU2
      go_enter Try.func31, Try.ntmps31
      go_upto_region 1 with (fail)
      generalize ((w.alloc (.cells #[.slice A L.length c, .int .i64 D.last, .int .i64 D.room, .int .i64 D.left] 38)).alloc (.cells #[.slice none 0 0, .int .i64 0, .int .i64 0, .int .i64 0] 38)) = w2 at *
      have p0 := x0.cell 0
      have p1 := x0.cell 1
      have p2 := x0.cell 2
      have p3 := x0.cell 3
      simp only [List.getElem?_toArray, List.getElem?_cons_zero, List.getElem?_cons_succ] at p0 p1 p2 p3
      go_wp2_with fail
      refine HAK.out.mono ?_
      rintro e w3 ⟨rfl, hb3⟩
      have hw3 := hw2.trans (hb3.mono hw2.size)
      have u0 := x0.below hb3
      have u1 := x1.below hb3
      clear p0 p1 p2 p3 x0 x1 HAK hb3
      have p0 := u0.cell 0
      have p1 := u0.cell 1
      have p2 := u0.cell 2
      have p3 := u0.cell 3
      simp only [List.getElem?_toArray, List.getElem?_cons_zero, List.getElem?_cons_succ] at p0 p1 p2 p3
      clear p0 p1 p2 p3
      go_wp2_with fail
      refine wp_region_b 8 (by kernel_rfl) (by kernel_rfl) ?_
      simp only [List.take_succ_cons, List.take_zero, List.drop_succ_cons, List.drop_zero]
      refine lb_val (by kernel_rfl) ⟨_, (by (intro w' hC; (have q0 := (u0.below hC).cell 0; have q1 := (u0.below hC).cell 1; have q2 := (u0.below hC).cell 2; have q3 := (u0.below hC).cell 3; simp only [List.getElem?_toArray, List.getElem?_cons_zero, List.getElem?_cons_succ] at q0 q1 q2 q3); clear hC; (try go_simp); (try with_reducible rfl); done)), _, (by (simp only [Act.put, List.setIfInBounds_toArray, List.set_cons_zero, List.set_cons_succ]; rfl)), ?_⟩
      refine lb_call (by kernel_rfl) (fun w' hC => HUS.out w' (HF.out.below (hw3.trans (hC.mono hw3.size)))) (by (intro w'; go_simp; done)) ⟨_, (by (simp only [Act.put, List.setIfInBounds_toArray, List.set_cons_zero, List.set_cons_succ]; rfl)), ?_⟩
      refine lb_move _ (by kernel_rfl) rfl ⟨_, (by ((try simp [go_sem]); (try rfl); done)), _, (by (simp only [Act.put, List.setIfInBounds_toArray, List.set_cons_zero, List.set_cons_succ]; rfl)), ?_⟩
      refine lb_val (by kernel_rfl) ⟨_, (by (intro w' hC; clear hC; (try go_simp); (try with_reducible rfl); done)), _, (by (simp only [Act.put, List.setIfInBounds_toArray, List.set_cons_zero, List.set_cons_succ]; rfl)), ?_⟩
      refine lb_val (by kernel_rfl) ⟨_, (by (intro w' hC; clear hC; (try go_simp); (try with_reducible rfl); done)), _, (by (simp only [Act.put, List.setIfInBounds_toArray, List.set_cons_zero, List.set_cons_succ]; rfl)), ?_⟩
      refine lb_val (by kernel_rfl) ⟨_, (by (intro w' hC; clear hC; (try go_simp); (try with_reducible rfl); done)), _, (by (simp only [Act.put, List.setIfInBounds_toArray, List.set_cons_zero, List.set_cons_succ]; rfl)), ?_⟩
      refine lb_val (by kernel_rfl) ⟨_, (by (intro w' hC; (have q := (u0.below hC).cell 2; simp only [List.getElem?_toArray, List.getElem?_cons_zero, List.getElem?_cons_succ] at q); clear hC; (try go_simp); (try with_reducible rfl); done)), _, (by (simp only [Act.put, List.setIfInBounds_toArray, List.set_cons_zero, List.set_cons_succ]; rfl)), ?_⟩
      refine lb_val (by kernel_rfl) ⟨_, (by (intro w' hC; clear hC; (try go_simp); (try with_reducible rfl); done)), _, (by (simp only [Act.put, List.setIfInBounds_toArray, List.set_cons_zero, List.set_cons_succ]; rfl)), ?_⟩
      refine .nil ?_
      intro w4 hb4
      have hw4 := hw3.trans (hb4.mono hw3.size)
      replace u0 := u0.below hb4
      replace u1 := u1.below hb4
      have p0 := u0.cell 0
      have p1 := u0.cell 1
      have p2 := u0.cell 2
      have p3 := u0.cell 3
      simp only [List.getElem?_toArray, List.getElem?_cons_zero, List.getElem?_cons_succ] at p0 p1 p2 p3
      have r0 := u1.cell 0
      have r1 := u1.cell 1
      have r2 := u1.cell 2
      have r3 := u1.cell 3
      simp only [List.getElem?_toArray, List.getElem?_cons_zero, List.getElem?_cons_succ] at r0 r1 r2 r3
      have fr := fun o => u1.frozen o
      go_wp2_with fail
      have kR : Fr (fun x => x = w.heap.size + 1) w4 ((((w4.setCell ⟨w.heap.size + 1, 0, none⟩ (.slice A L.length c)).setCell ⟨w.heap.size + 1, 1, none⟩ (.int .i64 D.last)).setCell ⟨w.heap.size + 1, 2, none⟩ (.int .i64 D.room)).setCell ⟨w.heap.size + 1, 3, none⟩ (.int .i64 D.left)) := (((((Fr.refl (fun x => x = w.heap.size + 1) w4).setAt (w.heap.size + 1) _ rfl _).setAt (w.heap.size + 1) _ rfl _).setAt (w.heap.size + 1) _ rfl _).setAt (w.heap.size + 1) _ rfl _)
      have yR := ((((u1.set_ 0 (.slice A L.length c)).set_ 1 (.int .i64 D.last)).set_ 2 (.int .i64 D.room)).set_ 3 (.int .i64 D.left))
      simp only [List.setIfInBounds_toArray, List.set_cons_zero, List.set_cons_succ] at yR
      have hwR : Below w.heap.size w ((((w4.setCell ⟨w.heap.size + 1, 0, none⟩ (.slice A L.length c)).setCell ⟨w.heap.size + 1, 1, none⟩ (.int .i64 D.last)).setCell ⟨w.heap.size + 1, 2, none⟩ (.int .i64 D.room)).setCell ⟨w.heap.size + 1, 3, none⟩ (.int .i64 D.left)) := hw4.trans (kR.below (B := w.heap.size) hw4.size (fun k hk e => by omega))
      generalize ((((w4.setCell ⟨w.heap.size + 1, 0, none⟩ (.slice A L.length c)).setCell ⟨w.heap.size + 1, 1, none⟩ (.int .i64 D.last)).setCell ⟨w.heap.size + 1, 2, none⟩ (.int .i64 D.room)).setCell ⟨w.heap.size + 1, 3, none⟩ (.int .i64 D.left)) = wR at *
      have s0 := yR.cell 0
      have s1 := yR.cell 1
      have s2 := yR.cell 2
      have s3 := yR.cell 3
      simp only [List.getElem?_toArray, List.getElem?_cons_zero, List.getElem?_cons_succ] at s0 s1 s2 s3
      refine bodyPost_ret (v := .tuple #[.agg #[.slice A L.length c, .int .i64 D.last, .int .i64 D.room, .int .i64 D.left], .int .i64 24]) (by simp [results, Try.results31, go_sem, s0, s1, s2, s3]) rfl ?_
      exact ⟨_, rfl, ⟨A, c, L, rfl, HF.out.below hwR, HRM.out, HP⟩, hwR⟩
    · obtain ⟨D1, hD1⟩ : ∃ D1, D1 = (⟨putZ D.L n ((fileS D n).1 ++ yl, (fileS D n).2), D.last, D.room, D.left⟩ : DP) := ⟨_, rfl⟩
      have HEQ : appendS D n yl = (countS D1, 0) := by unfold appendS; rw [if_neg (by simpa using h0), if_neg hful, hD1]
      rw [HEQ]
      replace HAK := Lib.hid HAK
      rw [h0] at HAK
      obtain ⟨hsl, m, hm, f, hLi, hfp⟩ := ref_find HP.out HO.out.sort h0
      have HSL := Lib.hid hsl
      have HLI := Lib.hid hLi
      have HFP := Lib.hid hfp
      have HFX := Lib.hid (by have := HF.out.ok _ (List.getElem_mem hm); rw [hLi] at this; exact this : f.x.ok w (fun _ => True))
      clear hsl hLi hfp HEQ
      subst hD1
      obtain ⟨U, hU⟩ : ∃ U : Nat, U = usedS D.L := ⟨_, rfl⟩
      have hU2 := HO.out.room
      rw [← hU] at hU2
      have HUS : Hid (∀ W, Fls W A L → Calls Try.prog 41 #[refV A L.length c D.last D.room D.left] W fun e w' => e = .returned (.int .i64 (U : Int)) ∧ Below W.heap.size W w') := Lib.hid (fun W hW => by
        have := refUsed_any A c L D.last D.room D.left W hW (by rw [HP.out]; omega)
        rwa [HP.out, ← hU] at this)
      have HUE := Lib.hid hU
      clear hU
      have hwr := IntWalk.i64_in ((U : Int) + (yl.length : Int)) ⟨by omega, by omega⟩
      rw [← HUE.out] at hful
      have hgt : decide (D.room < (U : Int) + (yl.length : Int)) = false := decide_eq_false hful
      have hfl : f.x.l.length ≤ 1048576 := by have h1 := file_used D n; rw [← HFP.out, ← HUE.out] at h1; have h2 : f.p.1 = f.x.l := rfl; rw [h2] at h1; omega
      clear h0 hful hU2
      go_enter Try.func31, Try.ntmps31
      go_upto_region 1 with (fail)
      generalize ((w.alloc (.cells #[.slice A L.length c, .int .i64 D.last, .int .i64 D.room, .int .i64 D.left] 38)).alloc (.cells #[.slice none 0 0, .int .i64 0, .int .i64 0, .int .i64 0] 38)) = w2 at *
      have p0 := x0.cell 0
      have p1 := x0.cell 1
      have p2 := x0.cell 2
      have p3 := x0.cell 3
      simp only [List.getElem?_toArray, List.getElem?_cons_zero, List.getElem?_cons_succ] at p0 p1 p2 p3
      go_wp2_with fail
      refine HAK.out.mono ?_
      rintro e w3 ⟨rfl, hb3⟩
      have hw3 := hw2.trans (hb3.mono hw2.size)
      have u0 := x0.below hb3
      have u1 := x1.below hb3
      clear p0 p1 p2 p3 x0 x1 HAK hb3
      have p0 := u0.cell 0
      have p1 := u0.cell 1
      have p2 := u0.cell 2
      have p3 := u0.cell 3
      simp only [List.getElem?_toArray, List.getElem?_cons_zero, List.getElem?_cons_succ] at p0 p1 p2 p3
      clear p0 p1 p2 p3
      go_wp2_with fail
      refine wp_region_b 8 (by kernel_rfl) (by kernel_rfl) ?_
      simp only [List.take_succ_cons, List.take_zero, List.drop_succ_cons, List.drop_zero]
      refine lb_val (by kernel_rfl) ⟨_, (by (intro w' hC; (have q0 := (u0.below hC).cell 0; have q1 := (u0.below hC).cell 1; have q2 := (u0.below hC).cell 2; have q3 := (u0.below hC).cell 3; simp only [List.getElem?_toArray, List.getElem?_cons_zero, List.getElem?_cons_succ] at q0 q1 q2 q3); clear hC; (try go_simp); (try with_reducible rfl); done)), _, (by (simp only [Act.put, List.setIfInBounds_toArray, List.set_cons_zero, List.set_cons_succ]; rfl)), ?_⟩
      refine lb_call (by kernel_rfl) (fun w' hC => HUS.out w' (HF.out.below (hw3.trans (hC.mono hw3.size)))) (by (intro w'; go_simp; done)) ⟨_, (by (simp only [Act.put, List.setIfInBounds_toArray, List.set_cons_zero, List.set_cons_succ]; rfl)), ?_⟩
      refine lb_move _ (by kernel_rfl) rfl ⟨_, (by ((try simp [go_sem]); (try rfl); done)), _, (by (simp only [Act.put, List.setIfInBounds_toArray, List.set_cons_zero, List.set_cons_succ]; rfl)), ?_⟩
      refine lb_val (by kernel_rfl) ⟨_, (by (intro w' hC; clear hC; (try go_simp); (try with_reducible rfl); done)), _, (by (simp only [Act.put, List.setIfInBounds_toArray, List.set_cons_zero, List.set_cons_succ]; rfl)), ?_⟩
      refine lb_val (by kernel_rfl) ⟨_, (by (intro w' hC; clear hC; (try go_simp); (try with_reducible rfl); done)), _, (by (simp only [Act.put, List.setIfInBounds_toArray, List.set_cons_zero, List.set_cons_succ]; rfl)), ?_⟩
      refine lb_val (by kernel_rfl) ⟨_, (by (intro w' hC; clear hC; (try go_simp); (try with_reducible rfl); done)), _, (by (simp only [Act.put, List.setIfInBounds_toArray, List.set_cons_zero, List.set_cons_succ]; rfl)), ?_⟩
      refine lb_val (by kernel_rfl) ⟨_, (by (intro w' hC; (have q := (u0.below hC).cell 2; simp only [List.getElem?_toArray, List.getElem?_cons_zero, List.getElem?_cons_succ] at q); clear hC; (try go_simp); (try with_reducible rfl); done)), _, (by (simp only [Act.put, List.setIfInBounds_toArray, List.set_cons_zero, List.set_cons_succ]; rfl)), ?_⟩
      refine lb_val (by kernel_rfl) ⟨_, (by (intro w' hC; clear hC; (try go_simp); (try with_reducible rfl); done)), _, (by (simp only [Act.put, List.setIfInBounds_toArray, List.set_cons_zero, List.set_cons_succ]; rfl)), ?_⟩
      refine .nil ?_
      intro w4 hb4
      have hw4 := hw3.trans (hb4.mono hw3.size)
      replace u0 := u0.below hb4
      replace u1 := u1.below hb4
      have p0 := u0.cell 0
      have p1 := u0.cell 1
      have p2 := u0.cell 2
      have p3 := u0.cell 3
      simp only [List.getElem?_toArray, List.getElem?_cons_zero, List.getElem?_cons_succ] at p0 p1 p2 p3
      go_wp2_with fail
      refine (refPlace_at A c L D.last D.room D.left n w4 (HF.out.below hw4) HSL.out m hm (by rw [HLI.out])).mono ?_
      rintro e w5 ⟨rfl, hb5⟩
      have hw5 := hw4.trans (hb5.mono hw4.size)
      replace u0 := u0.below hb5
      replace u1 := u1.below hb5
      clear p0 p1 p2 p3 hb5
      have p0 := u0.cell 0
      have p1 := u0.cell 1
      have p2 := u0.cell 2
      have p3 := u0.cell 3
      simp only [List.getElem?_toArray, List.getElem?_cons_zero, List.getElem?_cons_succ] at p0 p1 p2 p3
      obtain ⟨b, off, hA, hbb, c0, c1, c2⟩ := (HF.out.below hw5).at_ hm
      rw [HLI.out] at c0 c1 c2
      dsimp only at c0 c1 c2
      subst hA
      have l05 := u0.lt
      have l15 := u1.lt
      go_upto_region 8 with (fail)
      have hba : Below w5.heap.size w5 (w5.alloc (.cells #[.int .i64 n, .slice f.x.A f.x.l.length f.x.c, .int .i64 f.s] 84)) := (Below.refl _ _).alloc (Nat.le_refl _) _
      have hw6 := hw5.trans (hba.mono hw5.size)
      have FB : Blk (w5.alloc (.cells #[.int .i64 n, .slice f.x.A f.x.l.length f.x.c, .int .i64 f.s] 84)) w5.heap.size 84 #[.int .i64 n, .slice f.x.A f.x.l.length f.x.c, .int .i64 f.s] := Blk.new w5 84 _
      replace u0 := u0.below hba
      replace u1 := u1.below hba
      generalize (w5.alloc (.cells #[.int .i64 n, .slice f.x.A f.x.l.length f.x.c, .int .i64 f.s] 84)) = w6 at *
      have hlt56 := FB.lt
      clear p0 p1 p2 p3 c0 c1 c2 hba
      have hba : Below w6.heap.size w6 (w6.alloc (.cells #[] 5)) := (Below.refl _ _).alloc (Nat.le_refl _) _
      have HOWN : Hid (OwB (w6.alloc (.cells #[] 5)) w6.heap.size (.slice (some ⟨w6.heap.size, 0, none⟩) 0 0) []) := Lib.hid (World.ownsRow_lit (base := w6.heap.size) (e := 5) (size := 1) w6 #[] 0 (Nat.le_refl _) (by simp [maxLen]) (by simp))
      have HR1 := Lib.hid (HFX.out.below (hw6.trans (hba.mono hw6.size))).1
      have d1 := (FB.below hba).cell 1
      simp only [List.getElem?_toArray, List.getElem?_cons_zero, List.getElem?_cons_succ] at d1
      go_upto_region 9 with (at_builtin; first
        | (refine wpList_append_by rfl (.tmp 35) (.tmp 37) rfl rfl HOWN.out rfl HR1.out (by simp; omega) (by simp) ?_; intro L1 A1 c1 wB HL1 own1 hg1 hx1; rw [List.nil_append] at HL1; (have hl1 : Hid (L1.length ≤ 1048576) := Lib.hid (by rw [HL1.out]; exact hfl)); (have HB2 := Lib.hid (hba.trans (grown_belowD hg1 (by simp) (fun g e => (HOWN.out.lt g e).1)))); (have HOWN2 := Lib.hid own1); (have HR2 := Lib.hid (HY.out.below (hw6.trans (HB2.out.mono hw6.size))).1); clear own1 hg1 hx1 d1)
        | (refine wpList_append_by rfl (.tmp 38) (.tmp 39) rfl rfl HOWN2.out rfl HR2.out (by have := hl1.out; omega) HB2.out.size ?_; intro L2 A2 c2 wC HL2 own2 hg2 hx2; (have hB3 := HB2.out.trans (grown_belowD hg2 HB2.out.size (fun g e => (HOWN2.out.lt g e).1))); (have FC3 := FB.below hB3); (have d1 := FC3.cell 1); (have ff := FC3.frozen 1); simp only [List.getElem?_toArray, List.getElem?_cons_zero, List.getElem?_cons_succ] at d1; clear hg2 hx2))
      replace u0 := u0.below hB3
      replace u1 := u1.below hB3
      have hwC := hw6.trans (hB3.mono hw6.size)
      have h65 := hw5.size
      have kE : Fr (fun x => x = w5.heap.size) wC (wC.setCell ⟨w5.heap.size, 1, none⟩ (.slice A2 L2.length c2)) := (Fr.refl (fun x => x = w5.heap.size) wC).setAt w5.heap.size 1 rfl _
      have hwE : Below w.heap.size w (wC.setCell ⟨w5.heap.size, 1, none⟩ (.slice A2 L2.length c2)) := hwC.trans (kE.below (B := w.heap.size) hwC.size (fun k hk e => by omega))
      have HBY := Lib.hid (own_bv own2 kE (by omega))
      have FE := FC3.set_ 1 (.slice A2 L2.length c2)
      simp only [List.setIfInBounds_toArray, List.set_cons_zero, List.set_cons_succ] at FE
      replace u0 := u0.fr kE (by omega)
      replace u1 := u1.fr kE (by omega)
      generalize (wC.setCell ⟨w5.heap.size, 1, none⟩ (.slice A2 L2.length c2)) = wE at *
      have d0 := FE.cell 0
      have d1' := FE.cell 1
      have d2 := FE.cell 2
      simp only [List.getElem?_toArray, List.getElem?_cons_zero, List.getElem?_cons_succ] at d0 d1' d2
      clear d1 ff FC3 kE hwC hB3 own2 FB HB2 HOWN HOWN2 HR1 HR2 hba
      have p0 := u0.cell 0
      have p1 := u0.cell 1
      have p2 := u0.cell 2
      have p3 := u0.cell 3
      simp only [List.getElem?_toArray, List.getElem?_cons_zero, List.getElem?_cons_succ] at p0 p1 p2 p3
      go_wp2_with fail
      refine (refWith_any _ c L D.last D.room D.left m (n, ⟨⟨A2, c2, L2⟩, f.s⟩) wE (HF.out.below hwE) hm HBY.out).mono ?_
      rintro e w6 ⟨⟨A6, c6, rfl, hF6, hc6⟩, hb6⟩
      have hw6 := hwE.trans (hb6.mono hwE.size)
      replace u1 := u1.below hb6
      have hls : (L.set m (n, ⟨⟨A2, c2, L2⟩, f.s⟩)).length = L.length := List.length_set
      have HF6 := Lib.hid hF6
      have HC6 := Lib.hid hc6
      clear hF6 hc6 p0 p1 p2 p3
      go_wp2_with fail
      refine (refCounted_any A6 _ c6 D.last D.room D.left w6 hlf.2).mono ?_
      rintro e w7 ⟨rfl, hb7⟩
      have hw7 := hw6.trans (hb7.mono hw6.size)
      replace u1 := u1.below hb7
      obtain ⟨lf, hlf3⟩ : ∃ lf, lf = (if 0 < D.left then D.left - 1 else D.left) := ⟨_, rfl⟩
      rw [← hlf3]
      have HLF := Lib.hid hlf3
      have HF7 := Lib.hid (HF6.out.below hb7)
      clear hlf3 hb7 hb6 HF6
      have r0 := u1.cell 0
      have r1 := u1.cell 1
      have r2 := u1.cell 2
      have r3 := u1.cell 3
      simp only [List.getElem?_toArray, List.getElem?_cons_zero, List.getElem?_cons_succ] at r0 r1 r2 r3
      have fr := fun o => u1.frozen o
      go_wp2_with fail
      have kR : Fr (fun x => x = w.heap.size + 1) w7 ((((w7.setCell ⟨w.heap.size + 1, 0, none⟩ (.slice A6 L.length c6)).setCell ⟨w.heap.size + 1, 1, none⟩ (.int .i64 D.last)).setCell ⟨w.heap.size + 1, 2, none⟩ (.int .i64 D.room)).setCell ⟨w.heap.size + 1, 3, none⟩ (.int .i64 lf)) := (((((Fr.refl (fun x => x = w.heap.size + 1) w7).setAt (w.heap.size + 1) _ rfl _).setAt (w.heap.size + 1) _ rfl _).setAt (w.heap.size + 1) _ rfl _).setAt (w.heap.size + 1) _ rfl _)
      have yR := ((((u1.set_ 0 (.slice A6 L.length c6)).set_ 1 (.int .i64 D.last)).set_ 2 (.int .i64 D.room)).set_ 3 (.int .i64 lf))
      simp only [List.setIfInBounds_toArray, List.set_cons_zero, List.set_cons_succ] at yR
      have hwR : Below w.heap.size w ((((w7.setCell ⟨w.heap.size + 1, 0, none⟩ (.slice A6 L.length c6)).setCell ⟨w.heap.size + 1, 1, none⟩ (.int .i64 D.last)).setCell ⟨w.heap.size + 1, 2, none⟩ (.int .i64 D.room)).setCell ⟨w.heap.size + 1, 3, none⟩ (.int .i64 lf)) := hw7.trans (kR.below (B := w.heap.size) hw7.size (fun k hk e => by omega))
      generalize ((((w7.setCell ⟨w.heap.size + 1, 0, none⟩ (.slice A6 L.length c6)).setCell ⟨w.heap.size + 1, 1, none⟩ (.int .i64 D.last)).setCell ⟨w.heap.size + 1, 2, none⟩ (.int .i64 D.room)).setCell ⟨w.heap.size + 1, 3, none⟩ (.int .i64 lf)) = wR at *
      have s0 := yR.cell 0
      have s1 := yR.cell 1
      have s2 := yR.cell 2
      have s3 := yR.cell 3
      simp only [List.getElem?_toArray, List.getElem?_cons_zero, List.getElem?_cons_succ] at s0 s1 s2 s3
      refine bodyPost_ret (v := .tuple #[refV A6 L.length c6 D.last D.room lf, .int .i64 0]) (by simp [results, Try.results31, go_sem, s0, s1, s2, s3]) rfl ?_
      exact ⟨refV A6 (L.set m (n, ⟨⟨A2, c2, L2⟩, f.s⟩)).length c6 D.last D.room lf, (by rw [hls]), RefAt.count (D := ⟨putZ D.L n ((fileS D n).1 ++ yl, (fileS D n).2), D.last, D.room, D.left⟩) (A := A6) (c := c6) (L := L.set m (n, ⟨⟨A2, c2, L2⟩, f.s⟩)) (lf := lf) (HF7.out.fr_disk u1 kR) (by rw [hls]; exact HC6.out) (by show _ = putZ D.L n _; rw [← HP.out, show ((fileS D n).1 ++ yl, (fileS D n).2) = FV.p ⟨⟨A2, c2, L2⟩, f.s⟩ from by rw [← HFP.out]; show _ = (L2, f.s); rw [HL2.out, HL1.out]; rfl, ← plainD_put, ← set_putZ' HSL.out m hm HLI.out]) HLF.out, hwR⟩
  · clear HO hlf
    have HEQ : appendS D n yl = (D, askS D n) := by unfold appendS; rw [if_pos h0]
    rw [HEQ]
    obtain ⟨E, hE⟩ : ∃ E, E = askS D n := ⟨_, rfl⟩
    rw [← hE] at h0 HAK ⊢
    have h0b : (E == 0) = false := by simpa using h0
    have h0c : (E != 0) = true := by simpa using h0
    replace HAK := Lib.hid HAK
    clear hE HEQ h0
    go_enter Try.func31, Try.ntmps31
    go_upto_region 1 with (fail)
    generalize ((w.alloc (.cells #[.slice A L.length c, .int .i64 D.last, .int .i64 D.room, .int .i64 D.left] 38)).alloc (.cells #[.slice none 0 0, .int .i64 0, .int .i64 0, .int .i64 0] 38)) = w2 at *
    have p0 := x0.cell 0
    have p1 := x0.cell 1
    have p2 := x0.cell 2
    have p3 := x0.cell 3
    simp only [List.getElem?_toArray, List.getElem?_cons_zero, List.getElem?_cons_succ] at p0 p1 p2 p3
    go_wp2_with fail
    refine HAK.out.mono ?_
    rintro e w3 ⟨rfl, hb3⟩
    have hw3 := hw2.trans (hb3.mono hw2.size)
    have u0 := x0.below hb3
    have u1 := x1.below hb3
    clear p0 p1 p2 p3 x0 x1 HAK
    have p0 := u0.cell 0
    have p1 := u0.cell 1
    have p2 := u0.cell 2
    have p3 := u0.cell 3
    simp only [List.getElem?_toArray, List.getElem?_cons_zero, List.getElem?_cons_succ] at p0 p1 p2 p3
    have r0 := u1.cell 0
    have r1 := u1.cell 1
    have r2 := u1.cell 2
    have r3 := u1.cell 3
    simp only [List.getElem?_toArray, List.getElem?_cons_zero, List.getElem?_cons_succ] at r0 r1 r2 r3
    have fr := fun o => u1.frozen o
    go_wp2_with fail
    have kR : Fr (fun x => x = w.heap.size + 1) w3 ((((w3.setCell ⟨w.heap.size + 1, 0, none⟩ (.slice A L.length c)).setCell ⟨w.heap.size + 1, 1, none⟩ (.int .i64 D.last)).setCell ⟨w.heap.size + 1, 2, none⟩ (.int .i64 D.room)).setCell ⟨w.heap.size + 1, 3, none⟩ (.int .i64 D.left)) := (((((Fr.refl (fun x => x = w.heap.size + 1) w3).setAt (w.heap.size + 1) _ rfl _).setAt (w.heap.size + 1) _ rfl _).setAt (w.heap.size + 1) _ rfl _).setAt (w.heap.size + 1) _ rfl _)
    have yR := ((((u1.set_ 0 (.slice A L.length c)).set_ 1 (.int .i64 D.last)).set_ 2 (.int .i64 D.room)).set_ 3 (.int .i64 D.left))
    simp only [List.setIfInBounds_toArray, List.set_cons_zero, List.set_cons_succ] at yR
    have hwR : Below w.heap.size w ((((w3.setCell ⟨w.heap.size + 1, 0, none⟩ (.slice A L.length c)).setCell ⟨w.heap.size + 1, 1, none⟩ (.int .i64 D.last)).setCell ⟨w.heap.size + 1, 2, none⟩ (.int .i64 D.room)).setCell ⟨w.heap.size + 1, 3, none⟩ (.int .i64 D.left)) := hw3.trans (kR.below (B := w.heap.size) hw3.size (fun k hk e => by omega))
    generalize ((((w3.setCell ⟨w.heap.size + 1, 0, none⟩ (.slice A L.length c)).setCell ⟨w.heap.size + 1, 1, none⟩ (.int .i64 D.last)).setCell ⟨w.heap.size + 1, 2, none⟩ (.int .i64 D.room)).setCell ⟨w.heap.size + 1, 3, none⟩ (.int .i64 D.left)) = wR at *
    have s0 := yR.cell 0
    have s1 := yR.cell 1
    have s2 := yR.cell 2
    have s3 := yR.cell 3
    simp only [List.getElem?_toArray, List.getElem?_cons_zero, List.getElem?_cons_succ] at s0 s1 s2 s3
    refine bodyPost_ret (v := .tuple #[.agg #[.slice A L.length c, .int .i64 D.last, .int .i64 D.room, .int .i64 D.left], .int .i64 E]) (by simp [results, Try.results31, go_sem, s0, s1, s2, s3]) rfl ?_
    exact ⟨_, rfl, ⟨A, c, L, rfl, HF.out.below hwR, HRM.out, HP⟩, hwR⟩


set_option maxRecDepth 100000 in
set_option maxHeartbeats 2000000 in
theorem refDrop_any (v : Value) (D : DP) (k : Nat) (n : Int) (w : World) (h : RefAt w v D) (hok : DOk D k) :
    Calls Try.prog 33 #[v, .int .i64 n] w fun e w' => ∃ v', e = .returned (.tuple #[v', .int .i64 (dropD D n).2]) ∧ RefAt w' v' (dropD D n).1 ∧ Below w.heap.size w w' := by
  obtain ⟨A, c, L, rfl, hF, hc, hp⟩ := h.at_
  have hw2 : Below w.heap.size w ((w.alloc (.cells #[.slice A L.length c, .int .i64 D.last, .int .i64 D.room, .int .i64 D.left] 38)).alloc (.cells #[.slice none 0 0, .int .i64 0, .int .i64 0, .int .i64 0] 38)) := ((Below.refl _ _).alloc (Nat.le_refl _) _).alloc (by simp) _
  have x0 : Blk ((w.alloc (.cells #[.slice A L.length c, .int .i64 D.last, .int .i64 D.room, .int .i64 D.left] 38)).alloc (.cells #[.slice none 0 0, .int .i64 0, .int .i64 0, .int .i64 0] 38)) w.heap.size 38 #[.slice A L.length c, .int .i64 D.last, .int .i64 D.room, .int .i64 D.left] := (Blk.new w 38 #[.slice A L.length c, .int .i64 D.last, .int .i64 D.room, .int .i64 D.left]).below ((Below.refl _ _).alloc (Nat.le_refl _) _)
  have x1 : Blk ((w.alloc (.cells #[.slice A L.length c, .int .i64 D.last, .int .i64 D.room, .int .i64 D.left] 38)).alloc (.cells #[.slice none 0 0, .int .i64 0, .int .i64 0, .int .i64 0] 38)) (w.heap.size + 1) 38 #[.slice none 0 0, .int .i64 0, .int .i64 0, .int .i64 0] := by
    have := Blk.new (w.alloc (.cells #[.slice A L.length c, .int .i64 D.last, .int .i64 D.room, .int .i64 D.left] 38)) 38 #[.slice none 0 0, .int .i64 0, .int .i64 0, .int .i64 0]
    rwa [show (w.alloc (.cells #[.slice A L.length c, .int .i64 D.last, .int .i64 D.room, .int .i64 D.left] 38)).heap.size = w.heap.size + 1 by simp] at this
  have HF := Lib.hid hF
  have HRM := Lib.hid hc
  have HP := Lib.hid hp.out
  have HO := Lib.hid hok
  have hlf := hok.left
  have hll := hF.len
  have HAK := refAsked_any A c L D n _ (hF.below hw2) hp.out
  clear h hF hc hp hok
  by_cases h0 : askS D n = 0
  · obtain ⟨D1, hD1⟩ : ∃ D1, D1 = (⟨withoutZ D.L n, D.last, D.room, D.left⟩ : DP) := ⟨_, rfl⟩
    have HEQ : dropD D n = (countS D1, 0) := by unfold dropD; rw [if_neg (by simpa using h0), hD1]
    rw [HEQ]
    replace HAK := Lib.hid HAK
    rw [h0] at HAK
    obtain ⟨hsl, m, hm, f, hLi, hfp⟩ := ref_find HP.out HO.out.sort h0
    have HSL := Lib.hid hsl
    have HLI := Lib.hid hLi
    have HFP := Lib.hid hfp
    have HFX := Lib.hid (by have := HF.out.ok _ (List.getElem_mem hm); rw [hLi] at this; exact this : f.x.ok w (fun _ => True))
    clear hsl hLi hfp HEQ
    subst hD1
    clear HFX HFP
    go_enter Try.func33, Try.ntmps33
    go_upto_region 1 with (fail)
    generalize ((w.alloc (.cells #[.slice A L.length c, .int .i64 D.last, .int .i64 D.room, .int .i64 D.left] 38)).alloc (.cells #[.slice none 0 0, .int .i64 0, .int .i64 0, .int .i64 0] 38)) = w2 at *
    have p0 := x0.cell 0
    have p1 := x0.cell 1
    have p2 := x0.cell 2
    have p3 := x0.cell 3
    simp only [List.getElem?_toArray, List.getElem?_cons_zero, List.getElem?_cons_succ] at p0 p1 p2 p3
    go_wp2_with fail
    refine HAK.out.mono ?_
    rintro e w3 ⟨rfl, hb3⟩
    have hw3 := hw2.trans (hb3.mono hw2.size)
    have u0 := x0.below hb3
    have u1 := x1.below hb3
    clear p0 p1 p2 p3 x0 x1 HAK hb3
    have p0 := u0.cell 0
    have p1 := u0.cell 1
    have p2 := u0.cell 2
    have p3 := u0.cell 3
    simp only [List.getElem?_toArray, List.getElem?_cons_zero, List.getElem?_cons_succ] at p0 p1 p2 p3
    go_wp2_with fail
    refine (refPlace_at A c L D.last D.room D.left n w3 (HF.out.below hw3) HSL.out m hm (by rw [HLI.out])).mono ?_
    rintro e w4 ⟨rfl, hb4⟩
    have hw4 := hw3.trans (hb4.mono hw3.size)
    replace u0 := u0.below hb4
    replace u1 := u1.below hb4
    clear p0 p1 p2 p3 hb4
    have p0 := u0.cell 0
    have p1 := u0.cell 1
    have p2 := u0.cell 2
    have p3 := u0.cell 3
    simp only [List.getElem?_toArray, List.getElem?_cons_zero, List.getElem?_cons_succ] at p0 p1 p2 p3
    obtain ⟨b, off, hA, hbb, c0, c1, c2⟩ := (HF.out.below hw4).at_ hm
    rw [HLI.out] at c0 c1 c2
    dsimp only at c0 c1 c2
    have hAn : A ≠ none := by rw [hA]; simp
    have l04 := u0.lt
    have l14 := u1.lt
    have hrm := HRM.out
    have HSH := Lib.hid (fun W => file_slice_head A L.length c m (by omega) W hAn)
    have HST := Lib.hid (fun W => file_slice_tail A L.length c (m + 1) (by omega) W)
    have hwm := IntWalk.i64_in ((m : Int) + 1) ⟨by omega, by omega⟩
    have HRD := HF.out.below hw4
    have HR1 := Lib.hid (show Rd w4 (fun _ => True) 3 A (L.take m).length ((L.take m).flatMap fileC) from by
      rw [flat_takeF, List.length_take, Nat.min_eq_left (by omega)]
      exact HRD.rd.take (by omega))
    obtain ⟨A9, hA9⟩ : ∃ A9, A9 = (if c = m + 1 then A else A.map (·.add ((m + 1) * 3))) := ⟨_, rfl⟩
    have HR2 := Lib.hid (show Rd w4 (fun _ => True) 3 A9 (L.drop (m + 1)).length ((L.drop (m + 1)).flatMap fileC) from by
      rw [flat_dropF, List.length_drop, hA9]
      exact HRD.rd.drop (by omega) hrm)
    rw [← hA9] at HST
    clear hA9 HRD hA c0 c1 c2 hbb
    have hlt : (L.take m).length = m := by rw [List.length_take, Nat.min_eq_left (by omega)]
    have hld : (L.drop (m + 1)).length = L.length - (m + 1) := List.length_drop
    have HLT := Lib.hid hlt
    have HLD := Lib.hid hld
    clear hlt hld p0 p1 p2 p3
    go_wp2_with fail
    refine wp_region_line (.tell 1 (.tell 2 (.tell 3 (.tell 4 (.tell 6 (.tell 7 (.tell 8 (.tell 9 (.tell 10 (.one 0 (.one 5 (.one 11 (.tell 12 .done))))))))))))) (fun W => Below w4.heap.size w4 W) (by kernel_rfl) (by kernel_rfl) ?_
    refine pl_val (by (simp only [List.getElem?_toArray, List.getElem?_cons_succ, List.getElem?_cons_zero]; rfl)) (by kernel_rfl) ⟨_, (by (intro w' hC; clear hC; (try go_simp); (try with_reducible rfl); done)), _, (by (simp only [Act.put, List.setIfInBounds_toArray, List.set_cons_zero, List.set_cons_succ]; rfl)), ?_⟩
    refine pl_val (by (simp only [List.getElem?_toArray, List.getElem?_cons_succ, List.getElem?_cons_zero]; rfl)) (by kernel_rfl) ⟨_, (by (intro w' hC; have q := (u0.below hC).cell 0; simp only [List.getElem?_toArray, List.getElem?_cons_zero] at q; clear hC; (try go_simp); (try with_reducible rfl); done)), _, (by (simp only [Act.put, List.setIfInBounds_toArray, List.set_cons_zero, List.set_cons_succ]; rfl)), ?_⟩
    refine pl_val (by (simp only [List.getElem?_toArray, List.getElem?_cons_succ, List.getElem?_cons_zero]; rfl)) (by kernel_rfl) ⟨_, (by (intro w' hC; clear hC; (try go_simp); (try with_reducible rfl); done)), _, (by (simp only [Act.put, List.setIfInBounds_toArray, List.set_cons_zero, List.set_cons_succ]; rfl)), ?_⟩
    refine pl_val (by (simp only [List.getElem?_toArray, List.getElem?_cons_succ, List.getElem?_cons_zero]; rfl)) (by kernel_rfl) ⟨_, (by (intro w' hC; have hsl := HSH.out w'; clear hC; (try go_simp); (try with_reducible rfl); done)), _, (by (simp only [Act.put, List.setIfInBounds_toArray, List.set_cons_zero, List.set_cons_succ]; rfl)), ?_⟩
    refine pl_val (by (simp only [List.getElem?_toArray, List.getElem?_cons_succ, List.getElem?_cons_zero]; rfl)) (by kernel_rfl) ⟨_, (by (intro w' hC; clear hC; (try go_simp); (try with_reducible rfl); done)), _, (by (simp only [Act.put, List.setIfInBounds_toArray, List.set_cons_zero, List.set_cons_succ]; rfl)), ?_⟩
    refine pl_val (by (simp only [List.getElem?_toArray, List.getElem?_cons_succ, List.getElem?_cons_zero]; rfl)) (by kernel_rfl) ⟨_, (by (intro w' hC; have q := (u0.below hC).cell 0; simp only [List.getElem?_toArray, List.getElem?_cons_zero] at q; clear hC; (try go_simp); (try with_reducible rfl); done)), _, (by (simp only [Act.put, List.setIfInBounds_toArray, List.set_cons_zero, List.set_cons_succ]; rfl)), ?_⟩
    refine pl_val (by (simp only [List.getElem?_toArray, List.getElem?_cons_succ, List.getElem?_cons_zero]; rfl)) (by kernel_rfl) ⟨_, (by (intro w' hC; clear hC; (try go_simp); (try with_reducible rfl); done)), _, (by (simp only [Act.put, List.setIfInBounds_toArray, List.set_cons_zero, List.set_cons_succ]; rfl)), ?_⟩
    refine pl_val (by (simp only [List.getElem?_toArray, List.getElem?_cons_succ, List.getElem?_cons_zero]; rfl)) (by kernel_rfl) ⟨_, (by (intro w' hC; clear hC; (try go_simp); (try with_reducible rfl); done)), _, (by (simp only [Act.put, List.setIfInBounds_toArray, List.set_cons_zero, List.set_cons_succ]; rfl)), ?_⟩
    refine pl_val (by (simp only [List.getElem?_toArray, List.getElem?_cons_succ, List.getElem?_cons_zero]; rfl)) (by kernel_rfl) ⟨_, (by (intro w' hC; have hsl := HST.out w'; push_cast at hsl; clear hC; (try go_simp); (try with_reducible rfl); done)), _, (by (simp only [Act.put, List.setIfInBounds_toArray, List.set_cons_zero, List.set_cons_succ]; rfl)), ?_⟩
    have hB : Below w4.heap.size w4 w4.drew := (Below.refl _ _).drew
    generalize w4.drew = wd at *
    refine pl_one (by (simp only [List.getElem?_toArray, List.getElem?_cons_zero]; rfl)) hB ?_
    refine al_val (by kernel_rfl) ⟨_, _, (by (go_simp; first | done | exact ⟨rfl, rfl⟩)), _, (by (simp only [Act.put, List.setIfInBounds_toArray, List.set_cons_zero, List.set_cons_succ]; rfl)), ?_⟩
    have own : OwF (wd.alloc (.cells #[] 84)) w4.heap.size (some ⟨wd.heap.size, 0, none⟩) 0 [] := World.ownsRow_lit (base := w4.heap.size) (e := 84) (size := 3) wd #[] 0 hB.size (by simp [maxLen]) (by simp)
    have hB1 : Below w4.heap.size w4 (wd.alloc (.cells #[] 84)) := hB.alloc hB.size _
    generalize wd.alloc (.cells #[] 84) = wA at *
    refine pl_one (by (simp only [List.getElem?_toArray, List.getElem?_cons_succ, List.getElem?_cons_zero]; rfl)) hB1 ?_
    refine al_wp (by kernel_rfl) (wp_append_files (N := L.take m) (.tmp 18) (.tmp 22) rfl rfl own (by rw [HLT.out]; rfl) (HR1.out.below hB1) (by rw [HLT.out]; simp; omega) hB1.size ?_)
    intro A1 c1 wB own1 hb1 _
    have hB2 := hB1.trans hb1
    rw [List.nil_append] at own1
    rw [HLT.out, show ([] : List (Int × FV)).length + m = m by simp]
    simp only [Act.put, List.setIfInBounds_toArray, List.set_cons_zero, List.set_cons_succ]
    clear own hb1 hB hB1
    refine pl_one (by (simp only [List.getElem?_toArray, List.getElem?_cons_succ, List.getElem?_cons_zero]; rfl)) hB2 ?_
    refine al_wp (by kernel_rfl) (wp_append_files (L := L.take m) (N := L.drop (m + 1)) (.tmp 23) (.tmp 28) rfl (by rw [HLT.out]; rfl) own1 (by rw [HLD.out]; rfl) (HR2.out.below hB2) (by rw [HLT.out, HLD.out]; omega) hB2.size ?_)
    intro A2 c2 wC own2 hb2 _
    have hB3 := hB2.trans hb2
    have hln : (L.take m).length + (L.drop (m + 1)).length = L.length - 1 := by rw [HLT.out, HLD.out]; omega
    rw [hln]
    have hlW : (L.take m ++ L.drop (m + 1)).length = L.length - 1 := by rw [List.length_append, hln]
    simp only [Act.put, List.setIfInBounds_toArray, List.set_cons_zero, List.set_cons_succ]
    clear own1 hb2 hB2 hln
    refine pl_val (by (simp only [List.getElem?_toArray, List.getElem?_cons_succ, List.getElem?_cons_zero]; rfl)) (by kernel_rfl) ⟨_, (by (intro w' hC; clear hC; (try go_simp); (try with_reducible rfl); done)), _, (by (simp only [Act.put, List.setIfInBounds_toArray, List.set_cons_zero, List.set_cons_succ]; rfl)), ?_⟩
    refine pl_end hB3 ?_
    simp only [Plan.count, Nat.reduceAdd, List.drop_succ_cons, List.drop_zero]
    replace u0 := u0.below hB3
    replace u1 := u1.below hB3
    have p0 := u0.cell 0
    have p1 := u0.cell 1
    have p2 := u0.cell 2
    have p3 := u0.cell 3
    simp only [List.getElem?_toArray, List.getElem?_cons_zero, List.getElem?_cons_succ] at p0 p1 p2 p3
    have ft := fun o => u0.frozen o
    have hwC := hw4.trans (hB3.mono hw4.size)
    have kE : Fr (fun x => x = w.heap.size) wC (wC.setCell ⟨w.heap.size, 0, none⟩ (.slice A2 (L.length - 1) c2)) := (Fr.refl (fun x => x = w.heap.size) wC).setAt w.heap.size 0 rfl _
    have hwE : Below w.heap.size w (wC.setCell ⟨w.heap.size, 0, none⟩ (.slice A2 (L.length - 1) c2)) := hwC.trans (kE.below (B := w.heap.size) hwC.size (fun k hk e => by omega))
    have OWE := Lib.hid (own2.row.fr kE (fun g hg e => by have := (own2.row.lt g hg).1; omega))
    have FE := u0.set_ 0 (.slice A2 (L.length - 1) c2)
    simp only [List.setIfInBounds_toArray, List.set_cons_zero] at FE
    replace u1 := u1.fr kE (by omega)
    clear own2 hB3 HR1 HR2 HSH HST hwm
    go_upto_region 6 with (fail)
    generalize (wC.setCell ⟨w.heap.size, 0, none⟩ (.slice A2 (L.length - 1) c2)) = wE at *
    clear p0 p1 p2 p3 ft kE u0 hwC
    have p0 := FE.cell 0
    have p1 := FE.cell 1
    have p2 := FE.cell 2
    have p3 := FE.cell 3
    simp only [List.getElem?_toArray, List.getElem?_cons_zero, List.getElem?_cons_succ] at p0 p1 p2 p3
    go_wp2_with fail
    refine (refCounted_any A2 _ c2 D.last D.room D.left wE hlf.2).mono ?_
    rintro e w7 ⟨rfl, hb7⟩
    have hw7 := hwE.trans (hb7.mono hwE.size)
    replace u1 := u1.below hb7
    obtain ⟨lf, hlf3⟩ : ∃ lf, lf = (if 0 < D.left then D.left - 1 else D.left) := ⟨_, rfl⟩
    rw [← hlf3]
    have HLF := Lib.hid hlf3
    have OW7 := Lib.hid (OWE.out.below hb7)
    clear hlf3 hb7 OWE p0 p1 p2 p3 FE
    have r0 := u1.cell 0
    have r1 := u1.cell 1
    have r2 := u1.cell 2
    have r3 := u1.cell 3
    simp only [List.getElem?_toArray, List.getElem?_cons_zero, List.getElem?_cons_succ] at r0 r1 r2 r3
    have fr := fun o => u1.frozen o
    go_wp2_with fail
    have kR : Fr (fun x => x = w.heap.size + 1) w7 ((((w7.setCell ⟨w.heap.size + 1, 0, none⟩ (.slice A2 (L.length - 1) c2)).setCell ⟨w.heap.size + 1, 1, none⟩ (.int .i64 D.last)).setCell ⟨w.heap.size + 1, 2, none⟩ (.int .i64 D.room)).setCell ⟨w.heap.size + 1, 3, none⟩ (.int .i64 lf)) := (((((Fr.refl (fun x => x = w.heap.size + 1) w7).setAt (w.heap.size + 1) _ rfl _).setAt (w.heap.size + 1) _ rfl _).setAt (w.heap.size + 1) _ rfl _).setAt (w.heap.size + 1) _ rfl _)
    have yR := ((((u1.set_ 0 (.slice A2 (L.length - 1) c2)).set_ 1 (.int .i64 D.last)).set_ 2 (.int .i64 D.room)).set_ 3 (.int .i64 lf))
    simp only [List.setIfInBounds_toArray, List.set_cons_zero, List.set_cons_succ] at yR
    have hwR : Below w.heap.size w ((((w7.setCell ⟨w.heap.size + 1, 0, none⟩ (.slice A2 (L.length - 1) c2)).setCell ⟨w.heap.size + 1, 1, none⟩ (.int .i64 D.last)).setCell ⟨w.heap.size + 1, 2, none⟩ (.int .i64 D.room)).setCell ⟨w.heap.size + 1, 3, none⟩ (.int .i64 lf)) := hw7.trans (kR.below (B := w.heap.size) hw7.size (fun k hk e => by omega))
    generalize ((((w7.setCell ⟨w.heap.size + 1, 0, none⟩ (.slice A2 (L.length - 1) c2)).setCell ⟨w.heap.size + 1, 1, none⟩ (.int .i64 D.last)).setCell ⟨w.heap.size + 1, 2, none⟩ (.int .i64 D.room)).setCell ⟨w.heap.size + 1, 3, none⟩ (.int .i64 lf)) = wR at *
    have s0 := yR.cell 0
    have s1 := yR.cell 1
    have s2 := yR.cell 2
    have s3 := yR.cell 3
    simp only [List.getElem?_toArray, List.getElem?_cons_zero, List.getElem?_cons_succ] at s0 s1 s2 s3
    refine bodyPost_ret (v := .tuple #[refV A2 (L.length - 1) c2 D.last D.room lf, .int .i64 0]) (by simp [results, Try.results33, go_sem, s0, s1, s2, s3]) rfl ?_
    have OWR := OW7.out.fr kR (fun g hg e => by have := (OW7.out.lt g hg).1; omega)
    refine ⟨refV A2 (L.take m ++ L.drop (m + 1)).length c2 D.last D.room lf, (by rw [hlW]), RefAt.count (D := ⟨withoutZ D.L n, D.last, D.room, D.left⟩) (A := A2) (c := c2) (L := L.take m ++ L.drop (m + 1)) (lf := lf) (row_fls OWR (fun x hx => ?_) (by rw [hlW]; omega)) OWR.room (by show _ = withoutZ D.L n; rw [← HP.out, ← plainD_without, show withoutZ L n = L.take m ++ L.drop (m + 1) from by have := erase_withoutZ HSL.out m hm; rw [HLI.out] at this; exact this.symm]) HLF.out, hwR⟩
    have hx2 : x ∈ L := by
      rcases List.mem_append.1 hx with hx | hx
      · exact List.mem_of_mem_take hx
      · exact List.mem_of_mem_drop hx
    exact (HF.out.ok x hx2).below hwR
  · clear HO hlf
    have HEQ : dropD D n = (D, askS D n) := by unfold dropD; rw [if_pos h0]
    rw [HEQ]
    obtain ⟨E, hE⟩ : ∃ E, E = askS D n := ⟨_, rfl⟩
    rw [← hE] at h0 HAK ⊢
    have h0b : (E == 0) = false := by simpa using h0
    have h0c : (E != 0) = true := by simpa using h0
    replace HAK := Lib.hid HAK
    clear hE HEQ h0
    go_enter Try.func33, Try.ntmps33
    go_upto_region 1 with (fail)
    generalize ((w.alloc (.cells #[.slice A L.length c, .int .i64 D.last, .int .i64 D.room, .int .i64 D.left] 38)).alloc (.cells #[.slice none 0 0, .int .i64 0, .int .i64 0, .int .i64 0] 38)) = w2 at *
    have p0 := x0.cell 0
    have p1 := x0.cell 1
    have p2 := x0.cell 2
    have p3 := x0.cell 3
    simp only [List.getElem?_toArray, List.getElem?_cons_zero, List.getElem?_cons_succ] at p0 p1 p2 p3
    go_wp2_with fail
    refine HAK.out.mono ?_
    rintro e w3 ⟨rfl, hb3⟩
    have hw3 := hw2.trans (hb3.mono hw2.size)
    have u0 := x0.below hb3
    have u1 := x1.below hb3
    clear p0 p1 p2 p3 x0 x1 HAK
    have p0 := u0.cell 0
    have p1 := u0.cell 1
    have p2 := u0.cell 2
    have p3 := u0.cell 3
    simp only [List.getElem?_toArray, List.getElem?_cons_zero, List.getElem?_cons_succ] at p0 p1 p2 p3
    have r0 := u1.cell 0
    have r1 := u1.cell 1
    have r2 := u1.cell 2
    have r3 := u1.cell 3
    simp only [List.getElem?_toArray, List.getElem?_cons_zero, List.getElem?_cons_succ] at r0 r1 r2 r3
    have fr := fun o => u1.frozen o
    go_wp2_with fail
    have kR : Fr (fun x => x = w.heap.size + 1) w3 ((((w3.setCell ⟨w.heap.size + 1, 0, none⟩ (.slice A L.length c)).setCell ⟨w.heap.size + 1, 1, none⟩ (.int .i64 D.last)).setCell ⟨w.heap.size + 1, 2, none⟩ (.int .i64 D.room)).setCell ⟨w.heap.size + 1, 3, none⟩ (.int .i64 D.left)) := (((((Fr.refl (fun x => x = w.heap.size + 1) w3).setAt (w.heap.size + 1) _ rfl _).setAt (w.heap.size + 1) _ rfl _).setAt (w.heap.size + 1) _ rfl _).setAt (w.heap.size + 1) _ rfl _)
    have yR := ((((u1.set_ 0 (.slice A L.length c)).set_ 1 (.int .i64 D.last)).set_ 2 (.int .i64 D.room)).set_ 3 (.int .i64 D.left))
    simp only [List.setIfInBounds_toArray, List.set_cons_zero, List.set_cons_succ] at yR
    have hwR : Below w.heap.size w ((((w3.setCell ⟨w.heap.size + 1, 0, none⟩ (.slice A L.length c)).setCell ⟨w.heap.size + 1, 1, none⟩ (.int .i64 D.last)).setCell ⟨w.heap.size + 1, 2, none⟩ (.int .i64 D.room)).setCell ⟨w.heap.size + 1, 3, none⟩ (.int .i64 D.left)) := hw3.trans (kR.below (B := w.heap.size) hw3.size (fun k hk e => by omega))
    generalize ((((w3.setCell ⟨w.heap.size + 1, 0, none⟩ (.slice A L.length c)).setCell ⟨w.heap.size + 1, 1, none⟩ (.int .i64 D.last)).setCell ⟨w.heap.size + 1, 2, none⟩ (.int .i64 D.room)).setCell ⟨w.heap.size + 1, 3, none⟩ (.int .i64 D.left)) = wR at *
    have s0 := yR.cell 0
    have s1 := yR.cell 1
    have s2 := yR.cell 2
    have s3 := yR.cell 3
    simp only [List.getElem?_toArray, List.getElem?_cons_zero, List.getElem?_cons_succ] at s0 s1 s2 s3
    refine bodyPost_ret (v := .tuple #[.agg #[.slice A L.length c, .int .i64 D.last, .int .i64 D.room, .int .i64 D.left], .int .i64 E]) (by simp [results, Try.results33, go_sem, s0, s1, s2, s3]) rfl ?_
    exact ⟨_, rfl, ⟨A, c, L, rfl, HF.out.below hwR, HRM.out, HP⟩, hwR⟩

end Go.Proofs.Ytmdbfhfjaapeoaa

/- disk.Disk: Crash. -/
namespace Go.Proofs.Ytmdbfhfjaapeoaa
open Go.RowKit Go.Maps

def keepC (x : Int × Int) : List Value := [.int .i64 x.1, .int .i64 x.2]
theorem keepC_len (x : Int × Int) : (keepC x).length = 2 := rfl
/-- what may be kept, as it comes in -/
structure Kps (w : World) (Z : Nat → Prop) (A : Option Addr) (K : List (Int × Int)) : Prop where
  rd : Rd w Z 2 A K.length (K.flatMap keepC)
  len : K.length ≤ 1000000
theorem Kps.fr {w w' : World} {Z S : Nat → Prop} {A : Option Addr} {K : List (Int × Int)} (h : Kps w Z A K) (k : Fr S w w') (hs : ∀ b, b < w.heap.size → Z b → ¬ S b) : Kps w' Z A K := ⟨h.rd.fr k hs, h.len⟩
theorem Kps.below {w w' : World} {Z : Nat → Prop} {A : Option Addr} {K : List (Int × Int)} (h : Kps w Z A K) (k : Below w.heap.size w w') : Kps w' Z A K := ⟨h.rd.below k, h.len⟩
theorem Kps.at_ {w : World} {Z : Nat → Prop} {A : Option Addr} {K : List (Int × Int)} {i : Nat} (h : Kps w Z A K) (hi : i < K.length) :
    ∃ b off, A = some ⟨b, off, none⟩ ∧ b < w.heap.size ∧ w.cell? ⟨b, off + i * 2, none⟩ = some (.int .i64 K[i].1) ∧ w.cell? ⟨b, off + i * 2 + 1, none⟩ = some (.int .i64 K[i].2) := by
  obtain ⟨b, off, hA, _, hb, hc⟩ := h.rd.2 (by omega)
  have hg : ∀ j, j < 2 → (K.flatMap keepC)[i * 2 + j]? = (keepC K[i])[j]? := fun j hj => flat_get (k := 2) keepC_len K i j hi hj
  refine ⟨b, off, hA, hb, hc _ _ (hg 0 (by omega)), ?_⟩
  rw [Nat.add_assoc]; exact hc _ _ (hg 1 (by omega))
theorem getZ_consK {α : Type} (x : Int × α) (l : List (Int × α)) (n : Int) : getZ (x :: l) n = if x.1 = n then some x.2 else getZ l n := rfl
set_option maxRecDepth 100000 in
set_option maxHeartbeats 400000 in
theorem crash1_any (f y n : Int) (b : Nat) (w : World) (hn : w.cell? ⟨b, 0, none⟩ = some (.int .i64 n)) (hb : b < w.heap.size) :
    Calls Try.prog 38 #[.agg #[.int .i64 f, .int .i64 y], .pointer (some ⟨b, 0, none⟩)] w fun e w' => e = .returned (.bool (f == n)) ∧ Below w.heap.size w w' := by
  have hw0 : Below w.heap.size w (w.alloc (.cells #[.int .i64 f, .int .i64 y] 61)) := (by repeat (first | exact Below.refl _ _ | refine Below.alloc ?_ (by simp) _ | refine Below.setCell ?_ (by simp) _ | refine Below.drew ?_))
  have x0 := Blk.new w 61 #[.int .i64 f, .int .i64 y]
  have q0 := x0.cell 0
  have c0 := cellAt hw0 hb hn
  simp only [List.getElem?_toArray, List.getElem?_cons_zero] at q0
  go_enter Try.func38, Try.ntmps38
  go_wp2_with fail
  go_ret
  exact ⟨rfl, hw0⟩
set_option maxRecDepth 100000 in
set_option maxHeartbeats 1000000 in
theorem index_any (A : Option Addr) (c : Nat) (K : List (Int × Int)) (n : Int) (b : Nat) (Z : Nat → Prop) (w : World) (h : Kps w Z A K) (hn : w.cell? ⟨b, 0, none⟩ = some (.int .i64 n)) (hb : b < w.heap.size) :
    Calls Try.prog 37 #[.slice A K.length c, .func (.func 38) #[] #[.pointer (some ⟨b, 0, none⟩)]] w fun e w' => (∃ p : Int, e = .returned (.int .i64 p) ∧ Hid ((p = -1 ∧ getZ K n = none) ∨ ∃ (i : Nat) (hi : i < K.length), p = (i : Int) ∧ getZ K n = some K[i].2)) ∧ Below w.heap.size w w' := by
  have HF := Lib.hid h
  have HN := Lib.hid hn
  clear h hn
  go_enter Try.func37, Try.ntmps37
  go_wp2_with fail
  go_loopw [8] (fun iv wr => ∃ (i : Nat), i ≤ K.length ∧ iv = .int .i64 (i : Int) ∧ Hid (getZ K n = getZ (K.drop i) n) ∧ Below w.heap.size w wr) (fun iv _ => K.length - (intOf iv).toNat)
  case atStart => exact ⟨0, Nat.zero_le _, rfl, rfl, Below.refl _ _⟩
  case round =>
    obtain ⟨i, hi, rfl, hg, hbr⟩ := hrel
    by_cases hlt : i < K.length
    · obtain ⟨b', off, hA, hbb, c0, c1⟩ := (HF.out.below hbr).at_ hlt
      have hlen := HF.out.len
      have hd : K.drop i = K[i] :: K.drop (i + 1) := List.drop_eq_getElem_cons hlt
      have hg2 := hg.out
      rw [hd, getZ_consK] at hg2
      have hnr := cellAt hbr hb HN.out
      have hbl : b < wr.heap.size := Nat.lt_of_lt_of_le hb hbr.size
      subst hA
      have HG2 := Lib.hid hg2
      generalize hx : K[i] = x at *
      obtain ⟨xf, xb⟩ := x
      dsimp only at c0 c1
      have HC := Lib.hid (crash1_any xf xb n b wr hnr hbl)
      have HX := Lib.hid hx
      clear hd hg2 hg hx
      go_wp2_with fail
      refine HC.out.mono ?_
      rintro e w2 ⟨rfl, hb2⟩
      have hw2 := hbr.trans (hb2.mono hbr.size)
      by_cases he : xf = n
      · have heb : (xf == n) = true := by simpa using he
        have hg3 := HG2.out
        rw [if_pos he] at hg3
        have HR : Hid (getZ K n = some K[i].2) := Lib.hid (by rw [hg3, HX.out])
        clear HC HG2 hg3 c0 c1 hb2
        go_wp2_with fail
        go_ret
        exact ⟨⟨_, rfl, Lib.hid (.inr ⟨i, hlt, rfl, HR.out⟩)⟩, hw2⟩
      · have heb : (xf == n) = false := by simpa using he
        have hg3 := HG2.out
        rw [if_neg he] at hg3
        have HG3 := Lib.hid hg3
        clear HC HG2 hg3 c0 c1 hb2 he
        go_wp2_with fail
        go_roundw
        case rel => exact ⟨i + 1, hlt, by go_num, HG3.out, hw2⟩
        case measure => simp [intOf]; omega
    · have e : i = K.length := by omega
      subst e
      have hn2 : getZ K n = none := by rw [hg.out, List.drop_length]; rfl
      have HN2 := Lib.hid hn2
      clear hn2 hg
      go_wp2_with fail
      go_ret
      exact ⟨⟨_, rfl, Lib.hid (.inl ⟨rfl, HN2.out⟩)⟩, hbr⟩

theorem DiskAt.ownD {w : World} {tb mb : Nat} {L : List (Int × FV)} {D : DP} (t : DiskAt w tb mb L D) {base n size : Nat} {e : TypeId} {v : Value} {xs : List Value} (h : w.ownsRow base e size v n xs) (he : e ≠ 52) : ∀ g, v.ownBlock = some g → ¬ (g = tb ∨ g = mb) := by
  rintro g hg (rfl | rfl)
  · exact t.blk.own_ne h he hg
  · rcases h.2 with ⟨rfl, _⟩ | ⟨g', cap, cur, rfl, _, hh, _⟩
    · simp [Value.ownBlock] at hg
    · have e1 : g' = g := by simpa [Value.ownBlock] using hg
      subst e1
      exact t.map.not_cells hh
/-- a file behind a crash -/
def cutF (m : Nat) (f : FV) : FV := ⟨⟨f.x.A, m, f.x.l.take m⟩, (m : Int)⟩
theorem cut_ok {w : World} {f : FV} {m : Nat} (h : f.x.ok w (fun _ => True)) (hm : m ≤ f.x.l.length) : (cutF m f).x.ok w (fun _ => True) := by
  refine ⟨⟨by simp [cutF], fun hn => ?_⟩, by simp [cutF]; omega, ?_⟩
  · obtain ⟨b, off, e, hz, hlt, hc⟩ := h.1.2 (by simp [cutF] at hn; omega)
    refine ⟨b, off, e, hz, hlt, fun j u hu => hc j u ?_⟩
    simp only [cutF, List.map_take] at hu
    rw [List.getElem?_take] at hu
    split at hu
    · exact hu
    · cases hu
  · have h1 := h.2.1
    have h2 := h.2.2
    show m ≤ maxLen
    omega
theorem slice_cut (A : Option Addr) (n c m : Nat) (hm : m ≤ c) (W : World) : (Instr.slice 23 (.slice A n c) none (some (.int .i64 (m : Int))) (some (.int .i64 (m : Int)))).run Try.prog W = .ok (.slice A m m) W := by
  rw [run_slice_hm W 23 A n c (by kernel_rfl) .i64 .i64 (m : Int) (m : Int) (by omega) (by omega) (by omega)]
  rw [show (sizeOf (Try.prog.elem 23)).run Try.prog W = .ok 1 W by kernel_rfl]
  simp only [Result.andThen, sliced, Int.toNat_natCast]
  rcases A with _ | a
  · simp
  · simp [Addr.add]
/-- some files are as behind the crash, the rest as they were -/
def midD (D : DP) (K : List (Int × Int)) (i : Nat) : DP := ⟨(D.L.take i).map (crashF K) ++ D.L.drop i, D.last, D.room, -1⟩
theorem mid_zero (D : DP) (K : List (Int × Int)) : midD D K 0 = ⟨D.L, D.last, D.room, -1⟩ := by simp [midD]
theorem mid_end (D : DP) (K : List (Int × Int)) : midD D K D.L.length = crashS D K := by simp [midD, crashS]
theorem mid_keys (D : DP) (K : List (Int × Int)) (i : Nat) : keysZ (midD D K i).L = keysZ D.L := by
  show keysZ ((D.L.take i).map (crashF K) ++ D.L.drop i) = _
  have : ∀ (a b : List (Int × FP)), keysZ (a ++ b) = keysZ a ++ keysZ b := fun a b => by simp [keysZ]
  rw [this, crash_keys, ← this, List.take_append_drop]
theorem mid_get (D : DP) (K : List (Int × Int)) (i : Nat) (hi : i < D.L.length) : (midD D K i).L[i]? = some D.L[i] := by
  show ((D.L.take i).map (crashF K) ++ D.L.drop i)[i]? = _
  rw [List.getElem?_append_right (by simp; omega)]
  simp [hi, Nat.min_eq_left (Nat.le_of_lt hi)]
theorem mid_set (D : DP) (K : List (Int × Int)) (i : Nat) (hi : i < D.L.length) : (midD D K i).L.set i (crashF K D.L[i]) = (midD D K (i + 1)).L := by
  show ((D.L.take i).map (crashF K) ++ D.L.drop i).set i _ = (D.L.take (i + 1)).map (crashF K) ++ D.L.drop (i + 1)
  rw [List.take_succ_eq_append_getElem hi, List.map_append, List.append_assoc, List.set_append_right _ _ (by simp; omega)]
  have e : i - ((D.L.take i).map (crashF K)).length = 0 := by simp; omega
  rw [e]
  conv => lhs; rw [List.drop_eq_getElem_cons hi, List.set_cons_zero]
  rfl

set_option maxRecDepth 100000 in
set_option maxHeartbeats 4000000 in
theorem crash_any (tb mb : Nat) (L : List (Int × FV)) (D : DP) (k : Nat) (A : Option Addr) (c : Nat) (K : List (Int × Int)) (Z : Nat → Prop) (w : World) (h : DiskAt w tb mb L D) (hok : DOk D k) (hk : k ≤ 1000000) (hK : Kps w Z A K) (hZ : ∀ b, b < w.heap.size → Z b → ¬ (b = tb ∨ b = mb)) :
    Calls Try.prog 14 #[.pointer (some ⟨tb, 0, none⟩), .slice A K.length c] w fun e w' => e = .returned (.tuple #[]) ∧ DiskTo w tb mb (crashS D K) w' := by
  have HNO := Lib.hid (none_any tb mb L D w h)
  have hll' : L.length = D.L.length := by rw [← h.plain.out, plainD_len]
  have HLL := Lib.hid hll'
  have hlen : L.length ≤ 1000000 := by have := hok.len; omega
  clear hll'
  have f3 := h.blk.frozen 3
  obtain ⟨_, _, _, c3⟩ := h.cells
  have k1 : Fr (fun x => x = tb) w (w.setCell ⟨tb, 3, none⟩ (.int .i64 (-1))) := (Fr.refl (fun x => x = tb) w).setAt tb 3 rfl _
  have h1 : DiskAt (w.setCell ⟨tb, 3, none⟩ (.int .i64 (-1))) tb mb L ⟨D.L, D.last, D.room, -1⟩ := h.set k1 (by simpa using h.blk.set_ 3 (.int .i64 (-1))) rfl
  have HFI := Lib.hid (files_any tb mb L _ _ h1 hlen)
  have H1 := Lib.hid h1
  have HO := Lib.hid hok
  have HK := Lib.hid hK
  have HZ := Lib.hid hZ
  have K1 := Lib.hid (k1.mono (S' := fun g => g = tb ∨ g = mb) (fun _ _ e => .inl e))
  have hs1 : (w.setCell ⟨tb, 3, none⟩ (.int .i64 (-1))).heap.size = w.heap.size := by simp [World.setCell]
  have HKL : Hid (keysZ L = keysZ D.L) := Lib.hid (by rw [← h.plain.out, keys_plainD])
  have HWA : Hid (∀ x ∈ D.L, (Lit.int .i64 x.1).wf = true) := Lib.hid (fun x hx => by
    have h2 := HO.out.key x.1 (List.mem_map.2 ⟨x, hx, rfl⟩)
    have h3 := HO.out.last
    exact i64_wf ⟨by omega, by omega⟩)
  clear h h1 k1 hok hK hZ
  go_enter Try.func14, Try.ntmps14
  go_wp2_with fail
  refine HNO.out.mono ?_
  rintro e w0 ⟨rfl, rfl⟩
  go_wp2_with fail
  refine HFI.out.mono ?_
  rintro e w2 ⟨A2, c2, rfl, hr2, hb2⟩
  rw [hs1] at hr2
  have HR2 := Lib.hid hr2
  have HM2 : Hid (DiskAt w2 tb mb L (midD D K 0)) := Lib.hid (by rw [mid_zero]; exact H1.out.below hb2)
  have K2 := Lib.hid (K1.out.then_below hb2)
  clear hr2 hb2 HFI HNO f3 c3 H1 K1 hs1
  go_wp2_with fail
  go_loopw [17] (fun iv wr => ∃ (i : Nat) (M : List (Int × FV)), i ≤ L.length ∧ iv = .int .i64 (i : Int) ∧ DiskAt wr tb mb M (midD D K i) ∧ wr.ownsRow w.heap.size 3 1 (.slice A2 L.length c2) L.length ((keysZ L).map (Value.int .i64)) ∧ Fr (fun g => g = tb ∨ g = mb) w wr) (fun iv _ => L.length - (intOf iv).toNat)
  case atStart => exact ⟨0, L, Nat.zero_le _, rfl, HM2.out, HR2.out, K2.out⟩
  case round =>
    obtain ⟨i, M, hi, rfl, hM, hr, hf⟩ := hrel
    by_cases hlt : i < L.length
    · have hiD : i < D.L.length := by rw [← HLL.out]; exact hlt
      have hkl : (keysZ L).length = L.length := keysZ_len L
      rw [← hkl] at hr
      obtain ⟨b, off, hA, hbb, c0⟩ := int_at hr (i := i) (by omega)
      rw [hkl] at hr
      have hki : (keysZ L)[i]'(by omega) = D.L[i].1 := by
        have : (keysZ L)[i]? = some D.L[i].1 := by rw [HKL.out]; simp [keysZ, hiD]
        rw [List.getElem?_eq_getElem (by omega)] at this
        injection this
      rw [hki] at c0
      have hMl : M.length = D.L.length := by
        rw [← plainD_len, hM.plain.out, ← keysZ_len, mid_keys, keysZ_len]
      have hll := HLL.out
      have HML : Hid (M.length ≤ 1000000) := Lib.hid (by omega)
      have hMi : M[i]'(by omega) = M[i]'(by omega) := rfl
      have hpi : ((M[i]'(by omega)).1, (M[i]'(by omega)).2.p) = D.L[i] := by
        have h5 : (plainD M)[i]? = some D.L[i] := by rw [hM.plain.out]; exact mid_get D K i hiD
        simp only [plainD, List.getElem?_map, List.getElem?_eq_getElem (show i < M.length by omega), Option.map_some] at h5
        injection h5
      obtain ⟨n, hn⟩ : ∃ n, n = D.L[i].1 := ⟨_, rfl⟩
      have hMs : SortZ M := by
        have := HO.out.sort
        unfold SortZ at this ⊢
        rw [← keys_plainD, hM.plain.out, mid_keys]
        exact this
      have hMn : (M[i]'(by omega)).1 = n := by rw [hn, ← hpi]
      have hg : getZ M n = some (M[i]'(by omega)).2 := by rw [← hMn]; exact hMs.get (List.getElem_mem (show i < M.length by omega))
      have hbd := many_bd HO.out K (List.getElem_mem hiD)
      have hst := mid_set D K i hiD
      have hok5 := hM.ok _ (List.getElem_mem (show i < M.length by omega))
      have hsp := putZ_set hMs (show i < M.length by omega)
      obtain ⟨f, hf5⟩ : ∃ f, f = (M[i]'(by omega)).2 := ⟨_, rfl⟩
      rw [← hn] at c0
      have hfp : D.L[i].2 = f.p := by rw [← hpi, hf5]
      rw [hMn] at hsp
      rw [← hf5] at hg hok5
      have hDi : D.L[i] = (n, f.p) := by rw [hn, ← hfp]
      rw [hDi] at hbd hst
      have HG := Lib.hid hg
      have HWF : Hid ((Lit.int .i64 n).wf = true) := Lib.hid (by rw [hn]; exact HWA.out _ (List.getElem_mem hiD))
      have HST := Lib.hid hst
      have HSP := Lib.hid hsp
      have HBD := Lib.hid hbd
      subst hA
      have hba : Below wr.heap.size wr (wr.alloc (.cells #[.int .i64 n] 3)) := (Below.refl _ _).alloc (Nat.le_refl _) _
      have nb := Blk.new wr 3 #[.int .i64 n]
      have H4 := Lib.hid (hM.below hba)
      have OK4 := Lib.hid (BV.ok.below hok5 hba)
      have K4 := Lib.hid (hf.then_below hba)
      have R4 := Lib.hid (own_below hr hba)
      have b4 := H4.out.blk
      have hsz := hf.size
      clear hM hr hf hki hpi hMn hg hbd hst hsp hf5 hfp hDi hMs hba hMi hn hok5 hll hMl
      go_wp2_with fail
      generalize wr.alloc (.cells #[.int .i64 n] 3) = w4 at *
      refine wp_region_f 6 65 #[.slice none 0 0, .int .i64 0] (by kernel_rfl) rfl (by kernel_rfl) (fun ρ w' => by go_simp) ?_
      simp only [List.take_succ_cons, List.take_zero, List.drop_succ_cons, List.drop_zero]
      refine lb_move _ (by kernel_rfl) rfl ⟨_, (by ((try simp [go_sem]); (try rfl); done)), _, (by (simp only [Act.put, List.setIfInBounds_toArray, List.set_cons_zero, List.set_cons_succ]; rfl)), ?_⟩
      refine lb_val (by kernel_rfl) ⟨_, (by (intro w' hC; clear hC; (try go_simp); (try with_reducible rfl); done)), _, (by (simp only [Act.put, List.setIfInBounds_toArray, List.set_cons_zero, List.set_cons_succ]; rfl)), ?_⟩
      refine lb_val (by kernel_rfl) ⟨_, (by (intro w' hC; clear hC; (try go_simp); (try with_reducible rfl); done)), _, (by (simp only [Act.put, List.setIfInBounds_toArray, List.set_cons_zero, List.set_cons_succ]; rfl)), ?_⟩
      refine lb_val (by kernel_rfl) ⟨_, (by (intro w' hC; (have q0 := (b4.below hC).cell 0; simp only [List.getElem?_toArray, List.getElem?_cons_zero] at q0); clear hC; (try go_simp); (try with_reducible rfl); done)), _, (by (simp only [Act.put, List.setIfInBounds_toArray, List.set_cons_zero, List.set_cons_succ]; rfl)), ?_⟩
      refine lb_val (by kernel_rfl) ⟨_, (by (intro w' hC; (have n0 := (nb.below hC).cell 0; simp only [List.getElem?_toArray, List.getElem?_cons_zero] at n0); clear hC; (try go_simp); (try with_reducible rfl); done)), _, (by (simp only [Act.put, List.setIfInBounds_toArray, List.set_cons_zero, List.set_cons_succ]; rfl)), ?_⟩
      refine lb_val (by kernel_rfl) ⟨_, (by (intro w' hC; (have lk := (H4.out.below hC).look n HWF.out; rw [HG.out] at lk; simp only [fileO, FV.v] at lk); clear hC; (try go_simp); (try with_reducible rfl); done)), _, (by (simp only [Act.put, List.setIfInBounds_toArray, List.set_cons_zero, List.set_cons_succ]; rfl)), ?_⟩
      refine .nil ?_
      simp only [Act.put, List.setIfInBounds_toArray, List.set_cons_zero, List.set_cons_succ]
      rintro b5 w5 ⟨hb5, hge, hbl⟩
      have e0 := hbl.cell 0
      have e1 := hbl.cell 1
      simp only [List.getElem?_toArray, List.getElem?_cons_zero, List.getElem?_cons_succ] at e0 e1
      have f0 := hbl.frozen 0
      have f1 := hbl.frozen 1
      have k6 : Fr (fun x => x = b5) w5 ((w5.setCell ⟨b5, 0, none⟩ (.slice f.x.A f.x.l.length f.x.c)).setCell ⟨b5, 1, none⟩ (.int .i64 f.s)) := ((Fr.refl (fun x => x = b5) w5).setAt b5 0 rfl _).setAt b5 1 rfl _
      have fb := (hbl.set_ 0 (.slice f.x.A f.x.l.length f.x.c)).set_ 1 (.int .i64 f.s)
      simp only [List.setIfInBounds_toArray, List.set_cons_zero, List.set_cons_succ] at fb
      have h5 := H4.out.below hb5
      have htl := H4.out.blk.lt
      have hml := H4.out.map.lt
      have hnl := nb.lt
      have H6 := Lib.hid (h5.fr k6 (fun e => by omega) (fun e => by omega) (fun x hx => hbl.noBytes2 (file_noB _ _ _ _) (h5.ok x hx).1))
      have nb6 := (nb.below hb5).fr k6 (fun e => by omega)
      have ok5 := OK4.out.below hb5
      have OK6 : Hid (f.x.ok ((w5.setCell ⟨b5, 0, none⟩ (.slice f.x.A f.x.l.length f.x.c)).setCell ⟨b5, 1, none⟩ (.int .i64 f.s)) (fun _ => True)) := Lib.hid ⟨((hbl.noBytes2 (file_noB _ _ _ _) ok5.1).fr k6 (fun _ _ hz => hz)).mono (fun _ _ _ => trivial), ok5.2⟩
      have K6 : Hid (Fr (fun g => g = tb ∨ g = mb) w ((w5.setCell ⟨b5, 0, none⟩ (.slice f.x.A f.x.l.length f.x.c)).setCell ⟨b5, 1, none⟩ (.int .i64 f.s))) := Lib.hid ((K4.out.then_below hb5).trans k6 (fun x hx e => by have := K4.out.size; omega))
      have r5 := own_below R4.out hb5
      have R6 := Lib.hid (own_fr r5 k6 (fun g hg e => hbl.own_ne r5 (by decide) (by rw [hg, e])))
      have HK6 := Lib.hid (HK.out.fr K6.out HZ.out)
      have hmf : ∀ (fn : Fn) (first cap : Array Value) (W : World), (Instr.makeFunc fn first cap).run Try.prog W = .ok (.func fn first cap) W := fun _ _ _ _ => rfl
      have n0 := nb6.cell 0
      have p1 := fb.cell 1
      simp only [List.getElem?_toArray, List.getElem?_cons_zero, List.getElem?_cons_succ] at n0 p1
      have hn6 := nb6.lt
      clear h5 ok5 r5 nb H4 OK4 K4 R4 b4 hbl k6 hb5 c0
      go_upto_region 6 with (fail)
      generalize ((w5.setCell ⟨b5, 0, none⟩ (.slice f.x.A f.x.l.length f.x.c)).setCell ⟨b5, 1, none⟩ (.int .i64 f.s)) = w6 at *
      clear e0 e1 f0 f1
      have HIX := Lib.hid (index_any A c K n wr.heap.size Z w6 HK6.out n0 hn6)
      go_wp2_with fail
      refine HIX.out.mono ?_
      rintro e w7 ⟨⟨p, rfl, hp⟩, hb7⟩
      have H7 := Lib.hid (H6.out.below hb7)
      have nb7 := nb6.below hb7
      have fb7 := fb.below hb7
      have OK7 := Lib.hid (OK6.out.below hb7)
      have K7 := Lib.hid (K6.out.then_below hb7)
      have R7 := Lib.hid (own_below R6.out hb7)
      have HK7 := Lib.hid (HK6.out.below hb7)
      have b7 := H7.out.blk
      have hwn : (1 : Nat) = 1 := rfl
      clear H6 nb6 fb OK6 K6 R6 HK6 hb7 HIX n0 p1 hn6
      obtain ⟨mn, hmn⟩ : ∃ mn : Nat, manyS K n f.p = (mn : Int) := ⟨(manyS K n f.p).toNat, by have := HBD.out.1; omega⟩
      have hmle : mn ≤ f.x.l.length := by have := HBD.out.2.2; rw [hmn] at this; have h9 : f.p.1.length = f.x.l.length := rfl; omega
      have HMN := Lib.hid hmn
      have hcrash : crashF K (n, f.p) = (n, (cutF mn f).p) := by
        unfold crashF
        dsimp only
        rw [hmn]
        simp [cutF, FV.p]
      have HCR := Lib.hid hcrash
      rcases hp.out with ⟨rfl, hgk⟩ | ⟨j, hj, rfl, hgk⟩
      · have hms : f.s = (mn : Int) := by rw [← hmn]; unfold manyS; rw [hgk]; rfl
        clear hmn hcrash hgk hp
        generalize f.s = s at *
        subst hms
        go_upto_region 10 with (fail)
        clear hmf
        refine wp_region_b 12 (by kernel_rfl) (by kernel_rfl) ?_
        simp only [List.take_succ_cons, List.take_zero, List.drop_succ_cons, List.drop_zero]
        refine lb_move _ (by kernel_rfl) rfl ⟨_, (by ((try simp [go_sem]); (try rfl); done)), _, (by (simp only [Act.put, List.setIfInBounds_toArray, List.set_cons_zero, List.set_cons_succ]; rfl)), ?_⟩
        refine lb_val (by kernel_rfl) ⟨_, (by (intro w' hC; clear hC; (try go_simp); (try with_reducible rfl); done)), _, (by (simp only [Act.put, List.setIfInBounds_toArray, List.set_cons_zero, List.set_cons_succ]; rfl)), ?_⟩
        refine lb_val (by kernel_rfl) ⟨_, (by (intro w' hC; clear hC; (try go_simp); (try with_reducible rfl); done)), _, (by (simp only [Act.put, List.setIfInBounds_toArray, List.set_cons_zero, List.set_cons_succ]; rfl)), ?_⟩
        refine lb_val (by kernel_rfl) ⟨_, (by (intro w' hC; (have q0 := (b7.below hC).cell 0; simp only [List.getElem?_toArray, List.getElem?_cons_zero] at q0); clear hC; (try go_simp); (try with_reducible rfl); done)), _, (by (simp only [Act.put, List.setIfInBounds_toArray, List.set_cons_zero, List.set_cons_succ]; rfl)), ?_⟩
        refine lb_val (by kernel_rfl) ⟨_, (by (intro w' hC; (have n0 := (nb7.below hC).cell 0; simp only [List.getElem?_toArray, List.getElem?_cons_zero] at n0); clear hC; (try go_simp); (try with_reducible rfl); done)), _, (by (simp only [Act.put, List.setIfInBounds_toArray, List.set_cons_zero, List.set_cons_succ]; rfl)), ?_⟩
        refine lb_val (by kernel_rfl) ⟨_, (by (intro w' hC; clear hC; (try go_simp); (try with_reducible rfl); done)), _, (by (simp only [Act.put, List.setIfInBounds_toArray, List.set_cons_zero, List.set_cons_succ]; rfl)), ?_⟩
        refine lb_val (by kernel_rfl) ⟨_, (by (intro w' hC; (have p0 := (fb7.below hC).cell 0; simp only [List.getElem?_toArray, List.getElem?_cons_zero] at p0); clear hC; (try go_simp); (try with_reducible rfl); done)), _, (by (simp only [Act.put, List.setIfInBounds_toArray, List.set_cons_zero, List.set_cons_succ]; rfl)), ?_⟩
        refine lb_move _ (by kernel_rfl) rfl ⟨_, (by ((try simp [go_sem]); (try rfl); done)), _, (by (simp only [Act.put, List.setIfInBounds_toArray, List.set_cons_zero, List.set_cons_succ]; rfl)), ?_⟩
        refine lb_move _ (by kernel_rfl) rfl ⟨_, (by ((try simp [go_sem]); (try rfl); done)), _, (by (simp only [Act.put, List.setIfInBounds_toArray, List.set_cons_zero, List.set_cons_succ]; rfl)), ?_⟩
        refine lb_val (by kernel_rfl) ⟨_, (by (intro w' hC; (have hsl := fun W => slice_cut f.x.A f.x.l.length f.x.c mn (by have := OK7.out.2.1; omega) W); clear hC; (try go_simp); (try with_reducible rfl); done)), _, (by (simp only [Act.put, List.setIfInBounds_toArray, List.set_cons_zero, List.set_cons_succ]; rfl)), ?_⟩
        refine lb_move _ (by kernel_rfl) rfl ⟨_, (by ((try simp [go_sem]); (try rfl); done)), _, (by (simp only [Act.put, List.setIfInBounds_toArray, List.set_cons_zero, List.set_cons_succ]; rfl)), ?_⟩
        refine lb_val (by kernel_rfl) ⟨_, (by (intro w' hC; clear hC; (try go_simp); (try with_reducible rfl); done)), _, (by (simp only [Act.put, List.setIfInBounds_toArray, List.set_cons_zero, List.set_cons_succ]; rfl)), ?_⟩
        refine .nil ?_
        intro w8 hb8
        have h8 := H7.out.below hb8
        have hmlen : (mapD M).length < maxLen := by rw [mapD_len]; have := HML.out; simp only [maxLen]; omega
        obtain ⟨w9, hrun, hm9, hg9, _⟩ := h8.map.store Try.underlying3 Try.underlying50 n HWF.out (.agg #[.slice f.x.A mn mn, .int .i64 (mn : Int)]) hmlen
        have hcv : (cutF mn f).v = .agg #[.slice f.x.A mn mn, .int .i64 (mn : Int)] := by simp [FV.v, cutF, Nat.min_eq_left hmle]
        have h9 : DiskAt w9 tb mb (putZ M n (cutF mn f)) (midD D K (i + 1)) := h8.stored hg9 (by rw [mapD_put, hcv]; exact hm9) (fun x hx => by
          rcases putZ_mem hx with rfl | hx
          · exact cut_ok (OK7.out.below hb8) hmle
          · exact h8.ok x hx) (by
          show _ = _
          rw [HSP.out, ← HST.out, HCR.out, ← h8.plain.out]
          simp [plainD, List.map_set]) rfl rfl rfl
        have r8 := own_below R7.out hb8
        have k9 : Fr (fun x => x = mb) w8 w9 := Fr.of_grown hg9 (fun _ _ e => by injection e with e; exact e.symm)
        have R9 := Lib.hid (own_fr r8 k9 (fun g hg e => h8.ownD r8 (by decide) g hg (.inr e)))
        have K9 := Lib.hid ((K7.out.then_below hb8).trans k9 (fun _ _ e => .inr e))
        have H9 := Lib.hid h9
        clear h8 hm9 hg9 h9 r8 k9 hmlen b7 nb7 fb7 H7 R7 K7 hcv hb8
        go_wp2_with fail
        go_roundw
        case rel => exact ⟨i + 1, putZ M n (cutF mn f), hlt, by go_num, H9.out, R9.out, K9.out⟩
        case measure => simp [intOf]; omega
      · have hjb : decide ((j : Int) ≥ 0) = true := decide_eq_true (by omega)
        have hmv : min (max f.s K[j].2) (f.x.l.length : Int) = (mn : Int) := by
          rw [← hmn]
          unfold manyS
          rw [hgk]
          rfl
        obtain ⟨bk, ofk, hAk, hbk, k0, k1⟩ := HK7.out.at_ hj
        subst hAk
        generalize K[j].2 = kj at *
        clear hmn hcrash hgk hp k0
        go_upto_region 9 with (fail)
        clear hmf
        refine wp_region_b 12 (by kernel_rfl) (by kernel_rfl) ?_
        simp only [List.take_succ_cons, List.take_zero, List.drop_succ_cons, List.drop_zero]
        refine lb_move _ (by kernel_rfl) rfl ⟨_, (by ((try simp [go_sem]); (try rfl); done)), _, (by (simp only [Act.put, List.setIfInBounds_toArray, List.set_cons_zero, List.set_cons_succ]; rfl)), ?_⟩
        refine lb_move _ (by kernel_rfl) rfl ⟨_, (by ((try simp [go_sem]); (try rfl); done)), _, (by (simp only [Act.put, List.setIfInBounds_toArray, List.set_cons_zero, List.set_cons_succ]; rfl)), ?_⟩
        refine lb_move _ (by kernel_rfl) rfl ⟨_, (by ((try simp [go_sem]); (try rfl); done)), _, (by (simp only [Act.put, List.setIfInBounds_toArray, List.set_cons_zero, List.set_cons_succ]; rfl)), ?_⟩
        refine lb_val (by kernel_rfl) ⟨_, (by (intro w' hC; clear hC; (try go_simp); (try with_reducible rfl); done)), _, (by (simp only [Act.put, List.setIfInBounds_toArray, List.set_cons_zero, List.set_cons_succ]; rfl)), ?_⟩
        refine lb_val (by kernel_rfl) ⟨_, (by (intro w' hC; clear hC; (try go_simp); (try with_reducible rfl); done)), _, (by (simp only [Act.put, List.setIfInBounds_toArray, List.set_cons_zero, List.set_cons_succ]; rfl)), ?_⟩
        refine lb_val (by kernel_rfl) ⟨_, (by (intro w' hC; (have kb := cellAt hC hbk k1); clear hC; (try go_simp); (try with_reducible rfl); done)), _, (by (simp only [Act.put, List.setIfInBounds_toArray, List.set_cons_zero, List.set_cons_succ]; rfl)), ?_⟩
        refine lb_val (by kernel_rfl) ⟨_, (by (intro w' hC; clear hC; (try go_simp); (try with_reducible rfl); done)), _, (by (simp only [Act.put, List.setIfInBounds_toArray, List.set_cons_zero, List.set_cons_succ]; rfl)), ?_⟩
        refine lb_val (by kernel_rfl) ⟨_, (by (intro w' hC; clear hC; (try go_simp); (try with_reducible rfl); done)), _, (by (simp only [Act.put, List.setIfInBounds_toArray, List.set_cons_zero, List.set_cons_succ]; rfl)), ?_⟩
        refine lb_val (by kernel_rfl) ⟨_, (by (intro w' hC; (have p0 := (fb7.below hC).cell 0; simp only [List.getElem?_toArray, List.getElem?_cons_zero] at p0); clear hC; (try go_simp); (try with_reducible rfl); done)), _, (by (simp only [Act.put, List.setIfInBounds_toArray, List.set_cons_zero, List.set_cons_succ]; rfl)), ?_⟩
        refine lb_val (by kernel_rfl) ⟨_, (by (intro w' hC; clear hC; (try go_simp); (try with_reducible rfl); done)), _, (by (simp only [Act.put, List.setIfInBounds_toArray, List.set_cons_zero, List.set_cons_succ]; rfl)), ?_⟩
        refine lb_val (by kernel_rfl) ⟨_, (by (intro w' hC; clear hC; (try go_simp); (try with_reducible rfl); done)), _, (by (simp only [Act.put, List.setIfInBounds_toArray, List.set_cons_zero, List.set_cons_succ]; rfl)), ?_⟩
        refine lb_assign _ (by kernel_rfl) rfl ⟨_, (by ((try simp [go_sem]); (try rfl); done)), _, (by (simp only [Act.put, List.setIfInBounds_toArray, List.set_cons_zero, List.set_cons_succ]; rfl)), ?_⟩
        refine .nil ?_
        intro w8 hb8
        have H8 := Lib.hid (H7.out.below hb8)
        have nb8 := nb7.below hb8
        have fb8 := fb7.below hb8
        have OK8 := Lib.hid (OK7.out.below hb8)
        have K8 := Lib.hid (K7.out.then_below hb8)
        have R8 := Lib.hid (own_below R7.out hb8)
        have b8 := H8.out.blk
        clear H7 nb7 fb7 OK7 K7 R7 b7 hb8 HK7 k1 hmv
        have H7 := H8
        have nb7 := nb8
        have fb7 := fb8
        have OK7 := OK8
        have K7 := K8
        have R7 := R8
        have b7 := b8
        clear H8 nb8 fb8 OK8 K8 R8 b8
        go_upto_region 10 with (fail)
        refine wp_region_b 12 (by kernel_rfl) (by kernel_rfl) ?_
        simp only [List.take_succ_cons, List.take_zero, List.drop_succ_cons, List.drop_zero]
        refine lb_move _ (by kernel_rfl) rfl ⟨_, (by ((try simp [go_sem]); (try rfl); done)), _, (by (simp only [Act.put, List.setIfInBounds_toArray, List.set_cons_zero, List.set_cons_succ]; rfl)), ?_⟩
        refine lb_val (by kernel_rfl) ⟨_, (by (intro w' hC; clear hC; (try go_simp); (try with_reducible rfl); done)), _, (by (simp only [Act.put, List.setIfInBounds_toArray, List.set_cons_zero, List.set_cons_succ]; rfl)), ?_⟩
        refine lb_val (by kernel_rfl) ⟨_, (by (intro w' hC; clear hC; (try go_simp); (try with_reducible rfl); done)), _, (by (simp only [Act.put, List.setIfInBounds_toArray, List.set_cons_zero, List.set_cons_succ]; rfl)), ?_⟩
        refine lb_val (by kernel_rfl) ⟨_, (by (intro w' hC; (have q0 := (b7.below hC).cell 0; simp only [List.getElem?_toArray, List.getElem?_cons_zero] at q0); clear hC; (try go_simp); (try with_reducible rfl); done)), _, (by (simp only [Act.put, List.setIfInBounds_toArray, List.set_cons_zero, List.set_cons_succ]; rfl)), ?_⟩
        refine lb_val (by kernel_rfl) ⟨_, (by (intro w' hC; (have n0 := (nb7.below hC).cell 0; simp only [List.getElem?_toArray, List.getElem?_cons_zero] at n0); clear hC; (try go_simp); (try with_reducible rfl); done)), _, (by (simp only [Act.put, List.setIfInBounds_toArray, List.set_cons_zero, List.set_cons_succ]; rfl)), ?_⟩
        refine lb_val (by kernel_rfl) ⟨_, (by (intro w' hC; clear hC; (try go_simp); (try with_reducible rfl); done)), _, (by (simp only [Act.put, List.setIfInBounds_toArray, List.set_cons_zero, List.set_cons_succ]; rfl)), ?_⟩
        refine lb_val (by kernel_rfl) ⟨_, (by (intro w' hC; (have p0 := (fb7.below hC).cell 0; simp only [List.getElem?_toArray, List.getElem?_cons_zero] at p0); clear hC; (try go_simp); (try with_reducible rfl); done)), _, (by (simp only [Act.put, List.setIfInBounds_toArray, List.set_cons_zero, List.set_cons_succ]; rfl)), ?_⟩
        refine lb_move _ (by kernel_rfl) rfl ⟨_, (by ((try simp [go_sem]); (try rfl); done)), _, (by (simp only [Act.put, List.setIfInBounds_toArray, List.set_cons_zero, List.set_cons_succ]; rfl)), ?_⟩
        refine lb_move _ (by kernel_rfl) rfl ⟨_, (by ((try simp [go_sem]); (try rfl); done)), _, (by (simp only [Act.put, List.setIfInBounds_toArray, List.set_cons_zero, List.set_cons_succ]; rfl)), ?_⟩
        refine lb_val (by kernel_rfl) ⟨_, (by (intro w' hC; (have hsl := fun W => slice_cut f.x.A f.x.l.length f.x.c mn (by have := OK7.out.2.1; omega) W); clear hC; (try go_simp); (try with_reducible rfl); done)), _, (by (simp only [Act.put, List.setIfInBounds_toArray, List.set_cons_zero, List.set_cons_succ]; rfl)), ?_⟩
        refine lb_move _ (by kernel_rfl) rfl ⟨_, (by ((try simp [go_sem]); (try rfl); done)), _, (by (simp only [Act.put, List.setIfInBounds_toArray, List.set_cons_zero, List.set_cons_succ]; rfl)), ?_⟩
        refine lb_val (by kernel_rfl) ⟨_, (by (intro w' hC; clear hC; (try go_simp); (try with_reducible rfl); done)), _, (by (simp only [Act.put, List.setIfInBounds_toArray, List.set_cons_zero, List.set_cons_succ]; rfl)), ?_⟩
        refine .nil ?_
        intro w8 hb8
        have h8 := H7.out.below hb8
        have hmlen : (mapD M).length < maxLen := by rw [mapD_len]; have := HML.out; simp only [maxLen]; omega
        obtain ⟨w9, hrun, hm9, hg9, _⟩ := h8.map.store Try.underlying3 Try.underlying50 n HWF.out (.agg #[.slice f.x.A mn mn, .int .i64 (mn : Int)]) hmlen
        have hcv : (cutF mn f).v = .agg #[.slice f.x.A mn mn, .int .i64 (mn : Int)] := by simp [FV.v, cutF, Nat.min_eq_left hmle]
        have h9 : DiskAt w9 tb mb (putZ M n (cutF mn f)) (midD D K (i + 1)) := h8.stored hg9 (by rw [mapD_put, hcv]; exact hm9) (fun x hx => by
          rcases putZ_mem hx with rfl | hx
          · exact cut_ok (OK7.out.below hb8) hmle
          · exact h8.ok x hx) (by
          show _ = _
          rw [HSP.out, ← HST.out, HCR.out, ← h8.plain.out]
          simp [plainD, List.map_set]) rfl rfl rfl
        have r8 := own_below R7.out hb8
        have k9 : Fr (fun x => x = mb) w8 w9 := Fr.of_grown hg9 (fun _ _ e => by injection e with e; exact e.symm)
        have R9 := Lib.hid (own_fr r8 k9 (fun g hg e => h8.ownD r8 (by decide) g hg (.inr e)))
        have K9 := Lib.hid ((K7.out.then_below hb8).trans k9 (fun _ _ e => .inr e))
        have H9 := Lib.hid h9
        clear h8 hm9 hg9 h9 r8 k9 hmlen b7 nb7 fb7 H7 R7 K7 hcv hb8
        go_wp2_with fail
        go_roundw
        case rel => exact ⟨i + 1, putZ M n (cutF mn f), hlt, by go_num, H9.out, R9.out, K9.out⟩
        case measure => simp [intOf]; omega
    · have e : i = D.L.length := by rw [← HLL.out]; omega
      rw [e, mid_end] at hM
      clear hr
      go_wp2_with fail
      go_end0
      exact ⟨rfl, ⟨_, hM⟩, hf⟩

end Go.Proofs.Ytmdbfhfjaapeoaa
