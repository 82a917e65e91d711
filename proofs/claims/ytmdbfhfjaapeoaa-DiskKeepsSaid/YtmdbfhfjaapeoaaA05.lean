/- tenderref11: Make. -/
import Derived.Test.YtmdbfhfjaapeoaaA04

namespace Go.Proofs.Ytmdbfhfjaapeoaa
open Go.RowKit Go.Maps

theorem wp_append_files {w : World} {o : Oper} {a : Act} {K : Act → World → Prop} {Q : Exit → Act → World → Prop} (s x : Operand)
    (ho : o.op = .call { callee := .builtin .append, args := #[s, x], argTypes := #[36, 36] })
    {base : Nat} {A A2 : Option Addr} {c c2 : Nat} {L N : List (Int × FV)} (hs : a.eval s = .slice A L.length c) (hown : OwF w base A c L) (hx : a.eval x = .slice A2 N.length c2) (hr : Rd w (fun _ => True) 3 A2 N.length (N.flatMap fileC))
    (hsum : L.length + N.length ≤ 1099511627776) (hbase : base ≤ w.heap.size)
    (h : ∀ (A' : Option Addr) (c' : Nat) (w' : World), OwF w' base A' c' (L ++ N) → Below base w w' → (∀ k, k < w.heap.size → (Value.slice A L.length c).ownBlock ≠ some k → w'.heap[k]? = w.heap[k]?) → K (a.put o.dst (.slice A' (L.length + N.length) c')) w') : o.wp Try.prog a w K Q := by
  obtain ⟨i0, hi0, hz0, hz1, hz2⟩ := info_parts reffile_info
  refine wp_append_any w s x _ ho base 84 i0 _ 3 40 Try.underlying36 hi0 hz0 hz1 hz2 rfl (by omega) (.slice A L.length c) L.length (L.flatMap fileC) hs hown _ A2 N.length c2 (N.flatMap fileC) hx hr (fun u hu => fileC_one N u hu) (by simp only [maxLen]; omega) (by omega) hbase ?_
  intro v' w' h1 h2 h3
  obtain ⟨A', c', rfl, _⟩ := own_form h1
  have hb := grown_belowD h2 hbase (fun g e => (hown.lt g e).1)
  refine h A' c' w' ?_ hb (fun k hk hne => h2.block k hk (fun e => hne e.symm))
  unfold OwF
  rw [List.length_append, List.flatMap_append]
  exact h1
theorem rd_lit_at (w : World) (t : TypeId) (xs : List Value) (o : Obj) (ho : o = .cells xs.toArray t) {n size : Nat} (h : xs.length = n * size := by simp) : Rd (w.alloc o) (fun b => b = w.heap.size) size (some ⟨w.heap.size, 0, none⟩) n xs := by
  subst ho
  have x0 := Blk.new w t xs.toArray
  refine ⟨h, fun _ => ⟨w.heap.size, 0, rfl, rfl, x0.lt, fun j u hu => ?_⟩⟩
  rw [x0.cell, Nat.zero_add]
  simpa using hu
theorem rd_fr_own {w w' : World} {base n size m sz : Nat} {e : TypeId} {v : Value} {xs : List Value} {g : Nat} {ys : List Value} (h : Rd w (fun b => b = g) sz (some ⟨g, 0, none⟩) m ys) (hk : ∀ k, k < w.heap.size → v.ownBlock ≠ some k → w'.heap[k]? = w.heap[k]?) (hb : Below base w w') (hne : v.ownBlock ≠ some g) (_ : w.ownsRow base e size v n xs) : Rd w' (fun b => b = g) sz (some ⟨g, 0, none⟩) m ys :=
  h.fr (S := fun k => v.ownBlock = some k) ⟨hb.os, hb.tape, hb.output, hb.size, hk⟩ (fun b _ hz e => hne (by rw [e, hz]))


set_option maxRecDepth 100000 in
set_option maxHeartbeats 2000000 in
theorem refMake_any (A : Option Addr) (c : Nat) (L : List (Int × FV)) (D : DP) (k : Nat) (w : World) (h : Fls w A L) (hc : L.length ≤ c) (hp : plainD L = D.L) (hok : DOk D k) (hk : k < 1000000) :
    Calls Try.prog 30 #[refV A L.length c D.last D.room D.left] w fun e w' => (∃ A' c' L', e = .returned (.tuple #[refV A' L'.length c' (makeS D).1.last (makeS D).1.room (makeS D).1.left, .int .i64 (makeS D).2.1, .int .i64 (makeS D).2.2]) ∧ Fls w' A' L' ∧ L'.length ≤ c' ∧ Hid (plainD L' = (makeS D).1.L)) ∧ Below w.heap.size w w' := by
  have HF := Lib.hid h
  have HRM := Lib.hid hc
  clear hc
  have hll : L.length ≤ k := by rw [← plainD_len, hp]; exact hok.len
  have hw2 : Below w.heap.size w ((w.alloc (.cells #[.slice A L.length c, .int .i64 D.last, .int .i64 D.room, .int .i64 D.left] 38)).alloc (.cells #[.slice none 0 0, .int .i64 0, .int .i64 0, .int .i64 0] 38)) := ((Below.refl _ _).alloc (Nat.le_refl _) _).alloc (by simp) _
  have x0 : Blk ((w.alloc (.cells #[.slice A L.length c, .int .i64 D.last, .int .i64 D.room, .int .i64 D.left] 38)).alloc (.cells #[.slice none 0 0, .int .i64 0, .int .i64 0, .int .i64 0] 38)) w.heap.size 38 #[.slice A L.length c, .int .i64 D.last, .int .i64 D.room, .int .i64 D.left] := (Blk.new w 38 #[.slice A L.length c, .int .i64 D.last, .int .i64 D.room, .int .i64 D.left]).below ((Below.refl _ _).alloc (Nat.le_refl _) _)
  have x1 : Blk ((w.alloc (.cells #[.slice A L.length c, .int .i64 D.last, .int .i64 D.room, .int .i64 D.left] 38)).alloc (.cells #[.slice none 0 0, .int .i64 0, .int .i64 0, .int .i64 0] 38)) (w.heap.size + 1) 38 #[.slice none 0 0, .int .i64 0, .int .i64 0, .int .i64 0] := by
    have := Blk.new (w.alloc (.cells #[.slice A L.length c, .int .i64 D.last, .int .i64 D.room, .int .i64 D.left] 38)) 38 #[.slice none 0 0, .int .i64 0, .int .i64 0, .int .i64 0]
    rwa [show (w.alloc (.cells #[.slice A L.length c, .int .i64 D.last, .int .i64 D.room, .int .i64 D.left] 38)).heap.size = w.heap.size + 1 by simp] at this
  have s2 : ((w.alloc (.cells #[.slice A L.length c, .int .i64 D.last, .int .i64 D.room, .int .i64 D.left] 38)).alloc (.cells #[.slice none 0 0, .int .i64 0, .int .i64 0, .int .i64 0] 38)).heap.size = w.heap.size + 2 := by simp
  have HP := Lib.hid hp
  have HO := Lib.hid hok
  have hla := hok.last
  have hlf := hok.left
  by_cases hl : D.left = 0
  · have hm : makeS D = (D, 0, 25) := by unfold makeS; rw [if_pos hl]
    rw [hm]
    simp only [hl] at x0 x1 hw2 s2 ⊢
    clear h hp hok hm hl hlf HO
    go_enter Try.func30, Try.ntmps30
    go_upto_region 1 with (fail)
    generalize ((w.alloc (.cells #[.slice A L.length c, .int .i64 D.last, .int .i64 D.room, .int .i64 0] 38)).alloc (.cells #[.slice none 0 0, .int .i64 0, .int .i64 0, .int .i64 0] 38)) = w2 at *
    have p0 := x0.cell 0
    have p1 := x0.cell 1
    have p2 := x0.cell 2
    have p3 := x0.cell 3
    simp only [List.getElem?_toArray, List.getElem?_cons_zero, List.getElem?_cons_succ] at p0 p1 p2 p3
    have r0 := x1.cell 0
    have r1 := x1.cell 1
    have r2 := x1.cell 2
    have r3 := x1.cell 3
    simp only [List.getElem?_toArray, List.getElem?_cons_zero, List.getElem?_cons_succ] at r0 r1 r2 r3
    have fr := fun o => x1.frozen o
    go_wp2_with fail
    have kR : Fr (fun x => x = w.heap.size + 1) w2 ((((w2.setCell ⟨w.heap.size + 1, 0, none⟩ (.slice A L.length c)).setCell ⟨w.heap.size + 1, 1, none⟩ (.int .i64 D.last)).setCell ⟨w.heap.size + 1, 2, none⟩ (.int .i64 D.room)).setCell ⟨w.heap.size + 1, 3, none⟩ (.int .i64 0)) := (((((Fr.refl (fun x => x = w.heap.size + 1) w2).setAt (w.heap.size + 1) _ rfl _).setAt (w.heap.size + 1) _ rfl _).setAt (w.heap.size + 1) _ rfl _).setAt (w.heap.size + 1) _ rfl _)
    have yR := ((((x1.set_ 0 (.slice A L.length c)).set_ 1 (.int .i64 D.last)).set_ 2 (.int .i64 D.room)).set_ 3 (.int .i64 0))
    simp only [List.setIfInBounds_toArray, List.set_cons_zero, List.set_cons_succ] at yR
    have hwR : Below w.heap.size w ((((w2.setCell ⟨w.heap.size + 1, 0, none⟩ (.slice A L.length c)).setCell ⟨w.heap.size + 1, 1, none⟩ (.int .i64 D.last)).setCell ⟨w.heap.size + 1, 2, none⟩ (.int .i64 D.room)).setCell ⟨w.heap.size + 1, 3, none⟩ (.int .i64 0)) := hw2.trans (kR.below (B := w.heap.size) hw2.size (fun k hk e => by omega))
    generalize ((((w2.setCell ⟨w.heap.size + 1, 0, none⟩ (.slice A L.length c)).setCell ⟨w.heap.size + 1, 1, none⟩ (.int .i64 D.last)).setCell ⟨w.heap.size + 1, 2, none⟩ (.int .i64 D.room)).setCell ⟨w.heap.size + 1, 3, none⟩ (.int .i64 0)) = wR at *
    have s0 := yR.cell 0
    have s1 := yR.cell 1
    have s2 := yR.cell 2
    have s3 := yR.cell 3
    simp only [List.getElem?_toArray, List.getElem?_cons_zero, List.getElem?_cons_succ] at s0 s1 s2 s3
    refine bodyPost_ret (v := .tuple #[refV A L.length c D.last D.room 0, .int .i64 0, .int .i64 25]) (by simp [results, Try.results30, go_sem, s0, s1, s2, s3]) rfl ?_
    refine ⟨⟨A, c, L, rfl, HF.out.below hwR, HRM.out, HP⟩, hwR⟩
  · have hlb : (D.left == 0) = false := by simpa using hl
    have hw := IntWalk.wrap64_in (D.last + 1) ⟨by omega, by omega⟩
    clear h hp hok
    go_enter Try.func30, Try.ntmps30
    go_upto_region 1 with (fail)
    generalize ((w.alloc (.cells #[.slice A L.length c, .int .i64 D.last, .int .i64 D.room, .int .i64 D.left] 38)).alloc (.cells #[.slice none 0 0, .int .i64 0, .int .i64 0, .int .i64 0] 38)) = w2 at *
    have p0 := x0.cell 0
    have p1 := x0.cell 1
    have p2 := x0.cell 2
    have p3 := x0.cell 3
    simp only [List.getElem?_toArray, List.getElem?_cons_zero, List.getElem?_cons_succ] at p0 p1 p2 p3
    have f1 := x0.frozen 1
    go_upto_region 4 with (fail)
    have k3 : Fr (fun x => x = w.heap.size) w2 (w2.setCell ⟨w.heap.size, 1, none⟩ (.int .i64 (D.last + 1))) := (Fr.refl (fun x => x = w.heap.size) w2).setAt w.heap.size 1 rfl _
    have hw3 : Below w.heap.size w (w2.setCell ⟨w.heap.size, 1, none⟩ (.int .i64 (D.last + 1))) := hw2.trans (k3.below (B := w.heap.size) hw2.size (fun k hk e => by omega))
    have y0 := x0.set_ 1 (.int .i64 (D.last + 1))
    simp only [List.setIfInBounds_toArray, List.set_cons_zero, List.set_cons_succ] at y0
    have y1 := x1.fr k3 (by omega)
    have s3 : (w2.setCell ⟨w.heap.size, 1, none⟩ (.int .i64 (D.last + 1))).heap.size = w.heap.size + 2 := by simpa [World.setCell] using s2
    generalize w2.setCell ⟨w.heap.size, 1, none⟩ (.int .i64 (D.last + 1)) = w3 at *
    clear k3 p0 p1 p2 p3 f1 x0 x1 s2 hw2
    obtain ⟨y, hy⟩ : ∃ y : Int × FV, y = (D.last + 1, ⟨⟨none, 0, []⟩, 0⟩) := ⟨_, rfl⟩
    have hyc : [y].flatMap fileC = [.int .i64 (D.last + 1), .slice none 0 0, .int .i64 0] := by rw [hy]; rfl
    have HFD := Lib.hid (HF.out.below hw3)
    refine wp_region_plan (.tell 1 (.tell 2 (.tell 4 (.tell 5 (.tell 6 (.two 0 (.two 3 (.one 7 (.one 8 .done)) 7 (.one 3 (.one 8 .done))) 7 (.one 0 (.one 3 (.one 8 .done))))))))) (fun W => Below w3.heap.size w3 W)
      (fun a' w' => ∃ v13 v16 v20 A' c', a' = { tmps := #[refV A L.length c D.last D.room D.left, .pointer (some ⟨w.heap.size, 0, none⟩), .pointer (some ⟨w.heap.size + 1, 0, none⟩), .int .i64 0, .int .i64 0, .pointer (some ⟨w.heap.size, 3, none⟩), .int .i64 D.left, .bool false, undef, .pointer (some ⟨w.heap.size, 1, none⟩), .int .i64 D.last, .int .i64 (D.last + 1), .pointer (some ⟨w.heap.size, 1, none⟩), v13, .pointer (some ⟨w.heap.size, 0, none⟩), .slice A L.length c, v16, .pointer (some ⟨w.heap.size, 1, none⟩), .int .i64 (D.last + 1), .agg #[.int .i64 (D.last + 1), .slice none 0 0, .int .i64 0], v20, .slice A' (L.length + 1) c', undef, undef, undef, undef, undef], defers := [] } ∧ OwF w' w3.heap.size A' c' (L ++ [y]) ∧ Below w3.heap.size w3 w')
      (by kernel_rfl) (by kernel_rfl) ?_ ?_
    · have hB : Below w3.heap.size w3 w3.drew := (Below.refl _ _).drew
      have HF0 : Hid (Fls w3.drew A L) := Lib.hid (HFD.out.below (Below.refl _ _).drew)
      refine pl_val (by (simp only [List.getElem?_toArray, List.getElem?_cons_succ, List.getElem?_cons_zero]; rfl)) (by kernel_rfl) ⟨_, (by (intro w' hC; clear hC; (try go_simp); (try with_reducible rfl); done)), _, (by (simp only [Act.put, List.setIfInBounds_toArray, List.set_cons_zero, List.set_cons_succ]; rfl)), ?_⟩
      refine pl_val (by (simp only [List.getElem?_toArray, List.getElem?_cons_succ, List.getElem?_cons_zero]; rfl)) (by kernel_rfl) ⟨_, (by (intro w' hC; have q := (y0.below hC).cell 0; simp only [List.getElem?_toArray, List.getElem?_cons_zero] at q; clear hC; (try go_simp); (try with_reducible rfl); done)), _, (by (simp only [Act.put, List.setIfInBounds_toArray, List.set_cons_zero, List.set_cons_succ]; rfl)), ?_⟩
      refine pl_val (by (simp only [List.getElem?_toArray, List.getElem?_cons_succ, List.getElem?_cons_zero]; rfl)) (by kernel_rfl) ⟨_, (by (intro w' hC; clear hC; (try go_simp); (try with_reducible rfl); done)), _, (by (simp only [Act.put, List.setIfInBounds_toArray, List.set_cons_zero, List.set_cons_succ]; rfl)), ?_⟩
      refine pl_val (by (simp only [List.getElem?_toArray, List.getElem?_cons_succ, List.getElem?_cons_zero]; rfl)) (by kernel_rfl) ⟨_, (by (intro w' hC; have q := (y0.below hC).cell 1; simp only [List.getElem?_toArray, List.getElem?_cons_zero, List.getElem?_cons_succ] at q; clear hC; (try go_simp); (try with_reducible rfl); done)), _, (by (simp only [Act.put, List.setIfInBounds_toArray, List.set_cons_zero, List.set_cons_succ]; rfl)), ?_⟩
      refine pl_val (by (simp only [List.getElem?_toArray, List.getElem?_cons_succ, List.getElem?_cons_zero]; rfl)) (by kernel_rfl) ⟨_, (by (intro w' hC; clear hC; (try go_simp); (try with_reducible rfl); done)), _, (by (simp only [Act.put, List.setIfInBounds_toArray, List.set_cons_zero, List.set_cons_succ]; rfl)), ?_⟩
      generalize w3.drew = wd at *
      refine pl_two (by (simp only [List.getElem?_toArray, List.getElem?_cons_zero]; rfl)) (by (simp only [List.getElem?_toArray, List.getElem?_cons_succ, List.getElem?_cons_zero]; rfl)) hB ?_ ?_
      · -- the empty row first
        refine al_val (by kernel_rfl) ⟨_, _, (by (go_simp; first | done | exact ⟨rfl, rfl⟩)), _, (by (simp only [Act.put, List.setIfInBounds_toArray, List.set_cons_zero, List.set_cons_succ]; rfl)), ?_⟩
        have own : OwF (wd.alloc (.cells #[] 84)) w3.heap.size (some ⟨wd.heap.size, 0, none⟩) 0 [] := World.ownsRow_lit (base := w3.heap.size) (e := 84) (size := 3) wd #[] 0 hB.size (by simp [maxLen]) (by simp)
        have hba : Below wd.heap.size wd (wd.alloc (.cells #[] 84)) := (Below.refl _ _).alloc (Nat.le_refl _) _
        replace hB := hB.trans (hba.mono hB.size)
        clear hba HF0
        have HF0 := Lib.hid (HFD.out.below hB)
        generalize wd.alloc (.cells #[] 84) = W1 at *
        refine pl_two (by (simp only [List.getElem?_toArray, List.getElem?_cons_succ, List.getElem?_cons_zero]; rfl)) (by (simp only [List.getElem?_toArray, List.getElem?_cons_succ, List.getElem?_cons_zero]; rfl)) hB ?_ ?_
        · -- d.L behind it
          refine al_wp (by kernel_rfl) (wp_append_files (.tmp 13) (.tmp 15) rfl rfl own rfl HF0.out.rd (by simp; omega) hB.size ?_)
          intro A6 c6 w6 own6 hb6 hk6
          replace hB := hB.trans hb6
          clear own hb6 hk6 HF0
          have HF0 := Lib.hid (HFD.out.below hB)
          have own := own6
          clear own6
          rw [List.nil_append] at own
          simp only [Act.put, List.setIfInBounds_toArray, List.set_cons_zero, List.set_cons_succ, List.length_nil, Nat.zero_add]
          refine pl_one (by (simp only [List.getElem?_toArray, List.getElem?_cons_succ, List.getElem?_cons_zero]; rfl)) hB ?_
          refine al_val (by kernel_rfl) ⟨_, _, (by (go_simp; first | done | exact ⟨rfl, rfl⟩)), _, (by (simp only [Act.put, List.setIfInBounds_toArray, List.set_cons_zero, List.set_cons_succ]; rfl)), ?_⟩
          have ry : Rd (w6.alloc (.cells #[.int .i64 (D.last + 1), .slice none 0 0, .int .i64 0] 84)) (fun b => b = w6.heap.size) 3 (some ⟨w6.heap.size, 0, none⟩) 1 ([y].flatMap fileC) := by
            rw [hyc]
            exact rd_lit_at w6 84 _ _ rfl
          have hba : Below w6.heap.size w6 (w6.alloc (.cells #[.int .i64 (D.last + 1), .slice none 0 0, .int .i64 0] 84)) := (Below.refl _ _).alloc (Nat.le_refl _) _
          have hne : ∀ b, (Value.slice A6 L.length c6).ownBlock = some b → b < w6.heap.size := fun b hb => (own.lt b hb).2
          have own := own_below own hba
          replace hB := hB.trans (hba.mono hB.size)
          clear hba HF0
          have HF0 := Lib.hid (HFD.out.below hB)
          have hg7 : w6.heap.size < (w6.alloc (.cells #[.int .i64 (D.last + 1), .slice none 0 0, .int .i64 0] 84)).heap.size := by simp
          generalize w6.alloc (.cells #[.int .i64 (D.last + 1), .slice none 0 0, .int .i64 0] 84) = W2 at *
          generalize hg : w6.heap.size = g7 at *
          refine pl_one (by (simp only [List.getElem?_toArray, List.getElem?_cons_succ, List.getElem?_cons_zero]; rfl)) hB ?_
          refine al_wp (by kernel_rfl) (wp_append_files (N := [y]) (.tmp 16) (.tmp 20) rfl rfl own rfl (ry.mono (fun _ _ _ => trivial)) (by simp; omega) hB.size ?_)
          intro A8 c8 w8 own8 hb8 hk8
          replace hB := hB.trans hb8
          simp only [Act.put, List.setIfInBounds_toArray, List.set_cons_zero, List.set_cons_succ, List.length_cons, List.length_nil, Nat.zero_add]
          exact pl_end hB ⟨_, _, _, _, _, rfl, own8, hB⟩
        · have hwd := own.lt _ rfl
          refine al_val (by kernel_rfl) ⟨_, _, (by (go_simp; first | done | exact ⟨rfl, rfl⟩)), _, (by (simp only [Act.put, List.setIfInBounds_toArray, List.set_cons_zero, List.set_cons_succ]; rfl)), ?_⟩
          have ry : Rd (W1.alloc (.cells #[.int .i64 (D.last + 1), .slice none 0 0, .int .i64 0] 84)) (fun b => b = W1.heap.size) 3 (some ⟨W1.heap.size, 0, none⟩) 1 ([y].flatMap fileC) := by
            rw [hyc]
            exact rd_lit_at W1 84 _ _ rfl
          have hba : Below W1.heap.size W1 (W1.alloc (.cells #[.int .i64 (D.last + 1), .slice none 0 0, .int .i64 0] 84)) := (Below.refl _ _).alloc (Nat.le_refl _) _
          have hne : ∀ b, (Value.slice (some ⟨wd.heap.size, 0, none⟩) ([] : List (Int × FV)).length 0).ownBlock = some b → b < W1.heap.size := fun b hb => (own.lt b hb).2
          have own := own_below own hba
          replace hB := hB.trans (hba.mono hB.size)
          clear hba HF0
          have HF0 := Lib.hid (HFD.out.below hB)
          have hg7 : W1.heap.size < (W1.alloc (.cells #[.int .i64 (D.last + 1), .slice none 0 0, .int .i64 0] 84)).heap.size := by simp
          generalize W1.alloc (.cells #[.int .i64 (D.last + 1), .slice none 0 0, .int .i64 0] 84) = W2 at *
          generalize hg : W1.heap.size = g7 at *
          refine pl_one (by (simp only [List.getElem?_toArray, List.getElem?_cons_succ, List.getElem?_cons_zero]; rfl)) hB ?_
          refine al_wp (by kernel_rfl) (wp_append_files (.tmp 13) (.tmp 15) rfl rfl own rfl HF0.out.rd (by simp; omega) hB.size ?_)
          intro A6 c6 w6 own6 hb6 hk6
          have ry := rd_fr_own ry hk6 hb6 (fun e => by have := hne _ e; omega) own
          replace hB := hB.trans hb6
          clear own hb6 hk6 HF0
          have HF0 := Lib.hid (HFD.out.below hB)
          have own := own6
          clear own6
          rw [List.nil_append] at own
          simp only [Act.put, List.setIfInBounds_toArray, List.set_cons_zero, List.set_cons_succ, List.length_nil, Nat.zero_add]
          refine pl_one (by (simp only [List.getElem?_toArray, List.getElem?_cons_succ, List.getElem?_cons_zero]; rfl)) hB ?_
          refine al_wp (by kernel_rfl) (wp_append_files (N := [y]) (.tmp 16) (.tmp 20) rfl rfl own rfl (ry.mono (fun _ _ _ => trivial)) (by simp; omega) hB.size ?_)
          intro A8 c8 w8 own8 hb8 hk8
          replace hB := hB.trans hb8
          simp only [Act.put, List.setIfInBounds_toArray, List.set_cons_zero, List.set_cons_succ, List.length_cons, List.length_nil, Nat.zero_add]
          exact pl_end hB ⟨_, _, _, _, _, rfl, own8, hB⟩
      · -- the new file's row first
        refine al_val (by kernel_rfl) ⟨_, _, (by (go_simp; first | done | exact ⟨rfl, rfl⟩)), _, (by (simp only [Act.put, List.setIfInBounds_toArray, List.set_cons_zero, List.set_cons_succ]; rfl)), ?_⟩
        have ry : Rd (wd.alloc (.cells #[.int .i64 (D.last + 1), .slice none 0 0, .int .i64 0] 84)) (fun b => b = wd.heap.size) 3 (some ⟨wd.heap.size, 0, none⟩) 1 ([y].flatMap fileC) := by
          rw [hyc]
          exact rd_lit_at wd 84 _ _ rfl
        have hba : Below wd.heap.size wd (wd.alloc (.cells #[.int .i64 (D.last + 1), .slice none 0 0, .int .i64 0] 84)) := (Below.refl _ _).alloc (Nat.le_refl _) _
        replace hB := hB.trans (hba.mono hB.size)
        clear hba HF0
        have HF0 := Lib.hid (HFD.out.below hB)
        have hg7 : wd.heap.size < (wd.alloc (.cells #[.int .i64 (D.last + 1), .slice none 0 0, .int .i64 0] 84)).heap.size := by simp
        generalize wd.alloc (.cells #[.int .i64 (D.last + 1), .slice none 0 0, .int .i64 0] 84) = W1 at *
        generalize hg : wd.heap.size = g7 at *
        refine pl_one (by (simp only [List.getElem?_toArray, List.getElem?_cons_zero]; rfl)) hB ?_
        refine al_val (by kernel_rfl) ⟨_, _, (by (go_simp; first | done | exact ⟨rfl, rfl⟩)), _, (by (simp only [Act.put, List.setIfInBounds_toArray, List.set_cons_zero, List.set_cons_succ]; rfl)), ?_⟩
        have own : OwF (W1.alloc (.cells #[] 84)) w3.heap.size (some ⟨W1.heap.size, 0, none⟩) 0 [] := World.ownsRow_lit (base := w3.heap.size) (e := 84) (size := 3) W1 #[] 0 hB.size (by simp [maxLen]) (by simp)
        have hba : Below W1.heap.size W1 (W1.alloc (.cells #[] 84)) := (Below.refl _ _).alloc (Nat.le_refl _) _
        have ry := ry.below hba
        have hne : (Value.slice (some ⟨W1.heap.size, 0, none⟩) ([] : List (Int × FV)).length 0).ownBlock ≠ some g7 := by simp [Value.ownBlock]; omega
        replace hB := hB.trans (hba.mono hB.size)
        clear hba HF0
        have HF0 := Lib.hid (HFD.out.below hB)
        generalize W1.alloc (.cells #[] 84) = W2 at *
        refine pl_one (by (simp only [List.getElem?_toArray, List.getElem?_cons_succ, List.getElem?_cons_zero]; rfl)) hB ?_
        refine al_wp (by kernel_rfl) (wp_append_files (.tmp 13) (.tmp 15) rfl rfl own rfl HF0.out.rd (by simp; omega) hB.size ?_)
        intro A6 c6 w6 own6 hb6 hk6
        have ry := rd_fr_own ry hk6 hb6 hne own
        replace hB := hB.trans hb6
        clear own hb6 hk6 HF0
        have HF0 := Lib.hid (HFD.out.below hB)
        have own := own6
        clear own6
        rw [List.nil_append] at own
        simp only [Act.put, List.setIfInBounds_toArray, List.set_cons_zero, List.set_cons_succ, List.length_nil, Nat.zero_add]
        refine pl_one (by (simp only [List.getElem?_toArray, List.getElem?_cons_succ, List.getElem?_cons_zero]; rfl)) hB ?_
        refine al_wp (by kernel_rfl) (wp_append_files (N := [y]) (.tmp 16) (.tmp 20) rfl rfl own rfl (ry.mono (fun _ _ _ => trivial)) (by simp; omega) hB.size ?_)
        intro A8 c8 w8 own8 hb8 hk8
        replace hB := hB.trans hb8
        simp only [Act.put, List.setIfInBounds_toArray, List.set_cons_zero, List.set_cons_succ, List.length_cons, List.length_nil, Nat.zero_add]
        exact pl_end hB ⟨_, _, _, _, _, rfl, own8, hB⟩
    · rintro a' w' ⟨v13, v16, v20, A8, c8, rfl, own, hB⟩
      simp only [Plan.count, Nat.reduceAdd, List.drop_succ_cons, List.drop_zero]
      have z0 := y0.below hB
      have f0 := z0.frozen 0
      have e0 := z0.cell 0
      simp only [List.getElem?_toArray, List.getElem?_cons_zero] at e0
      have z1 := y1.below hB
      have hwB := hw3.trans (hB.mono hw3.size)
      have hLy : (L ++ [y]).length = L.length + 1 := by simp
      have hmk : makeS D = (countS ⟨putZ D.L (D.last + 1) ([], 0), D.last + 1, D.room, D.left⟩, D.last + 1, 0) := by unfold makeS; rw [if_neg hl]
      have hcl := count_left ⟨putZ D.L (D.last + 1) ([], 0), D.last + 1, D.room, D.left⟩
      have HPL : Hid (plainD (L ++ [y]) = (makeS D).1.L) := Lib.hid (by
        rw [hmk]
        show _ = (countS _).L
        rw [hcl.1]
        show _ = putZ D.L (D.last + 1) ([], 0)
        rw [putZ_last ([], 0) (fun m hm => by have := HO.out.key m hm; omega), ← HP.out, hy]
        simp [plainD, FV.p])
      have HMK := Lib.hid hmk
      have HCL := Lib.hid hcl
      have hk4 : Fr (fun x => x = w.heap.size) w' (w'.setCell ⟨w.heap.size, 0, none⟩ (.slice A8 (L.length + 1) c8)) := (Fr.refl (fun x => x = w.heap.size) w').setAt w.heap.size 0 rfl _
      have t0 := z0.set_ 0 (.slice A8 (L.length + 1) c8)
      simp only [List.setIfInBounds_toArray, List.set_cons_zero] at t0
      have t1 := z1.fr hk4 (by omega)
      have hw4 : Below w.heap.size w (w'.setCell ⟨w.heap.size, 0, none⟩ (.slice A8 (L.length + 1) c8)) := hwB.trans (hk4.below (B := w.heap.size) hwB.size (fun k hk e => by omega))
      have R4 := Lib.hid ((own.row).fr hk4 (fun g hg e => by
        have hg2 := (own.row).lt g hg
        omega))
      have hbw := hw3.size
      clear hmk hcl z1 hk4 hB own HFD y0 y1 hl hyc
      go_upto_region 5 with (fail)
      generalize w'.setCell ⟨w.heap.size, 0, none⟩ (.slice A8 (L.length + 1) c8) = w4 at *
      have HC := Lib.hid (fun W => refCounted_any A8 (L.length + 1) c8 (D.last + 1) D.room D.left W hlf.2)
      clear z0 f0 e0 hw3 hwB
      have hC0 : Fr (fun x => x = w.heap.size + 1) w4 w4.drew := (Fr.refl _ w4).drew
      have htl0 := t0.lt
      have ht1l := t1.lt
      refine wp_region_line (.tell 2 (.tell 3 (.tell 0 (.one 1 (.one 4 .done))))) (fun W => Fr (fun x => x = w.heap.size + 1) w4 W) (by kernel_rfl) (by kernel_rfl) ?_
      refine pl_val (by (simp only [List.getElem?_toArray, List.getElem?_cons_succ, List.getElem?_cons_zero]; rfl)) (by kernel_rfl) ⟨_, (by (intro w' hC; clear hC; (try go_simp); (try with_reducible rfl); done)), _, (by (simp only [Act.put, List.setIfInBounds_toArray, List.set_cons_zero, List.set_cons_succ]; rfl)), ?_⟩
      refine pl_val (by (simp only [List.getElem?_toArray, List.getElem?_cons_succ, List.getElem?_cons_zero]; rfl)) (by kernel_rfl) ⟨_, (by (intro w' hC; have q := (t0.fr hC (by omega)).cell 1; simp only [List.getElem?_toArray, List.getElem?_cons_zero, List.getElem?_cons_succ] at q; clear hC; (try go_simp); (try with_reducible rfl); done)), _, (by (simp only [Act.put, List.setIfInBounds_toArray, List.set_cons_zero, List.set_cons_succ]; rfl)), ?_⟩
      refine pl_val (by (simp only [List.getElem?_toArray, List.getElem?_cons_zero]; rfl)) (by kernel_rfl) ⟨_, (by (intro w' hC; have q0 := (t0.fr hC (by omega)).cell 0; have q1 := (t0.fr hC (by omega)).cell 1; have q2 := (t0.fr hC (by omega)).cell 2; have q3 := (t0.fr hC (by omega)).cell 3; simp only [List.getElem?_toArray, List.getElem?_cons_zero, List.getElem?_cons_succ] at q0 q1 q2 q3; clear hC; (try go_simp); (try with_reducible rfl); done)), _, (by (simp only [Act.put, List.setIfInBounds_toArray, List.set_cons_zero, List.set_cons_succ]; rfl)), ?_⟩
      refine pl_one (by (simp only [List.getElem?_toArray, List.getElem?_cons_succ, List.getElem?_cons_zero]; rfl)) hC0 ?_
      refine al_call (by kernel_rfl) (by go_simp; done) (HC.out w4.drew) ?_
      rintro e w5 ⟨rfl, hb5⟩
      replace hb5 : Below w4.heap.size w4 w5 := (Below.refl _ _).drew.trans (hb5.mono (Nat.le_refl _))
      refine ⟨_, rfl, _, (by (simp only [Act.put, List.setIfInBounds_toArray, List.set_cons_zero, List.set_cons_succ]; rfl)), ?_⟩
      have u1 := t1.below hb5
      have hw5 := hw4.trans (hb5.mono hw4.size)
      have R5 := Lib.hid (R4.out.below hb5)
      have fr := fun o => u1.frozen o
      have r0 := u1.cell 0
      have r1 := u1.cell 1
      have r2 := u1.cell 2
      have r3 := u1.cell 3
      simp only [List.getElem?_toArray, List.getElem?_cons_zero, List.getElem?_cons_succ] at r0 r1 r2 r3
      clear R4 t0 t1 hw4 HC
      obtain ⟨lf, hlf3⟩ : ∃ lf, lf = (if 0 < D.left then D.left - 1 else D.left) := ⟨_, rfl⟩
      rw [← hlf3]
      have HLF := Lib.hid hlf3
      clear hlf3
      refine pl_one (by (simp only [List.getElem?_toArray, List.getElem?_cons_succ, List.getElem?_cons_zero]; rfl)) (Fr.of_below hb5 _) ?_
      refine al_skip (by kernel_rfl) ⟨_, (by (go_simp; first | done | rfl)), _, (by (simp only [Act.put]; rfl)), ?_⟩
      refine pl_end ((((((Fr.of_below hb5 (fun x => x = w.heap.size + 1)).setAt (w.heap.size + 1) 0 rfl _).setAt (w.heap.size + 1) 1 rfl _).setAt (w.heap.size + 1) 2 rfl _).setAt (w.heap.size + 1) 3 rfl _)) ?_
      simp only [Plan.count, Nat.reduceAdd, List.drop_succ_cons, List.drop_zero]
      go_wp2_with fail
      have kR : Fr (fun x => x = w.heap.size + 1) w5 ((((w5.setCell ⟨w.heap.size + 1, 0, none⟩ (.slice A8 (L.length + 1) c8)).setCell ⟨w.heap.size + 1, 1, none⟩ (.int .i64 (D.last + 1))).setCell ⟨w.heap.size + 1, 2, none⟩ (.int .i64 D.room)).setCell ⟨w.heap.size + 1, 3, none⟩ (.int .i64 lf)) := (((((Fr.refl (fun x => x = w.heap.size + 1) w5).setAt (w.heap.size + 1) _ rfl _).setAt (w.heap.size + 1) _ rfl _).setAt (w.heap.size + 1) _ rfl _).setAt (w.heap.size + 1) _ rfl _)
      have yR := ((((u1.set_ 0 (.slice A8 (L.length + 1) c8)).set_ 1 (.int .i64 (D.last + 1))).set_ 2 (.int .i64 D.room)).set_ 3 (.int .i64 lf))
      simp only [List.setIfInBounds_toArray, List.set_cons_zero, List.set_cons_succ] at yR
      have hwR : Below w.heap.size w ((((w5.setCell ⟨w.heap.size + 1, 0, none⟩ (.slice A8 (L.length + 1) c8)).setCell ⟨w.heap.size + 1, 1, none⟩ (.int .i64 (D.last + 1))).setCell ⟨w.heap.size + 1, 2, none⟩ (.int .i64 D.room)).setCell ⟨w.heap.size + 1, 3, none⟩ (.int .i64 lf)) := hw5.trans (kR.below (B := w.heap.size) hw5.size (fun k hk e => by omega))
      generalize ((((w5.setCell ⟨w.heap.size + 1, 0, none⟩ (.slice A8 (L.length + 1) c8)).setCell ⟨w.heap.size + 1, 1, none⟩ (.int .i64 (D.last + 1))).setCell ⟨w.heap.size + 1, 2, none⟩ (.int .i64 D.room)).setCell ⟨w.heap.size + 1, 3, none⟩ (.int .i64 lf)) = wR at *
      have s0 := yR.cell 0
      have s1 := yR.cell 1
      have s2 := yR.cell 2
      have s3 := yR.cell 3
      simp only [List.getElem?_toArray, List.getElem?_cons_zero, List.getElem?_cons_succ] at s0 s1 s2 s3
      refine bodyPost_ret (v := .tuple #[refV A8 (L.length + 1) c8 (D.last + 1) D.room lf, .int .i64 (D.last + 1), .int .i64 0]) (by simp [results, Try.results30, go_sem, s0, s1, s2, s3]) rfl ?_
      have hR := R5.out.fr kR (fun g hg e => by have := (R5.out.lt g hg).1; omega)
      refine ⟨⟨A8, c8, L ++ [y], ?_, row_fls hR (fun x hx => ?_) (by rw [hLy]; omega), by have := hR.room; rw [hLy] at this ⊢; exact this, HPL.out⟩, hwR⟩
      · rw [HMK.out, hLy]
        show _ = Ending.returned (.tuple #[refV A8 (L.length + 1) c8 (countS _).last (countS _).room (countS _).left, .int .i64 (D.last + 1), .int .i64 0])
        rw [HCL.out.2.1, HCL.out.2.2.1, HCL.out.2.2.2, HLF.out]
      · rcases List.mem_append.1 hx with hx | hx
        · exact (HF.out.ok x hx).below hwR
        · rw [List.mem_singleton.1 hx, hy]
          exact ⟨Rd.nil, by simp, by simp [maxLen]⟩

end Go.Proofs.Ytmdbfhfjaapeoaa

/- tenderref11: a file's place; Sync, Read, Stop. -/
namespace Go.Proofs.Ytmdbfhfjaapeoaa
open Go.RowKit Go.Maps

theorem sortZ_lt {α : Type} {L : List (Int × α)} (h : SortZ L) {i j : Nat} (hij : i < j) (hj : j < L.length) : (L[i]'(by omega)).1 < L[j].1 := by
  have h1 := List.pairwise_iff_getElem.1 h i j (by rw [keysZ_len]; omega) (by rw [keysZ_len]; exact hj) hij
  simpa [keysZ] using h1
theorem sortZ_inj {α : Type} {L : List (Int × α)} (h : SortZ L) {i j : Nat} (hi : i < L.length) (hj : j < L.length) (e : L[i].1 = L[j].1) : i = j := by
  rcases Nat.lt_trichotomy i j with c | c | c
  · have := sortZ_lt h c hj; omega
  · exact c
  · have := sortZ_lt h c hi; omega
theorem sortZ_tail {α : Type} {x : Int × α} {l : List (Int × α)} (h : SortZ (x :: l)) : SortZ l := by
  unfold SortZ keysZ at h ⊢
  rw [List.map_cons, List.pairwise_cons] at h
  exact h.2
theorem set_putZ {α : Type} : ∀ {L : List (Int × α)} (_ : SortZ L) (i : Nat) (hi : i < L.length) (f : α), L.set i (L[i].1, f) = putZ L L[i].1 f
  | [], _, _, hi, _ => by cases hi
  | x :: l, h, 0, _, f => by
    simp only [List.set_cons_zero, List.getElem_cons_zero]
    unfold putZ
    rw [if_neg (by omega), if_pos rfl]
  | x :: l, h, i + 1, hi, f => by
    have hlt := sortZ_lt h (i := 0) (j := i + 1) (by omega) hi
    simp only [List.getElem_cons_zero, List.getElem_cons_succ] at hlt
    simp only [List.set_cons_succ, List.getElem_cons_succ]
    unfold putZ
    rw [if_neg (by omega), if_neg (by omega), ← set_putZ (sortZ_tail h) i (by simpa using hi)]
theorem erase_withoutZ {α : Type} : ∀ {L : List (Int × α)} (_ : SortZ L) (i : Nat) (hi : i < L.length), L.take i ++ L.drop (i + 1) = withoutZ L L[i].1
  | [], _, _, hi => by cases hi
  | x :: l, h, 0, _ => by
    simp only [List.take_zero, List.nil_append, Nat.zero_add, List.drop_succ_cons, List.drop_zero, List.getElem_cons_zero]
    unfold withoutZ
    rw [List.filter_cons_of_neg (by simp), List.filter_eq_self.2]
    intro y hy
    obtain ⟨j, hj, rfl⟩ := List.getElem_of_mem hy
    have hlt := sortZ_lt h (i := 0) (j := j + 1) (by omega) (by simpa using hj)
    simp only [List.getElem_cons_zero, List.getElem_cons_succ] at hlt
    simp only [decide_eq_true_eq]
    omega
  | x :: l, h, i + 1, hi => by
    have hlt := sortZ_lt h (i := 0) (j := i + 1) (by omega) hi
    simp only [List.getElem_cons_zero, List.getElem_cons_succ] at hlt
    simp only [List.take_succ_cons, List.drop_succ_cons, List.cons_append, List.getElem_cons_succ]
    rw [erase_withoutZ (sortZ_tail h) i (by simpa using hi)]
    unfold withoutZ
    rw [List.filter_cons_of_pos (by simp only [decide_eq_true_eq]; omega)]
theorem sortZ_plain {L : List (Int × FV)} (h : SortZ (plainD L)) : SortZ L := by
  unfold SortZ at h ⊢
  rwa [keys_plainD] at h
/-- the document's disk as a value -/
structure RefAt (w : World) (v : Value) (D : DP) : Prop where
  at_ : ∃ A c, ∃ L : List (Int × FV), v = refV A L.length c D.last D.room D.left ∧ Fls w A L ∧ L.length ≤ c ∧ Hid (plainD L = D.L)
theorem RefAt.below {w w' : World} {v : Value} {D : DP} (h : RefAt w v D) (k : Below w.heap.size w w') : RefAt w' v D := by
  obtain ⟨A, c, L, h1, h2, h3, h4⟩ := h.at_
  exact ⟨A, c, L, h1, h2.below k, h3, h4⟩
theorem RefAt.count {w : World} {A : Option Addr} {c : Nat} {L : List (Int × FV)} {D : DP} {lf : Int} (h : Fls w A L) (hc : L.length ≤ c) (hp : plainD L = D.L) (hlf : lf = if 0 < D.left then D.left - 1 else D.left) : RefAt w (refV A L.length c D.last D.room lf) (countS D) := by
  obtain ⟨h1, h2, h3, h4⟩ := count_left D
  refine ⟨A, c, L, ?_, h, hc, Lib.hid (by rw [h1]; exact hp)⟩
  rw [h2, h3, h4, hlf]
theorem refPlace_at (A : Option Addr) (c : Nat) (L : List (Int × FV)) (last room left n : Int) (w : World) (h : Fls w A L) (hs : SortZ L) (i : Nat) (hi : i < L.length) (hn : L[i].1 = n) :
    Calls Try.prog 47 #[refV A L.length c last room left, .int .i64 n] w fun e w' => e = .returned (.int .i64 (i : Int)) ∧ Below w.heap.size w w' := by
  refine (refPlace_any A c L last room left n w h).mono ?_
  rintro e w' ⟨⟨p, rfl, hp⟩, hb⟩
  refine ⟨?_, hb⟩
  rcases hp.out with ⟨_, hg⟩ | ⟨j, hj, rfl, hjn, _⟩
  · have := hs.get (List.getElem_mem hi)
    rw [hn, hg] at this
    cases this
  · rw [sortZ_inj hs hj hi (hjn.trans hn.symm)]
/-- where it stands, if it can be asked for -/
theorem ref_find {L : List (Int × FV)} {D : DP} {n : Int} (hp : plainD L = D.L) (hs : SortZ D.L) (h0 : askS D n = 0) : SortZ L ∧ ∃ (i : Nat) (hi : i < L.length) (f : FV), L[i] = (n, f) ∧ f.p = fileS D n := by
  rw [← hp] at hs
  have hsl := sortZ_plain hs
  obtain ⟨_, hg, hk⟩ := ask_some h0
  rw [← hp, keys_plainD] at hk
  obtain ⟨i, hi, e⟩ := List.getElem_of_mem hk
  have hi' : i < L.length := by simpa [keysZ] using hi
  have e' : L[i].1 = n := by simpa [keysZ] using e
  have hg2 := hsl.get (List.getElem_mem hi')
  rw [e'] at hg2
  rw [← hp, get_plainD, hg2] at hg
  exact ⟨hsl, i, hi', L[i].2, by rw [← e'], by simpa using hg⟩
/-- a row of files does not lie where a disk lies -/
theorem Fls.fr_disk {w w' : World} {g : Nat} {B A : Option Addr} {m d : Nat} {i j k : Int} {L : List (Int × FV)} (h : Fls w A L) (hb : Blk w g 38 #[.slice B m d, .int .i64 i, .int .i64 j, .int .i64 k]) (f : Fr (fun x => x = g) w w') : Fls w' A L := by
  refine ⟨?_, fun x hx => ⟨?_, (h.ok x hx).2⟩, h.len⟩
  · refine (Rd.fr (Z := fun b => ¬ (b = g)) (S := fun x => x = g) ⟨h.rd.1, fun hn => ?_⟩ f (fun _ _ hz => hz)).mono (fun _ _ _ => trivial)
    obtain ⟨b, off, e, _, hlt, hc⟩ := h.rd.2 hn
    refine ⟨b, off, e, fun eb => ?_, hlt, hc⟩
    subst eb
    rcases L with _ | ⟨x, L⟩
    · simp at hn
    have h1 := hc 1 (.slice x.2.x.A x.2.x.l.length x.2.x.c) rfl
    rw [hb.cell] at h1
    rcases Nat.lt_or_ge (off + 1) 4 with h0 | h0
    · obtain e | e | e : off + 1 = 1 ∨ off + 1 = 2 ∨ off + 1 = 3 := by omega
      all_goals (rw [e] at h1; simp at h1)
    · rw [Array.getElem?_eq_none (by simpa using h0)] at h1; cases h1
  · have hy := (h.ok x hx).1
    refine (By.fr (Z := fun b => ¬ (b = g)) (S := fun x => x = g) ⟨hy.1, fun hn => ?_⟩ f (fun _ _ hz => hz)).mono (fun _ _ _ => trivial)
    obtain ⟨b, off, e, _, hlt, hc⟩ := hy.2 hn
    refine ⟨b, off, e, fun eb => ?_, hlt, hc⟩
    subst eb
    rcases hl : x.2.x.l with _ | ⟨y, l⟩
    · rw [hl] at hn; simp at hn
    have h1 := hc 0 (bv y) (by rw [hl]; rfl)
    rw [hb.cell] at h1
    rcases Nat.lt_or_ge (off + 0) 4 with h0 | h0
    · generalize off + 0 = q at *
      obtain rfl | rfl | rfl | rfl : q = 0 ∨ q = 1 ∨ q = 2 ∨ q = 3 := by omega
      all_goals simp [bv] at h1
    · rw [Array.getElem?_eq_none (by simpa using h0)] at h1; cases h1
theorem set_putZ' {α : Type} {L : List (Int × α)} {n : Int} {f0 f : α} (h : SortZ L) (i : Nat) (hi : i < L.length) (e : L[i] = (n, f0)) : L.set i (n, f) = putZ L n f := by
  have := set_putZ h i hi f
  rwa [e] at this

set_option maxRecDepth 100000 in
set_option maxHeartbeats 2000000 in
theorem refSync_any (v : Value) (D : DP) (k : Nat) (n : Int) (w : World) (h : RefAt w v D) (hok : DOk D k) :
    Calls Try.prog 32 #[v, .int .i64 n] w fun e w' => ∃ v', e = .returned (.tuple #[v', .int .i64 (syncS D n).2]) ∧ RefAt w' v' (syncS D n).1 ∧ Below w.heap.size w w' := by
  obtain ⟨A, c, L, rfl, hF, hc, hp⟩ := h.at_
  have hw2 : Below w.heap.size w ((w.alloc (.cells #[.slice A L.length c, .int .i64 D.last, .int .i64 D.room, .int .i64 D.left] 38)).alloc (.cells #[.slice none 0 0, .int .i64 0, .int .i64 0, .int .i64 0] 38)) := ((Below.refl _ _).alloc (Nat.le_refl _) _).alloc (by simp) _
  have x0 : Blk ((w.alloc (.cells #[.slice A L.length c, .int .i64 D.last, .int .i64 D.room, .int .i64 D.left] 38)).alloc (.cells #[.slice none 0 0, .int .i64 0, .int .i64 0, .int .i64 0] 38)) w.heap.size 38 #[.slice A L.length c, .int .i64 D.last, .int .i64 D.room, .int .i64 D.left] := (Blk.new w 38 #[.slice A L.length c, .int .i64 D.last, .int .i64 D.room, .int .i64 D.left]).below ((Below.refl _ _).alloc (Nat.le_refl _) _)
  have x1 : Blk ((w.alloc (.cells #[.slice A L.length c, .int .i64 D.last, .int .i64 D.room, .int .i64 D.left] 38)).alloc (.cells #[.slice none 0 0, .int .i64 0, .int .i64 0, .int .i64 0] 38)) (w.heap.size + 1) 38 #[.slice none 0 0, .int .i64 0, .int .i64 0, .int .i64 0] := by
    have := Blk.new (w.alloc (.cells #[.slice A L.length c, .int .i64 D.last, .int .i64 D.room, .int .i64 D.left] 38)) 38 #[.slice none 0 0, .int .i64 0, .int .i64 0, .int .i64 0]
    rwa [show (w.alloc (.cells #[.slice A L.length c, .int .i64 D.last, .int .i64 D.room, .int .i64 D.left] 38)).heap.size = w.heap.size + 1 by simp] at this
  have HF := Lib.hid hF
  have HRM := Lib.hid hc
  have HP := Lib.hid hp.out
  have HO := Lib.hid hok
  have hlf := hok.left
  have hll := hF.len
  have HAK := refAsked_any A c L D n _ (hF.below hw2) hp.out
  clear h hF hc hp hok
  by_cases h0 : askS D n = 0
  · obtain ⟨D1, hD1⟩ : ∃ D1, D1 = (⟨putZ D.L n ((fileS D n).1, ((fileS D n).1.length : Int)), D.last, D.room, D.left⟩ : DP) := ⟨_, rfl⟩
    have HEQ : syncS D n = (countS D1, 0) := by unfold syncS; rw [if_neg (by simpa using h0), hD1]
    rw [HEQ]
    replace HAK := Lib.hid HAK
    rw [h0] at HAK
    obtain ⟨hsl, m, hm, f, hLi, hfp⟩ := ref_find HP.out HO.out.sort h0
    have HSL := Lib.hid hsl
    have HLI := Lib.hid hLi
    have HFP := Lib.hid hfp
    have HFX := Lib.hid (by have := HF.out.ok _ (List.getElem_mem hm); rw [hLi] at this; exact this : f.x.ok w (fun _ => True))
    clear hsl hLi hfp HEQ
    subst hD1
    go_enter Try.func32, Try.ntmps32
    go_upto_region 1 with (fail)
    generalize ((w.alloc (.cells #[.slice A L.length c, .int .i64 D.last, .int .i64 D.room, .int .i64 D.left] 38)).alloc (.cells #[.slice none 0 0, .int .i64 0, .int .i64 0, .int .i64 0] 38)) = w2 at *
    have p0 := x0.cell 0
    have p1 := x0.cell 1
    have p2 := x0.cell 2
    have p3 := x0.cell 3
    simp only [List.getElem?_toArray, List.getElem?_cons_zero, List.getElem?_cons_succ] at p0 p1 p2 p3
    go_wp2_with fail
    refine HAK.out.mono ?_
    rintro e w3 ⟨rfl, hb3⟩
    have hw3 := hw2.trans (hb3.mono hw2.size)
    have u0 := x0.below hb3
    have u1 := x1.below hb3
    clear p0 p1 p2 p3 x0 x1 HAK hb3
    have p0 := u0.cell 0
    have p1 := u0.cell 1
    have p2 := u0.cell 2
    have p3 := u0.cell 3
    simp only [List.getElem?_toArray, List.getElem?_cons_zero, List.getElem?_cons_succ] at p0 p1 p2 p3
    go_wp2_with fail
    refine (refPlace_at A c L D.last D.room D.left n w3 (HF.out.below hw3) HSL.out m hm (by rw [HLI.out])).mono ?_
    rintro e w4 ⟨rfl, hb4⟩
    have hw4 := hw3.trans (hb4.mono hw3.size)
    replace u0 := u0.below hb4
    replace u1 := u1.below hb4
    clear p0 p1 p2 p3 hb4
    have p0 := u0.cell 0
    have p1 := u0.cell 1
    have p2 := u0.cell 2
    have p3 := u0.cell 3
    simp only [List.getElem?_toArray, List.getElem?_cons_zero, List.getElem?_cons_succ] at p0 p1 p2 p3
    obtain ⟨b, off, hA, hbb, c0, c1, c2⟩ := (HF.out.below hw4).at_ hm
    rw [HLI.out] at c0 c1 c2
    dsimp only at c0 c1 c2
    subst hA
    go_upto_region 7 with (fail)
    have hba : Below w4.heap.size w4 (w4.alloc (.cells #[.int .i64 n, .slice f.x.A f.x.l.length f.x.c, .int .i64 (f.x.l.length : Int)] 84)) := (Below.refl _ _).alloc (Nat.le_refl _) _
    have hw5 := hw4.trans (hba.mono hw4.size)
    have FB : Blk (w4.alloc (.cells #[.int .i64 n, .slice f.x.A f.x.l.length f.x.c, .int .i64 (f.x.l.length : Int)] 84)) w4.heap.size 84 #[.int .i64 n, .slice f.x.A f.x.l.length f.x.c, .int .i64 (f.x.l.length : Int)] := Blk.new w4 84 _
    replace u0 := u0.below hba
    replace u1 := u1.below hba
    generalize (w4.alloc (.cells #[.int .i64 n, .slice f.x.A f.x.l.length f.x.c, .int .i64 (f.x.l.length : Int)] 84)) = w5 at *
    have d0 := FB.cell 0
    have d1 := FB.cell 1
    have d2 := FB.cell 2
    simp only [List.getElem?_toArray, List.getElem?_cons_zero, List.getElem?_cons_succ] at d0 d1 d2
    clear p0 p1 p2 p3 c0 c1 c2 hba
    have p0 := u0.cell 0
    have p1 := u0.cell 1
    have p2 := u0.cell 2
    have p3 := u0.cell 3
    simp only [List.getElem?_toArray, List.getElem?_cons_zero, List.getElem?_cons_succ] at p0 p1 p2 p3
    go_wp2_with fail
    refine (refWith_any _ c L D.last D.room D.left m (n, ⟨f.x, (f.x.l.length : Int)⟩) w5 (HF.out.below hw5) hm (HFX.out.below hw5)).mono ?_
    rintro e w6 ⟨⟨A6, c6, rfl, hF6, hc6⟩, hb6⟩
    have hw6 := hw5.trans (hb6.mono hw5.size)
    replace u1 := u1.below hb6
    have hls : (L.set m (n, ⟨f.x, (f.x.l.length : Int)⟩)).length = L.length := List.length_set
    have HF6 := Lib.hid hF6
    have HC6 := Lib.hid hc6
    clear hF6 hc6 p0 p1 p2 p3
    go_wp2_with fail
    refine (refCounted_any A6 _ c6 D.last D.room D.left w6 hlf.2).mono ?_
    rintro e w7 ⟨rfl, hb7⟩
    have hw7 := hw6.trans (hb7.mono hw6.size)
    replace u1 := u1.below hb7
    obtain ⟨lf, hlf3⟩ : ∃ lf, lf = (if 0 < D.left then D.left - 1 else D.left) := ⟨_, rfl⟩
    rw [← hlf3]
    have HLF := Lib.hid hlf3
    have HF7 := Lib.hid (HF6.out.below hb7)
    clear hlf3 hb7 hb6 HF6
    have r0 := u1.cell 0
    have r1 := u1.cell 1
    have r2 := u1.cell 2
    have r3 := u1.cell 3
    simp only [List.getElem?_toArray, List.getElem?_cons_zero, List.getElem?_cons_succ] at r0 r1 r2 r3
    have fr := fun o => u1.frozen o
    go_wp2_with fail
    have kR : Fr (fun x => x = w.heap.size + 1) w7 ((((w7.setCell ⟨w.heap.size + 1, 0, none⟩ (.slice A6 L.length c6)).setCell ⟨w.heap.size + 1, 1, none⟩ (.int .i64 D.last)).setCell ⟨w.heap.size + 1, 2, none⟩ (.int .i64 D.room)).setCell ⟨w.heap.size + 1, 3, none⟩ (.int .i64 lf)) := (((((Fr.refl (fun x => x = w.heap.size + 1) w7).setAt (w.heap.size + 1) _ rfl _).setAt (w.heap.size + 1) _ rfl _).setAt (w.heap.size + 1) _ rfl _).setAt (w.heap.size + 1) _ rfl _)
    have yR := ((((u1.set_ 0 (.slice A6 L.length c6)).set_ 1 (.int .i64 D.last)).set_ 2 (.int .i64 D.room)).set_ 3 (.int .i64 lf))
    simp only [List.setIfInBounds_toArray, List.set_cons_zero, List.set_cons_succ] at yR
    have hwR : Below w.heap.size w ((((w7.setCell ⟨w.heap.size + 1, 0, none⟩ (.slice A6 L.length c6)).setCell ⟨w.heap.size + 1, 1, none⟩ (.int .i64 D.last)).setCell ⟨w.heap.size + 1, 2, none⟩ (.int .i64 D.room)).setCell ⟨w.heap.size + 1, 3, none⟩ (.int .i64 lf)) := hw7.trans (kR.below (B := w.heap.size) hw7.size (fun k hk e => by omega))
    generalize ((((w7.setCell ⟨w.heap.size + 1, 0, none⟩ (.slice A6 L.length c6)).setCell ⟨w.heap.size + 1, 1, none⟩ (.int .i64 D.last)).setCell ⟨w.heap.size + 1, 2, none⟩ (.int .i64 D.room)).setCell ⟨w.heap.size + 1, 3, none⟩ (.int .i64 lf)) = wR at *
    have s0 := yR.cell 0
    have s1 := yR.cell 1
    have s2 := yR.cell 2
    have s3 := yR.cell 3
    simp only [List.getElem?_toArray, List.getElem?_cons_zero, List.getElem?_cons_succ] at s0 s1 s2 s3
    refine bodyPost_ret (v := .tuple #[refV A6 L.length c6 D.last D.room lf, .int .i64 0]) (by simp [results, Try.results32, go_sem, s0, s1, s2, s3]) rfl ?_
    exact ⟨refV A6 (L.set m (n, ⟨f.x, (f.x.l.length : Int)⟩)).length c6 D.last D.room lf, (by rw [hls]), RefAt.count (D := ⟨putZ D.L n ((fileS D n).1, ((fileS D n).1.length : Int)), D.last, D.room, D.left⟩) (A := A6) (c := c6) (L := L.set m (n, ⟨f.x, (f.x.l.length : Int)⟩)) (lf := lf) (HF7.out.fr_disk u1 kR) (by rw [hls]; exact HC6.out) (by show _ = putZ D.L n _; rw [← HP.out, show ((fileS D n).1, ((fileS D n).1.length : Int)) = FV.p ⟨f.x, (f.x.l.length : Int)⟩ from by rw [← HFP.out]; rfl, ← plainD_put, ← set_putZ' HSL.out m hm HLI.out]) HLF.out, hwR⟩
  · clear HO hlf
    have HEQ : syncS D n = (D, askS D n) := by unfold syncS; rw [if_pos h0]
    rw [HEQ]
    obtain ⟨E, hE⟩ : ∃ E, E = askS D n := ⟨_, rfl⟩
    rw [← hE] at h0 HAK ⊢
    have h0b : (E == 0) = false := by simpa using h0
    have h0c : (E != 0) = true := by simpa using h0
    replace HAK := Lib.hid HAK
    clear hE HEQ h0
    go_enter Try.func32, Try.ntmps32
    go_upto_region 1 with (fail)
    generalize ((w.alloc (.cells #[.slice A L.length c, .int .i64 D.last, .int .i64 D.room, .int .i64 D.left] 38)).alloc (.cells #[.slice none 0 0, .int .i64 0, .int .i64 0, .int .i64 0] 38)) = w2 at *
    have p0 := x0.cell 0
    have p1 := x0.cell 1
    have p2 := x0.cell 2
    have p3 := x0.cell 3
    simp only [List.getElem?_toArray, List.getElem?_cons_zero, List.getElem?_cons_succ] at p0 p1 p2 p3
    go_wp2_with fail
    refine HAK.out.mono ?_
    rintro e w3 ⟨rfl, hb3⟩
    have hw3 := hw2.trans (hb3.mono hw2.size)
    have u0 := x0.below hb3
    have u1 := x1.below hb3
    clear p0 p1 p2 p3 x0 x1 HAK
    have p0 := u0.cell 0
    have p1 := u0.cell 1
    have p2 := u0.cell 2
    have p3 := u0.cell 3
    simp only [List.getElem?_toArray, List.getElem?_cons_zero, List.getElem?_cons_succ] at p0 p1 p2 p3
    have r0 := u1.cell 0
    have r1 := u1.cell 1
    have r2 := u1.cell 2
    have r3 := u1.cell 3
    simp only [List.getElem?_toArray, List.getElem?_cons_zero, List.getElem?_cons_succ] at r0 r1 r2 r3
    have fr := fun o => u1.frozen o
    go_wp2_with fail
    have kR : Fr (fun x => x = w.heap.size + 1) w3 ((((w3.setCell ⟨w.heap.size + 1, 0, none⟩ (.slice A L.length c)).setCell ⟨w.heap.size + 1, 1, none⟩ (.int .i64 D.last)).setCell ⟨w.heap.size + 1, 2, none⟩ (.int .i64 D.room)).setCell ⟨w.heap.size + 1, 3, none⟩ (.int .i64 D.left)) := (((((Fr.refl (fun x => x = w.heap.size + 1) w3).setAt (w.heap.size + 1) _ rfl _).setAt (w.heap.size + 1) _ rfl _).setAt (w.heap.size + 1) _ rfl _).setAt (w.heap.size + 1) _ rfl _)
    have yR := ((((u1.set_ 0 (.slice A L.length c)).set_ 1 (.int .i64 D.last)).set_ 2 (.int .i64 D.room)).set_ 3 (.int .i64 D.left))
    simp only [List.setIfInBounds_toArray, List.set_cons_zero, List.set_cons_succ] at yR
    have hwR : Below w.heap.size w ((((w3.setCell ⟨w.heap.size + 1, 0, none⟩ (.slice A L.length c)).setCell ⟨w.heap.size + 1, 1, none⟩ (.int .i64 D.last)).setCell ⟨w.heap.size + 1, 2, none⟩ (.int .i64 D.room)).setCell ⟨w.heap.size + 1, 3, none⟩ (.int .i64 D.left)) := hw3.trans (kR.below (B := w.heap.size) hw3.size (fun k hk e => by omega))
    generalize ((((w3.setCell ⟨w.heap.size + 1, 0, none⟩ (.slice A L.length c)).setCell ⟨w.heap.size + 1, 1, none⟩ (.int .i64 D.last)).setCell ⟨w.heap.size + 1, 2, none⟩ (.int .i64 D.room)).setCell ⟨w.heap.size + 1, 3, none⟩ (.int .i64 D.left)) = wR at *
    have s0 := yR.cell 0
    have s1 := yR.cell 1
    have s2 := yR.cell 2
    have s3 := yR.cell 3
    simp only [List.getElem?_toArray, List.getElem?_cons_zero, List.getElem?_cons_succ] at s0 s1 s2 s3
    refine bodyPost_ret (v := .tuple #[.agg #[.slice A L.length c, .int .i64 D.last, .int .i64 D.room, .int .i64 D.left], .int .i64 E]) (by simp [results, Try.results32, go_sem, s0, s1, s2, s3]) rfl ?_
    exact ⟨_, rfl, ⟨A, c, L, rfl, HF.out.below hwR, HRM.out, HP⟩, hwR⟩


set_option maxRecDepth 100000 in
set_option maxHeartbeats 2000000 in
theorem refRead_any (v : Value) (D : DP) (k : Nat) (n : Int) (w : World) (h : RefAt w v D) (hok : DOk D k) :
    Calls Try.prog 34 #[v, .int .i64 n] w fun e w' => ∃ (A : Option Addr) (c : Nat) (l : List UInt8), e = .returned (.tuple #[.slice A l.length c, .int .i64 (readS D n).2]) ∧ Hid (l = (readS D n).1) ∧ By w' (fun _ => True) A l ∧ Below w.heap.size w w' := by
  obtain ⟨A, c, L, rfl, hF, hc, hp⟩ := h.at_
  have hw2 : Below w.heap.size w (w.alloc (.cells #[.slice A L.length c, .int .i64 D.last, .int .i64 D.room, .int .i64 D.left] 38)) := (Below.refl _ _).alloc (Nat.le_refl _) _
  have x0 : Blk (w.alloc (.cells #[.slice A L.length c, .int .i64 D.last, .int .i64 D.room, .int .i64 D.left] 38)) w.heap.size 38 #[.slice A L.length c, .int .i64 D.last, .int .i64 D.room, .int .i64 D.left] := Blk.new w 38 #[.slice A L.length c, .int .i64 D.last, .int .i64 D.room, .int .i64 D.left]
  have HF := Lib.hid hF
  have HP := Lib.hid hp.out
  have HO := Lib.hid hok
  have hll := hF.len
  have HAK := refAsked_any A c L D n _ (hF.below hw2) hp.out
  clear h hF hc hp hok
  by_cases h0 : askS D n = 0
  · have HEQ : readS D n = ((fileS D n).1, 0) := by unfold readS; rw [if_neg (by simpa using h0)]
    rw [HEQ]
    rw [h0] at HAK
    replace HAK := Lib.hid HAK
    obtain ⟨hsl, m, hm, f, hLi, hfp⟩ := ref_find HP.out HO.out.sort h0
    have HSL := Lib.hid hsl
    have HLI := Lib.hid hLi
    have HFP := Lib.hid hfp
    have HFX := Lib.hid (by have := HF.out.ok _ (List.getElem_mem hm); rw [hLi] at this; exact this : f.x.ok w (fun _ => True))
    clear hsl hLi hfp HEQ h0 HO
    go_enter Try.func34, Try.ntmps34
    go_upto_region 1 with (fail)
    generalize (w.alloc (.cells #[.slice A L.length c, .int .i64 D.last, .int .i64 D.room, .int .i64 D.left] 38)) = w2 at *
    have p0 := x0.cell 0
    have p1 := x0.cell 1
    have p2 := x0.cell 2
    have p3 := x0.cell 3
    simp only [List.getElem?_toArray, List.getElem?_cons_zero, List.getElem?_cons_succ] at p0 p1 p2 p3
    go_wp2_with fail
    refine HAK.out.mono ?_
    rintro e w3 ⟨rfl, hb3⟩
    have hw3 := hw2.trans (hb3.mono hw2.size)
    have u0 := x0.below hb3
    clear p0 p1 p2 p3 x0 HAK hb3
    obtain ⟨b, off, hA, hbb, c0, c1, c2⟩ := (HF.out.below hw3).at_ hm
    rw [HLI.out] at c1
    dsimp only at c1
    clear c0 c2
    subst hA
    go_wp2_with fail
    refine wp_region_b 8 (by kernel_rfl) (by kernel_rfl) ?_
    simp only [List.take_succ_cons, List.take_zero, List.drop_succ_cons, List.drop_zero]
    refine lb_val (by kernel_rfl) ⟨_, (by (intro w' hC; clear hC; (try go_simp); (try with_reducible rfl); done)), _, (by (simp only [Act.put, List.setIfInBounds_toArray, List.set_cons_zero, List.set_cons_succ]; rfl)), ?_⟩
    refine lb_val (by kernel_rfl) ⟨_, (by (intro w' hC; (have q0 := (u0.below hC).cell 0; simp only [List.getElem?_toArray, List.getElem?_cons_zero] at q0); clear hC; (try go_simp); (try with_reducible rfl); done)), _, (by (simp only [Act.put, List.setIfInBounds_toArray, List.set_cons_zero, List.set_cons_succ]; rfl)), ?_⟩
    refine lb_val (by kernel_rfl) ⟨_, (by (intro w' hC; (have q0 := (u0.below hC).cell 0; have q1 := (u0.below hC).cell 1; have q2 := (u0.below hC).cell 2; have q3 := (u0.below hC).cell 3; simp only [List.getElem?_toArray, List.getElem?_cons_zero, List.getElem?_cons_succ] at q0 q1 q2 q3); clear hC; (try go_simp); (try with_reducible rfl); done)), _, (by (simp only [Act.put, List.setIfInBounds_toArray, List.set_cons_zero, List.set_cons_succ]; rfl)), ?_⟩
    refine lb_move _ (by kernel_rfl) rfl ⟨_, (by ((try simp [go_sem]); (try rfl); done)), _, (by (simp only [Act.put, List.setIfInBounds_toArray, List.set_cons_zero, List.set_cons_succ]; rfl)), ?_⟩
    refine lb_call (by kernel_rfl) (fun w' hC => refPlace_at _ c L D.last D.room D.left n w' (HF.out.below (hw3.trans (hC.mono hw3.size))) HSL.out m hm (by rw [HLI.out])) (by (intro w'; go_simp; done)) ⟨_, (by (simp only [Act.put, List.setIfInBounds_toArray, List.set_cons_zero, List.set_cons_succ]; rfl)), ?_⟩
    refine lb_val (by kernel_rfl) ⟨_, (by (intro w' hC; clear hC; (try go_simp); (try with_reducible rfl); done)), _, (by (simp only [Act.put, List.setIfInBounds_toArray, List.set_cons_zero, List.set_cons_succ]; rfl)), ?_⟩
    refine lb_val (by kernel_rfl) ⟨_, (by (intro w' hC; clear hC; (try go_simp); (try with_reducible rfl); done)), _, (by (simp only [Act.put, List.setIfInBounds_toArray, List.set_cons_zero, List.set_cons_succ]; rfl)), ?_⟩
    refine lb_val (by kernel_rfl) ⟨_, (by (intro w' hC; (have c1' := cellAt hC hbb c1); clear hC; (try go_simp); (try with_reducible rfl); done)), _, (by (simp only [Act.put, List.setIfInBounds_toArray, List.set_cons_zero, List.set_cons_succ]; rfl)), ?_⟩
    refine .nil ?_
    intro w4 hb4
    have hw4 := hw3.trans (hb4.mono hw3.size)
    go_wp2_with fail
    go_ret2
    exact ⟨f.x.A, f.x.c, f.x.l, rfl, (by have := congrArg Prod.fst HFP.out; exact this), (HFX.out.below hw4).1, hw4⟩
  · have HEQ : readS D n = ([], askS D n) := by unfold readS; rw [if_pos h0]
    rw [HEQ]
    obtain ⟨E, hE⟩ : ∃ E, E = askS D n := ⟨_, rfl⟩
    rw [← hE] at h0 HAK ⊢
    have h0b : (E == 0) = false := by simpa using h0
    have h0c : (E != 0) = true := by simpa using h0
    replace HAK := Lib.hid HAK
    clear hE HEQ h0 HO
    go_enter Try.func34, Try.ntmps34
    go_upto_region 1 with (fail)
    generalize (w.alloc (.cells #[.slice A L.length c, .int .i64 D.last, .int .i64 D.room, .int .i64 D.left] 38)) = w2 at *
    have p0 := x0.cell 0
    have p1 := x0.cell 1
    have p2 := x0.cell 2
    have p3 := x0.cell 3
    simp only [List.getElem?_toArray, List.getElem?_cons_zero, List.getElem?_cons_succ] at p0 p1 p2 p3
    go_wp2_with fail
    refine HAK.out.mono ?_
    rintro e w3 ⟨rfl, hb3⟩
    have hw3 := hw2.trans (hb3.mono hw2.size)
    clear p0 p1 p2 p3 x0 HAK hb3
    go_wp2_with fail
    go_ret2
    exact ⟨none, 0, [], rfl, rfl, Rd.nil, hw3⟩


set_option maxRecDepth 100000 in
set_option maxHeartbeats 2000000 in
theorem refStop_any (v : Value) (D : DP) (n : Int) (w : World) (h : RefAt w v D) :
    Calls Try.prog 35 #[v, .int .i64 n] w fun e w' => ∃ v', e = .returned v' ∧ RefAt w' v' (stopS D n) ∧ Below w.heap.size w w' := by
  obtain ⟨A, c, L, rfl, hF, hc, hp⟩ := h.at_
  have hw2 : Below w.heap.size w ((w.alloc (.cells #[.slice A L.length c, .int .i64 D.last, .int .i64 D.room, .int .i64 D.left] 38)).alloc (.cells #[.slice none 0 0, .int .i64 0, .int .i64 0, .int .i64 0] 38)) := ((Below.refl _ _).alloc (Nat.le_refl _) _).alloc (by simp) _
  have x0 : Blk ((w.alloc (.cells #[.slice A L.length c, .int .i64 D.last, .int .i64 D.room, .int .i64 D.left] 38)).alloc (.cells #[.slice none 0 0, .int .i64 0, .int .i64 0, .int .i64 0] 38)) w.heap.size 38 #[.slice A L.length c, .int .i64 D.last, .int .i64 D.room, .int .i64 D.left] := (Blk.new w 38 #[.slice A L.length c, .int .i64 D.last, .int .i64 D.room, .int .i64 D.left]).below ((Below.refl _ _).alloc (Nat.le_refl _) _)
  have x1 : Blk ((w.alloc (.cells #[.slice A L.length c, .int .i64 D.last, .int .i64 D.room, .int .i64 D.left] 38)).alloc (.cells #[.slice none 0 0, .int .i64 0, .int .i64 0, .int .i64 0] 38)) (w.heap.size + 1) 38 #[.slice none 0 0, .int .i64 0, .int .i64 0, .int .i64 0] := by
    have := Blk.new (w.alloc (.cells #[.slice A L.length c, .int .i64 D.last, .int .i64 D.room, .int .i64 D.left] 38)) 38 #[.slice none 0 0, .int .i64 0, .int .i64 0, .int .i64 0]
    rwa [show (w.alloc (.cells #[.slice A L.length c, .int .i64 D.last, .int .i64 D.room, .int .i64 D.left] 38)).heap.size = w.heap.size + 1 by simp] at this
  have HF := Lib.hid hF
  have HRM := Lib.hid hc
  have HP := Lib.hid hp.out
  clear h hF hc hp
  by_cases hl : D.left = 0
  · have hs : stopS D n = D := by unfold stopS; rw [if_pos hl]
    rw [hs]
    have hlb : (D.left == 0) = true := by simpa using hl
    clear hs hl
    go_enter Try.func35, Try.ntmps35
    go_upto_region 1 with (fail)
    generalize ((w.alloc (.cells #[.slice A L.length c, .int .i64 D.last, .int .i64 D.room, .int .i64 D.left] 38)).alloc (.cells #[.slice none 0 0, .int .i64 0, .int .i64 0, .int .i64 0] 38)) = w2 at *
    have p0 := x0.cell 0
    have p1 := x0.cell 1
    have p2 := x0.cell 2
    have p3 := x0.cell 3
    simp only [List.getElem?_toArray, List.getElem?_cons_zero, List.getElem?_cons_succ] at p0 p1 p2 p3
    have r0 := x1.cell 0
    have r1 := x1.cell 1
    have r2 := x1.cell 2
    have r3 := x1.cell 3
    simp only [List.getElem?_toArray, List.getElem?_cons_zero, List.getElem?_cons_succ] at r0 r1 r2 r3
    have fr := fun o => x1.frozen o
    have ft := fun o => x0.frozen o
    have x1l := x1.lt
    go_wp2_with fail
    have kR : Fr (fun x => x = w.heap.size + 1) w2 ((((w2.setCell ⟨w.heap.size + 1, 0, none⟩ (.slice A L.length c)).setCell ⟨w.heap.size + 1, 1, none⟩ (.int .i64 D.last)).setCell ⟨w.heap.size + 1, 2, none⟩ (.int .i64 D.room)).setCell ⟨w.heap.size + 1, 3, none⟩ (.int .i64 D.left)) := (((((Fr.refl (fun x => x = w.heap.size + 1) w2).setAt (w.heap.size + 1) _ rfl _).setAt (w.heap.size + 1) _ rfl _).setAt (w.heap.size + 1) _ rfl _).setAt (w.heap.size + 1) _ rfl _)
    have yR := ((((x1.set_ 0 (.slice A L.length c)).set_ 1 (.int .i64 D.last)).set_ 2 (.int .i64 D.room)).set_ 3 (.int .i64 D.left))
    simp only [List.setIfInBounds_toArray, List.set_cons_zero, List.set_cons_succ] at yR
    have hwR : Below w.heap.size w ((((w2.setCell ⟨w.heap.size + 1, 0, none⟩ (.slice A L.length c)).setCell ⟨w.heap.size + 1, 1, none⟩ (.int .i64 D.last)).setCell ⟨w.heap.size + 1, 2, none⟩ (.int .i64 D.room)).setCell ⟨w.heap.size + 1, 3, none⟩ (.int .i64 D.left)) := hw2.trans (kR.below (B := w.heap.size) hw2.size (fun k hk e => by omega))
    generalize ((((w2.setCell ⟨w.heap.size + 1, 0, none⟩ (.slice A L.length c)).setCell ⟨w.heap.size + 1, 1, none⟩ (.int .i64 D.last)).setCell ⟨w.heap.size + 1, 2, none⟩ (.int .i64 D.room)).setCell ⟨w.heap.size + 1, 3, none⟩ (.int .i64 D.left)) = wR at *
    have s0 := yR.cell 0
    have s1 := yR.cell 1
    have s2 := yR.cell 2
    have s3 := yR.cell 3
    simp only [List.getElem?_toArray, List.getElem?_cons_zero, List.getElem?_cons_succ] at s0 s1 s2 s3
    refine bodyPost_ret (v := .agg #[.slice A L.length c, .int .i64 D.last, .int .i64 D.room, .int .i64 D.left]) (by simp [results, Try.results35, go_sem, s0, s1, s2, s3]) rfl ?_
    exact ⟨_, rfl, ⟨A, c, L, rfl, HF.out.below hwR, HRM.out, HP⟩, hwR⟩
  · have hs : stopS D n = { D with left := max n (-1) } := by unfold stopS; rw [if_neg hl]
    rw [hs]
    have hlb : (D.left == 0) = false := by simpa using hl
    clear hs hl
    by_cases hn : n < 0
    · have hmx : max n (-1) = -1 := by omega
      rw [hmx]
      have hnb : decide (n < 0) = true := decide_eq_true hn
      clear hmx hn
      go_enter Try.func35, Try.ntmps35
      go_upto_region 1 with (fail)
      generalize ((w.alloc (.cells #[.slice A L.length c, .int .i64 D.last, .int .i64 D.room, .int .i64 D.left] 38)).alloc (.cells #[.slice none 0 0, .int .i64 0, .int .i64 0, .int .i64 0] 38)) = w2 at *
      have p0 := x0.cell 0
      have p1 := x0.cell 1
      have p2 := x0.cell 2
      have p3 := x0.cell 3
      simp only [List.getElem?_toArray, List.getElem?_cons_zero, List.getElem?_cons_succ] at p0 p1 p2 p3
      have ft := fun o => x0.frozen o
      have x0l := x0.lt
      have k9 : Fr (fun x => x = w.heap.size) w2 ((w2.setCell ⟨w.heap.size, 3, none⟩ (.int .i64 n)).setCell ⟨w.heap.size, 3, none⟩ (.int .i64 (-1))) := ((Fr.refl (fun x => x = w.heap.size) w2).setAt w.heap.size 3 rfl _).setAt w.heap.size 3 rfl _
      have hw9 : Below w.heap.size w ((w2.setCell ⟨w.heap.size, 3, none⟩ (.int .i64 n)).setCell ⟨w.heap.size, 3, none⟩ (.int .i64 (-1))) := hw2.trans (k9.below (B := w.heap.size) hw2.size (fun k hk e => by omega))
      have y0 := (x0.set_ 3 (.int .i64 n)).set_ 3 (.int .i64 (-1))
      simp only [List.setIfInBounds_toArray, List.set_cons_zero, List.set_cons_succ] at y0
      have y1 := x1.fr k9 (by omega)
      go_upto_region 6 with (fail)
      generalize ((w2.setCell ⟨w.heap.size, 3, none⟩ (.int .i64 n)).setCell ⟨w.heap.size, 3, none⟩ (.int .i64 (-1))) = w9 at *
      clear p0 p1 p2 p3 ft k9 x0 x1
      have p0 := y0.cell 0
      have p1 := y0.cell 1
      have p2 := y0.cell 2
      have p3 := y0.cell 3
      simp only [List.getElem?_toArray, List.getElem?_cons_zero, List.getElem?_cons_succ] at p0 p1 p2 p3
      have r0 := y1.cell 0
      have r1 := y1.cell 1
      have r2 := y1.cell 2
      have r3 := y1.cell 3
      simp only [List.getElem?_toArray, List.getElem?_cons_zero, List.getElem?_cons_succ] at r0 r1 r2 r3
      have fr := fun o => y1.frozen o
      go_wp2_with fail
      have kR : Fr (fun x => x = w.heap.size + 1) w9 ((((w9.setCell ⟨w.heap.size + 1, 0, none⟩ (.slice A L.length c)).setCell ⟨w.heap.size + 1, 1, none⟩ (.int .i64 D.last)).setCell ⟨w.heap.size + 1, 2, none⟩ (.int .i64 D.room)).setCell ⟨w.heap.size + 1, 3, none⟩ (.int .i64 (-1))) := (((((Fr.refl (fun x => x = w.heap.size + 1) w9).setAt (w.heap.size + 1) _ rfl _).setAt (w.heap.size + 1) _ rfl _).setAt (w.heap.size + 1) _ rfl _).setAt (w.heap.size + 1) _ rfl _)
      have yR := ((((y1.set_ 0 (.slice A L.length c)).set_ 1 (.int .i64 D.last)).set_ 2 (.int .i64 D.room)).set_ 3 (.int .i64 (-1)))
      simp only [List.setIfInBounds_toArray, List.set_cons_zero, List.set_cons_succ] at yR
      have hwR : Below w.heap.size w ((((w9.setCell ⟨w.heap.size + 1, 0, none⟩ (.slice A L.length c)).setCell ⟨w.heap.size + 1, 1, none⟩ (.int .i64 D.last)).setCell ⟨w.heap.size + 1, 2, none⟩ (.int .i64 D.room)).setCell ⟨w.heap.size + 1, 3, none⟩ (.int .i64 (-1))) := hw9.trans (kR.below (B := w.heap.size) hw9.size (fun k hk e => by omega))
      generalize ((((w9.setCell ⟨w.heap.size + 1, 0, none⟩ (.slice A L.length c)).setCell ⟨w.heap.size + 1, 1, none⟩ (.int .i64 D.last)).setCell ⟨w.heap.size + 1, 2, none⟩ (.int .i64 D.room)).setCell ⟨w.heap.size + 1, 3, none⟩ (.int .i64 (-1))) = wR at *
      have s0 := yR.cell 0
      have s1 := yR.cell 1
      have s2 := yR.cell 2
      have s3 := yR.cell 3
      simp only [List.getElem?_toArray, List.getElem?_cons_zero, List.getElem?_cons_succ] at s0 s1 s2 s3
      refine bodyPost_ret (v := .agg #[.slice A L.length c, .int .i64 D.last, .int .i64 D.room, .int .i64 (-1)]) (by simp [results, Try.results35, go_sem, s0, s1, s2, s3]) rfl ?_
      exact ⟨_, rfl, ⟨A, c, L, rfl, HF.out.below hwR, HRM.out, HP⟩, hwR⟩
    · have hmx : max n (-1) = n := by omega
      rw [hmx]
      have hnb : decide (n < 0) = false := decide_eq_false hn
      clear hmx hn
      go_enter Try.func35, Try.ntmps35
      go_upto_region 1 with (fail)
      generalize ((w.alloc (.cells #[.slice A L.length c, .int .i64 D.last, .int .i64 D.room, .int .i64 D.left] 38)).alloc (.cells #[.slice none 0 0, .int .i64 0, .int .i64 0, .int .i64 0] 38)) = w2 at *
      have p0 := x0.cell 0
      have p1 := x0.cell 1
      have p2 := x0.cell 2
      have p3 := x0.cell 3
      simp only [List.getElem?_toArray, List.getElem?_cons_zero, List.getElem?_cons_succ] at p0 p1 p2 p3
      have ft := fun o => x0.frozen o
      have x0l := x0.lt
      have k9 : Fr (fun x => x = w.heap.size) w2 (w2.setCell ⟨w.heap.size, 3, none⟩ (.int .i64 n)) := (Fr.refl (fun x => x = w.heap.size) w2).setAt w.heap.size 3 rfl _
      have hw9 : Below w.heap.size w (w2.setCell ⟨w.heap.size, 3, none⟩ (.int .i64 n)) := hw2.trans (k9.below (B := w.heap.size) hw2.size (fun k hk e => by omega))
      have y0 := x0.set_ 3 (.int .i64 n)
      simp only [List.setIfInBounds_toArray, List.set_cons_zero, List.set_cons_succ] at y0
      have y1 := x1.fr k9 (by omega)
      go_upto_region 6 with (fail)
      generalize (w2.setCell ⟨w.heap.size, 3, none⟩ (.int .i64 n)) = w9 at *
      clear p0 p1 p2 p3 ft k9 x0 x1
      have p0 := y0.cell 0
      have p1 := y0.cell 1
      have p2 := y0.cell 2
      have p3 := y0.cell 3
      simp only [List.getElem?_toArray, List.getElem?_cons_zero, List.getElem?_cons_succ] at p0 p1 p2 p3
      have r0 := y1.cell 0
      have r1 := y1.cell 1
      have r2 := y1.cell 2
      have r3 := y1.cell 3
      simp only [List.getElem?_toArray, List.getElem?_cons_zero, List.getElem?_cons_succ] at r0 r1 r2 r3
      have fr := fun o => y1.frozen o
      go_wp2_with fail
      have kR : Fr (fun x => x = w.heap.size + 1) w9 ((((w9.setCell ⟨w.heap.size + 1, 0, none⟩ (.slice A L.length c)).setCell ⟨w.heap.size + 1, 1, none⟩ (.int .i64 D.last)).setCell ⟨w.heap.size + 1, 2, none⟩ (.int .i64 D.room)).setCell ⟨w.heap.size + 1, 3, none⟩ (.int .i64 n)) := (((((Fr.refl (fun x => x = w.heap.size + 1) w9).setAt (w.heap.size + 1) _ rfl _).setAt (w.heap.size + 1) _ rfl _).setAt (w.heap.size + 1) _ rfl _).setAt (w.heap.size + 1) _ rfl _)
      have yR := ((((y1.set_ 0 (.slice A L.length c)).set_ 1 (.int .i64 D.last)).set_ 2 (.int .i64 D.room)).set_ 3 (.int .i64 n))
      simp only [List.setIfInBounds_toArray, List.set_cons_zero, List.set_cons_succ] at yR
      have hwR : Below w.heap.size w ((((w9.setCell ⟨w.heap.size + 1, 0, none⟩ (.slice A L.length c)).setCell ⟨w.heap.size + 1, 1, none⟩ (.int .i64 D.last)).setCell ⟨w.heap.size + 1, 2, none⟩ (.int .i64 D.room)).setCell ⟨w.heap.size + 1, 3, none⟩ (.int .i64 n)) := hw9.trans (kR.below (B := w.heap.size) hw9.size (fun k hk e => by omega))
      generalize ((((w9.setCell ⟨w.heap.size + 1, 0, none⟩ (.slice A L.length c)).setCell ⟨w.heap.size + 1, 1, none⟩ (.int .i64 D.last)).setCell ⟨w.heap.size + 1, 2, none⟩ (.int .i64 D.room)).setCell ⟨w.heap.size + 1, 3, none⟩ (.int .i64 n)) = wR at *
      have s0 := yR.cell 0
      have s1 := yR.cell 1
      have s2 := yR.cell 2
      have s3 := yR.cell 3
      simp only [List.getElem?_toArray, List.getElem?_cons_zero, List.getElem?_cons_succ] at s0 s1 s2 s3
      refine bodyPost_ret (v := .agg #[.slice A L.length c, .int .i64 D.last, .int .i64 D.room, .int .i64 n]) (by simp [results, Try.results35, go_sem, s0, s1, s2, s3]) rfl ?_
      exact ⟨_, rfl, ⟨A, c, L, rfl, HF.out.below hwR, HRM.out, HP⟩, hwR⟩

end Go.Proofs.Ytmdbfhfjaapeoaa
