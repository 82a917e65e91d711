/- Rows of changes: reading, putting; slices.Clone; tenderref25.Same; Light. -/
import Derived.Test.YtffimpjjdhnajaaFenceEq
import Derived.Test.YtffimpjjdhnajaaRow
import Derived.Test.YtffimpjjdhnajaaFlat
import Derived.Test.YtffimpjjdhnajaaClass
import Derived.Outline
import Derived.Lib.SliceRun
namespace Go.Proofs.Ytffimpjjdhnajaa
open Go.RowKit Go.WideShapes Go.ChangeShapes Go.ChangeAt

/-- changes in a slice -/
structure Chs (w : World) (Z : Nat → Prop) (A : Option Addr) (l : List CV) : Prop where
  rd : Rd w Z 9 A l.length (l.flatMap CV.cells)
  p : ∀ o ∈ l, o.p.size ≤ 140737488355328
  len : l.length ≤ 140737488355328
theorem Chs.fr {w w' : World} {Z S : Nat → Prop} {A : Option Addr} {l : List CV} (h : Chs w Z A l) (k : Fr S w w') (hs : ∀ b, b < w.heap.size → Z b → ¬ S b) : Chs w' Z A l :=
  ⟨h.rd.fr k hs, h.p, h.len⟩
theorem Chs.below {w w' : World} {Z : Nat → Prop} {A : Option Addr} {l : List CV} (h : Chs w Z A l) (k : Below w.heap.size w w') : Chs w' Z A l := h.fr (Fr.of_below k (fun _ => False)) (fun _ _ _ h => h)
theorem Chs.mono {w : World} {Z Z' : Nat → Prop} {A : Option Addr} {l : List CV} (h : Chs w Z A l) (hz : ∀ b, b < w.heap.size → Z b → Z' b) : Chs w Z' A l := ⟨h.rd.mono hz, h.p, h.len⟩
/-- the cells of one -/
structure At9 (w : World) (b o : Nat) (x : CV) : Prop where
  c0 : w.cell? ⟨b, o, none⟩ = some (.string x.p)
  c1 : w.cell? ⟨b, o + 1, none⟩ = some (.int .i64 x.b)
  c2 : w.cell? ⟨b, o + 2, none⟩ = some (.bool x.m)
  c3 : w.cell? ⟨b, o + 3, none⟩ = some (.bool x.t)
  c4 : w.cell? ⟨b, o + 4, none⟩ = some (.int .i64 x.k)
  c5 : w.cell? ⟨b, o + 5, none⟩ = some (.int .i64 x.o)
  c6 : w.cell? ⟨b, o + 6, none⟩ = some (.int .i64 x.s)
  c7 : w.cell? ⟨b, o + 7, none⟩ = some (.int .i64 x.l)
  c8 : w.cell? ⟨b, o + 8, none⟩ = some (.int .i64 x.v)
theorem At9.below {w w' : World} {b o : Nat} {x : CV} (h : At9 w b o x) (hb : b < w.heap.size) (k : Below w.heap.size w w') : At9 w' b o x := by
  obtain ⟨a0, a1, a2, a3, a4, a5, a6, a7, a8⟩ := h
  exact ⟨cellAt k hb a0, cellAt k hb a1, cellAt k hb a2, cellAt k hb a3, cellAt k hb a4, cellAt k hb a5, cellAt k hb a6, cellAt k hb a7, cellAt k hb a8⟩
theorem ch_len (x : CV) : x.cells.length = 9 := rfl
theorem ch_at {w : World} {Z : Nat → Prop} {A : Option Addr} {l : List CV} {i : Nat} (h : Rd w Z 9 A l.length (l.flatMap CV.cells)) (hi : i < l.length) :
    ∃ b off, A = some ⟨b, off, none⟩ ∧ Z b ∧ b < w.heap.size ∧ At9 w b (off + i * 9) l[i] := by
  obtain ⟨b, off, hA, hz, hb, hc⟩ := h.2 (by omega)
  have hg : ∀ j, j < 9 → (l.flatMap CV.cells)[i * 9 + j]? = (CV.cells l[i])[j]? := fun j hj => flat_get (k := 9) ch_len l i j hi hj
  refine ⟨b, off, hA, hz, hb, ?_, ?_, ?_, ?_, ?_, ?_, ?_, ?_, ?_⟩
  · exact hc _ _ (hg 0 (by omega))
  all_goals rw [Nat.add_assoc]
  · exact hc _ _ (hg 1 (by omega))
  · exact hc _ _ (hg 2 (by omega))
  · exact hc _ _ (hg 3 (by omega))
  · exact hc _ _ (hg 4 (by omega))
  · exact hc _ _ (hg 5 (by omega))
  · exact hc _ _ (hg 6 (by omega))
  · exact hc _ _ (hg 7 (by omega))
  · exact hc _ _ (hg 8 (by omega))


theorem ch_flat (l : List CV) : (l.flatMap CV.cells).length = l.length * 9 := flat_len (k := 9) ch_len l
theorem ch_one (l : List CV) : ∀ u ∈ l.flatMap CV.cells, u.oneCell' = true := by
  intro u hu
  obtain ⟨x, _, hx⟩ := List.mem_flatMap.1 hu
  simp only [CV.cells, List.mem_cons, List.not_mem_nil, or_false] at hx
  rcases hx with rfl | rfl | rfl | rfl | rfl | rfl | rfl | rfl | rfl <;> rfl
theorem ch_info : (Try.prog.info? 44).map (fun i => (i.zero, i.size, i.bytes)) = some (some (.agg #[.string ⟨#[]⟩, .int .i64 0, .bool false, .bool false, .int .i64 0, .int .i64 0, .int .i64 0, .int .i64 0, .int .i64 0]), 9, 72) := by kernel_rfl
/-- the verdict of one, put in place -/
theorem ch_put : ∀ (l : List CV) (i : Nat) (x : CV), l[i]? = some x → (l.flatMap CV.cells).set (i * 9 + 8) (.int .i64 5) = (l.set i x.conf).flatMap CV.cells
  | a :: l, 0, x, h => by
    simp at h
    subst h
    simp [CV.cells, CV.conf]
  | a :: l, i + 1, x, h => by
    have ih := ch_put l i x (by simpa using h)
    rw [List.flatMap_cons, List.set_cons_succ, List.flatMap_cons, ← ih, List.set_append_right _ _ (by rw [ch_len, Nat.add_mul]; omega), ch_len]
    congr 2
    omega

set_option maxRecDepth 100000 in
set_option maxHeartbeats 1000000 in
theorem cloneC_any (A : Option Addr) (c : Nat) (l : List CV) (Z : Nat → Prop) (w : World) (h : Rd w Z 9 A l.length (l.flatMap CV.cells)) (hlen : l.length ≤ 1000000) :
    Calls Try.prog 71 #[.slice A l.length c] w fun e w' => ∃ (A' : Option Addr) (c' : Nat), e = .returned (.slice A' l.length c') ∧ Row w' w.heap.size 44 9 A' l.length c' (l.flatMap CV.cells) ∧ Below w.heap.size w w' := by
  obtain ⟨i0, hi0, hz0, hz1, hz2⟩ := info_parts ch_info
  rcases A with _ | a
  · have hl : l = [] := by
      rcases l with _ | ⟨x, l⟩
      · rfl
      · obtain ⟨b, off, e, _⟩ := h.2 (by simp); cases e
    subst hl
    have k1 : ∀ w, (binOp .eql 41 (.slice none 0 c) (.slice none 0 0)).run Try.prog w = .ok (.bool true) w := fun w => Lib.run_eql_slice_nil (P := Try.prog) w 41 44 none 0 c 0 0 Try.underlying41
    show Calls Try.prog 71 #[.slice none 0 c] w _
    go_enter Try.func71, Try.ntmps71
    go_wp2_with fail
    go_ret
    exact ⟨none, 0, rfl, Row.none_ _ _ _ _, Below.refl _ _⟩
  · have k1 := fun w => Lib.run_eql_slice_nil (P := Try.prog) w 41 44 (some a) l.length c 0 0 Try.underlying41
    have hch := ch_one l
    generalize hn : l.length = n at *
    generalize l.flatMap CV.cells = xs at *
    clear hn
    have hr := h.alloc (.cells #[] 44)
    have hrow : Row (w.alloc (.cells #[] 44)) w.heap.size 44 9 (some ⟨w.heap.size, 0, none⟩) 0 0 [] :=
      ⟨by simp, Nat.le_refl _, by simp [maxLen], fun h => (by cases h), fun a ha => by
        injection ha with ha
        subst ha
        exact ⟨w.heap.size, 0, _, rfl, Nat.le_refl _, Blk.new w _ _, by simp, by simp⟩⟩
    have HR := Lib.hid hr
    have HW := Lib.hid hrow
    have HC := Lib.hid hch
    clear hr hrow hch h
    go_enter Try.func71, Try.ntmps71
    go_wp2_with (at_builtin; refine wpList_append_row _ rfl (.tmp 5) (.tmp 6) 41 rfl w.heap.size 44 i0 _ 9 72 Try.underlying41 hi0 hz0 hz1 hz2 rfl (by omega) rfl HW.out rfl HR.out HC.out (by simp only [maxLen]; omega) (by omega) (by simp) ?_; intro A' c' w1 h1 h2 h3; rw [List.nil_append, Nat.zero_add] at h1)
    have hb : Below w.heap.size w w1 := by
      have hf : Fr (fun k => k = w.heap.size) (w.alloc (.cells #[] 44)) w1 := Fr.of_grown h2 (fun k hk e => by simp [ablk] at e; omega)
      exact ((Below.refl _ _).alloc (Nat.le_refl _) _).trans (hf.below (by simp) (fun k hk e => by omega))
    go_ret
    exact ⟨A', c', by simp, h1, hb⟩

set_option maxRecDepth 100000 in
set_option maxHeartbeats 1000000 in
theorem sameR_any (A A' : Option Addr) (c c' : Nat) (l m : List CV) (Z Z' : Nat → Prop) (w : World) (h : Chs w Z A l) (h' : Chs w Z' A' m) :
    Calls Try.prog 39 #[.slice A l.length c, .slice A' m.length c'] w fun e w' => e = .returned (.bool (sameCs l m)) ∧ Below w.heap.size w w' := by
  obtain ⟨M, hM⟩ : ∃ M, M = sameCs l m := ⟨_, rfl⟩
  rw [← hM]
  have HM := Lib.hid hM
  have hl1 := h.len
  have hl2 := h'.len
  by_cases hne : l.length = m.length
  · have HE := Lib.hid hne
    rw [← hne]
    clear hl2
    go_enter Try.func39, Try.ntmps39
    go_wp2_with fail
    go_loopw [5] (fun iv wr => ∃ i : Nat, i ≤ l.length ∧ iv = .int .i64 (i : Int) ∧ Hid (∀ (j : Nat) (a b : CV), j < i → l[j]? = some a → m[j]? = some b → sameC a b = true) ∧ Below w.heap.size w wr) (fun iv _ => l.length - (intOf iv).toNat)
    case atStart => exact ⟨0, Nat.zero_le _, rfl, fun j a b hj => absurd hj (Nat.not_lt_zero _), Below.refl _ _⟩
    case round =>
      obtain ⟨i, hi, rfl, hd, hb⟩ := hrel
      by_cases hlt : i < l.length
      · obtain ⟨b, off, rfl, hz, hbb, at1⟩ := ch_at (h.rd.below hb) hlt
        obtain ⟨b', off', rfl, hz', hbb', at2⟩ := ch_at (h'.rd.below hb) (by rw [← HE.out]; exact hlt)
        have hx : l[i]? = some l[i] := List.getElem?_eq_getElem hlt
        have hy : m[i]? = some m[i] := List.getElem?_eq_getElem (by rw [← HE.out]; exact hlt)
        have HX := Lib.hid hx
        have HY := Lib.hid hy
        clear hx hy
        generalize l[i] = x at *
        generalize m[i] = y at *
        have kn := fun w => neq_chg x y w
        have hS : Hid (sameC x y = false → M = false) := fun e => by
          rw [HM.out]
          cases hh : sameCs l m with
          | false => rfl
          | true =>
            have := (sameCs_iff l m).1 hh
            subst this
            have hxy := HX.out.symm.trans HY.out
            injection hxy with hxy
            rw [(sameC_iff x y).2 hxy] at e
            cases e
        have hT : Hid (sameC x y = true → ∀ (j : Nat) (a b : CV), j < i + 1 → l[j]? = some a → m[j]? = some b → sameC a b = true) := fun e j a b hj ha hb => by
          rcases Nat.lt_or_ge j i with h | h
          · exact hd.out j a b h ha hb
          · obtain rfl : j = i := by omega
            rw [HX.out] at ha
            rw [HY.out] at hb
            injection ha with ha
            injection hb with hb
            rw [← ha, ← hb]
            exact e
        generalize sameC x y = S at *
        clear hd
        have hw1 : Below w.heap.size w wr := hb
        cases S
        · have HM2 : Hid (M = false) := hS.out rfl
          clear hS hT
          go_wp2_with fail
          refine wp_region_class 9 (fun w' => Below wr.heap.size wr w') (by kernel_rfl) (by kernel_rfl) (Below.refl _ _).drew ?_
          simp only [List.take_succ_cons, List.take_zero, List.drop_succ_cons, List.drop_zero]
          refine cls_move _ (by kernel_rfl) rfl ⟨_, (by ((try simp [go_sem]); (try rfl); done)), _, (by (simp only [Act.put, List.setIfInBounds_toArray, List.set_cons_zero, List.set_cons_succ]; rfl)), ?_⟩
          refine cls_move _ (by kernel_rfl) rfl ⟨_, (by ((try simp [go_sem]); (try rfl); done)), _, (by (simp only [Act.put, List.setIfInBounds_toArray, List.set_cons_zero, List.set_cons_succ]; rfl)), ?_⟩
          refine cls_val (by kernel_rfl) ⟨_, (by (intro w' hC; clear hC; (try go_simp); (try with_reducible rfl); done)), _, (by (simp only [Act.put, List.setIfInBounds_toArray, List.set_cons_zero, List.set_cons_succ]; rfl)), ?_⟩
          refine cls_val (by kernel_rfl) ⟨_, (by (intro w' hC; (obtain ⟨a0, a1, a2, a3, a4, a5, a6, a7, a8⟩ := at1.below hbb hC); clear hC; (try go_simp); (try with_reducible rfl); done)), _, (by (simp only [Act.put, List.setIfInBounds_toArray, List.set_cons_zero, List.set_cons_succ]; rfl)), ?_⟩
          refine cls_move _ (by kernel_rfl) rfl ⟨_, (by ((try simp [go_sem]); (try rfl); done)), _, (by (simp only [Act.put, List.setIfInBounds_toArray, List.set_cons_zero, List.set_cons_succ]; rfl)), ?_⟩
          refine cls_move _ (by kernel_rfl) rfl ⟨_, (by ((try simp [go_sem]); (try rfl); done)), _, (by (simp only [Act.put, List.setIfInBounds_toArray, List.set_cons_zero, List.set_cons_succ]; rfl)), ?_⟩
          refine cls_val (by kernel_rfl) ⟨_, (by (intro w' hC; clear hC; (try go_simp); (try with_reducible rfl); done)), _, (by (simp only [Act.put, List.setIfInBounds_toArray, List.set_cons_zero, List.set_cons_succ]; rfl)), ?_⟩
          refine cls_val (by kernel_rfl) ⟨_, (by (intro w' hC; (obtain ⟨c0, c1, c2, c3, c4, c5, c6, c7, c8⟩ := at2.below hbb' hC); clear hC; (try go_simp); (try with_reducible rfl); done)), _, (by (simp only [Act.put, List.setIfInBounds_toArray, List.set_cons_zero, List.set_cons_succ]; rfl)), ?_⟩
          refine cls_val (by kernel_rfl) ⟨_, (by (intro w' hC; clear hC; (try go_simp); (try with_reducible rfl); done)), _, (by (simp only [Act.put, List.setIfInBounds_toArray, List.set_cons_zero, List.set_cons_succ]; rfl)), ?_⟩
          refine cls_end ?_
          intro w2 hb2
          go_wp2_with fail
          go_ret
          exact ⟨ret_b HM2.out.symm, hb.trans (hb2.mono hb.size)⟩
        · have HT := Lib.hid (hT.out rfl)
          clear hS hT
          go_wp2_with fail
          refine wp_region_class 9 (fun w' => Below wr.heap.size wr w') (by kernel_rfl) (by kernel_rfl) (Below.refl _ _).drew ?_
          simp only [List.take_succ_cons, List.take_zero, List.drop_succ_cons, List.drop_zero]
          refine cls_move _ (by kernel_rfl) rfl ⟨_, (by ((try simp [go_sem]); (try rfl); done)), _, (by (simp only [Act.put, List.setIfInBounds_toArray, List.set_cons_zero, List.set_cons_succ]; rfl)), ?_⟩
          refine cls_move _ (by kernel_rfl) rfl ⟨_, (by ((try simp [go_sem]); (try rfl); done)), _, (by (simp only [Act.put, List.setIfInBounds_toArray, List.set_cons_zero, List.set_cons_succ]; rfl)), ?_⟩
          refine cls_val (by kernel_rfl) ⟨_, (by (intro w' hC; clear hC; (try go_simp); (try with_reducible rfl); done)), _, (by (simp only [Act.put, List.setIfInBounds_toArray, List.set_cons_zero, List.set_cons_succ]; rfl)), ?_⟩
          refine cls_val (by kernel_rfl) ⟨_, (by (intro w' hC; (obtain ⟨a0, a1, a2, a3, a4, a5, a6, a7, a8⟩ := at1.below hbb hC); clear hC; (try go_simp); (try with_reducible rfl); done)), _, (by (simp only [Act.put, List.setIfInBounds_toArray, List.set_cons_zero, List.set_cons_succ]; rfl)), ?_⟩
          refine cls_move _ (by kernel_rfl) rfl ⟨_, (by ((try simp [go_sem]); (try rfl); done)), _, (by (simp only [Act.put, List.setIfInBounds_toArray, List.set_cons_zero, List.set_cons_succ]; rfl)), ?_⟩
          refine cls_move _ (by kernel_rfl) rfl ⟨_, (by ((try simp [go_sem]); (try rfl); done)), _, (by (simp only [Act.put, List.setIfInBounds_toArray, List.set_cons_zero, List.set_cons_succ]; rfl)), ?_⟩
          refine cls_val (by kernel_rfl) ⟨_, (by (intro w' hC; clear hC; (try go_simp); (try with_reducible rfl); done)), _, (by (simp only [Act.put, List.setIfInBounds_toArray, List.set_cons_zero, List.set_cons_succ]; rfl)), ?_⟩
          refine cls_val (by kernel_rfl) ⟨_, (by (intro w' hC; (obtain ⟨c0, c1, c2, c3, c4, c5, c6, c7, c8⟩ := at2.below hbb' hC); clear hC; (try go_simp); (try with_reducible rfl); done)), _, (by (simp only [Act.put, List.setIfInBounds_toArray, List.set_cons_zero, List.set_cons_succ]; rfl)), ?_⟩
          refine cls_val (by kernel_rfl) ⟨_, (by (intro w' hC; clear hC; (try go_simp); (try with_reducible rfl); done)), _, (by (simp only [Act.put, List.setIfInBounds_toArray, List.set_cons_zero, List.set_cons_succ]; rfl)), ?_⟩
          refine cls_end ?_
          intro w2 hb2
          go_wp2_with fail
          go_roundw
          case rel => exact ⟨i + 1, hlt, by go_num, HT.out, hb.trans (hb2.mono hb.size)⟩
          case measure => simp [intOf]; omega
      · have e : i = l.length := by omega
        subst e
        go_wp2_with fail
        go_ret
        refine ⟨ret_b ?_, hb⟩
        rw [HM.out]
        symm
        rw [sameCs_iff]
        apply List.ext_getElem HE.out
        intro j h1 h2
        exact (sameC_iff _ _).1 (hd.out j _ _ h1 (List.getElem?_eq_getElem h1) (List.getElem?_eq_getElem h2))
  · have hF : M = false := by
      rw [hM]
      unfold sameCs
      simp [hne]
    have hne2 : ((l.length : Int) != (m.length : Int)) = true := by simp; omega
    subst hF
    clear hM hne
    go_enter Try.func39, Try.ntmps39
    go_wp2_with fail
    go_ret
    exact ⟨rfl, Below.refl _ _⟩
end Go.Proofs.Ytffimpjjdhnajaa
