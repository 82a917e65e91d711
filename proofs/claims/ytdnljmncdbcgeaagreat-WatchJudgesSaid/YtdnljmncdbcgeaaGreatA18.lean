/- book.Book: Put. -/
import Derived.Test.YtdnljmncdbcgeaaGreatA17

namespace Go.Proofs.YtdnljmncdbcgeaaGreat
open Go.RowKit Go.Maps

/-- what a call that writes a book leaves -/
structure BookTo (w : World) (bb : Nat) (mo : Option Nat) (T : List (List UInt8 × EP)) (s : Int) (w' : World) : Prop where
  at_ : ∃ mo' L', BookAt w' bb mo' L' s ∧ Hid (plainB L' = T) ∧ ∀ m, mo' = some m → mo = some m ∨ w.heap.size ≤ m
  fr : Fr (fun g => g = bb ∨ mo = some g) w w'
theorem BookTo.of {w w' : World} {bb : Nat} {mo : Option Nat} {L : List (List UInt8 × EV)} {s : Int} (h : BookAt w bb mo L s) (k : Below w.heap.size w w') : BookTo w bb mo (plainB L) s w' :=
  ⟨⟨mo, L, h.below k, rfl, fun _ e => .inl e⟩, Fr.of_below k _⟩
theorem map_eq_nilB (w : World) (m : Option Nat) : (binOp .eql 117 (.map m) (.map none)).run Tryz.prog w = .ok (.bool m.isNone) w := run_eql_map_nil w _ _ _ m Tryz.underlying117
/-- bytes do not stand where a book stands -/
theorem By.not_book {w : World} {Z : Nat → Prop} {A : Option Addr} {l : List UInt8} {tb : Nat} {t : TypeId} {s : Int} {mo : Option Nat} (h : By w Z A l) (hb : Blk w tb t #[.int .u64 s, .map mo]) : By w (fun b => b ≠ tb) A l := by
  refine ⟨h.1, fun hn => ?_⟩
  obtain ⟨b, off, e, hz, hlt, hc⟩ := h.2 hn
  refine ⟨b, off, e, fun eb => ?_, hlt, hc⟩
  subst eb
  rcases l with _ | ⟨x, l⟩
  · simp at hn
  · have h1 := hc 0 (bv x) rfl
    rw [hb.cell, Nat.add_zero] at h1
    rcases off with _ | _ | off <;> simp [bv] at h1
/-- bytes do not stand where a map stands -/
theorem By.not_mapAt {w : World} {Z : Nat → Prop} {A : Option Addr} {l : List UInt8} {mb : Nat} {K : List (List UInt8 × Value)} (h : By w Z A l) (hm : MapAt w Tryz.prog 9 mb K) : By w (fun b => Z b ∧ b ≠ mb) A l := by
  refine ⟨h.1, fun hn => ?_⟩
  obtain ⟨b, off, e, hz, hlt, hc⟩ := h.2 hn
  refine ⟨b, off, e, ⟨hz, fun eb => ?_⟩, hlt, hc⟩
  subst eb
  rcases l with _ | ⟨x, l⟩
  · simp at hn
  · have h1 := hc 0 (bv x) rfl
    obtain ⟨D, ⟨es, clock, h2, _⟩, _⟩ := hm.own
    simp [World.cell?, h2] at h1
/-- the map written -/
theorem BookAt.stored {w w' : World} {bb mb : Nat} {L : List (List UInt8 × EV)} {s : Int} {p : List UInt8} {o : EV} (hb : Blk w bb 119 #[.int .u64 s, .map (some mb)]) (hm : MapAt w' Tryz.prog 9 mb (putR (mapB L) p o.val)) (hg : w.grownBy w' (some mb)) (hne : mb ≠ bb)
    {K : List (List UInt8 × Value)} (hm0 : MapAt w Tryz.prog 9 mb K) (hok : ∀ x ∈ L, x.2.inB w x.1) (ho : o.inB w p) (hpl : BookOk (plainB (putR L p o))) : BookAt w' bb (some mb) (putR L p o) s := by
  have f : Fr (fun g => g = mb) w w' := Fr.of_grown hg (fun k _ e => by injection e with e; exact e.symm)
  refine ⟨hb.grown hg (by simpa using hne), .inr ⟨mb, rfl, by rw [mapB_put]; exact hm⟩, fun x hx => ?_, hpl⟩
  unfold putR at hx
  rcases mem_ins.1 hx with rfl | hx
  · exact ⟨own_fr ho.own f (fun g e1 e2 => BookAt.own_map hm0 ho.own (by rw [e1, e2])), ho.p⟩
  · have hx2 := hok x (List.mem_filter.1 hx).1
    exact ⟨own_fr hx2.own f (fun g e1 e2 => BookAt.own_map hm0 hx2.own (by rw [e1, e2])), hx2.p⟩
theorem BookAt.dropped {w w' : World} {bb mb : Nat} {L : List (List UInt8 × EV)} {s : Int} {p : List UInt8} (h : BookAt w bb (some mb) L s) (hm : MapAt w' Tryz.prog 9 mb (withoutR (mapB L) p)) (hg : w.grownBy w' (some mb)) (hpl : BookOk (plainB (withoutR L p))) : BookAt w' bb (some mb) (withoutR L p) s := by
  have f : Fr (fun g => g = mb) w w' := Fr.of_grown hg (fun k _ e => by injection e with e; exact e.symm)
  refine ⟨h.blk.grown hg (fun e => h.ne e), .inr ⟨mb, rfl, by rw [mapB_without]; exact hm⟩, fun x hx => ?_, hpl⟩
  have hx2 := h.ok x (List.mem_filter.1 hx).1
  exact ⟨own_fr hx2.own f (fun g e1 e2 => h.ownT hx2.own (by decide) g e1 (.inr (by rw [e2]))), hx2.p⟩
theorem BookOk.without {T : List (List UInt8 × EP)} (h : BookOk T) (p : List UInt8) : BookOk (withoutR T p) := ⟨h.sort.without p, fun x hx => h.good x (List.mem_filter.1 hx).1, Nat.le_trans (without_len_le T p) h.len⟩
theorem BookAt.mapSome {w : World} {bb mb : Nat} {L : List (List UInt8 × EV)} {s : Int} (h : BookAt w bb (some mb) L s) : MapAt w Tryz.prog 9 mb (mapB L) := by
  rcases h.map with ⟨e, _⟩ | ⟨mb', e, hm⟩
  · cases e
  · injection e with e; subst e; exact hm
theorem BookAt.some_of {w : World} {bb : Nat} {mo : Option Nat} {L : List (List UInt8 × EV)} {s : Int} (h : BookAt w bb mo L s) (hL : L ≠ []) : ∃ mb, mo = some mb := by
  rcases h.map with ⟨_, e⟩ | ⟨mb, e, _⟩
  · exact absurd e hL
  · exact ⟨mb, e⟩

set_option maxRecDepth 100000 in
set_option maxHeartbeats 2000000 in
theorem bookPut_any (bb : Nat) (mo : Option Nat) (L : List (List UInt8 × EV)) (s : Int) (p : List UInt8) (v k : Int) (A : Option Addr) (c : Nat) (l : List UInt8) (Z : Nat → Prop) (w : World) (h : BookAt w bb mo L s) (hy : By w Z A l) (hp : p.length ≤ 1048576) (hv : 0 ≤ v ∧ v < 18446744073709551616) (hn : l.length ≤ 140737488355328) :
    Calls Tryz.prog 26 #[.pointer (some ⟨bb, 0, none⟩), .agg #[.string ⟨⟨p⟩⟩, .int .u64 v, .int .i64 k, .slice A l.length c]] w fun e w' => e = .returned (.int .i64 (putP (plainB L) p (v, k, l)).2) ∧ BookTo w bb mo (putP (plainB L) p (v, k, l)).1 s w' := by
  have HPL := Lib.hid (h.plain.put p (v, k, l))
  obtain ⟨R, hR⟩ : ∃ R, R = putP (plainB L) p (v, k, l) := ⟨_, rfl⟩
  rw [← hR]
  rw [← hR] at HPL
  obtain ⟨T, M⟩ := R
  dsimp only at HPL ⊢
  have HR := Lib.hid hR
  have HB := Lib.hid h
  have HY := Lib.hid hy
  have hb0 : Below w.heap.size w (w.alloc (.cells #[.string ⟨⟨p⟩⟩, .int .u64 v, .int .i64 k, .slice A l.length c] 59)) := (by repeat (first | exact Below.refl _ _ | refine Below.alloc ?_ (by simp) _ | refine Below.setCell ?_ (by simp) _ | refine Below.drew ?_))
  have x0 := Blk.new w 59 #[.string ⟨⟨p⟩⟩, .int .u64 v, .int .i64 k, .slice A l.length c]
  obtain ⟨C, hC⟩ : ∃ C, C = checkP p (v, k, l) := ⟨_, rfl⟩
  have HCK := Lib.hid (entryCheck_any ⟨⟨p⟩⟩ v k A l.length c (w.alloc (.cells #[.string ⟨⟨p⟩⟩, .int .u64 v, .int .i64 k, .slice A l.length c] 59)) (by show p.length ≤ _; omega) hv hn)
  rw [show checkE (tl ⟨⟨p⟩⟩) v k l.length = C from hC.symm] at HCK
  have HC := Lib.hid hC
  clear h hy hR hC
  go_enter Tryz.func26, Tryz.ntmps26
  go_wp2_with fail
  refine HCK.out.mono ?_
  rintro e w1 ⟨rfl, hb1⟩
  have hw1 := hb0.trans (hb1.mono hb0.size)
  have x1 := x0.below hb1
  clear x0 hb0 hb1 HCK
  by_cases hC0 : C = 0
  · have hCb : (C != 0) = false := by simp [hC0]
    have HC0 := Lib.hid hC0
    clear hC0
    have HR1 : Hid ((T, M) = if v ≤ ((getR (plainB L) p).map (·.1)).getD 0 then (plainB L, (31 : Int)) else if (getR (plainB L) p).isNone = true ∧ 256 ≤ (plainB L).length then ((spareB (plainB L)).elim (plainB L, (24 : Int)) fun y => (putR (withoutR (plainB L) y.1) p (v, k, l), (0 : Int))) else (putR (plainB L) p (v, k, l), 0)) := Lib.hid (by
      rw [HR.out]
      unfold putP putB
      rw [if_neg (by rw [← HC.out, HC0.out]; simp)])
    have hgood := checkP_good (p := p) (x := (v, k, l)) (by rw [← HC.out, HC0.out])
    have hvp := isV_pos hgood.2.1
    dsimp only at hvp
    rw [get_plainB, plainB_len] at HR1
    have q0 : w1.cell? ⟨w.heap.size, 0, none⟩ = some (.string ⟨⟨p⟩⟩) := x1.cell 0
    have HG := Lib.hid (bookget_any bb mo L s p w1 (HB.out.below hw1) (by simp only [maxLen]; omega))
    have HLL := Lib.hid HB.out.len
    clear HR HC HC0 hgood
    go_wp2_with fail
    refine HG.out.mono ?_
    rintro e w2 ⟨⟨o, rfl, ho⟩, hb2⟩
    have hw2 := hw1.trans (hb2.mono hw1.size)
    have x2 := x1.below hb2
    have hba : Below w2.heap.size w2 (w2.alloc (.cells #[.string o.p, .int .u64 o.v, .int .i64 o.k, .slice o.x.A o.x.l.length o.x.c] 59)) := (Below.refl _ _).alloc (Nat.le_refl _) _
    have y3 := Blk.new w2 59 #[.string o.p, .int .u64 o.v, .int .i64 o.k, .slice o.x.A o.x.l.length o.x.c]
    have x3 := x2.below hba
    have hw3 := hw2.trans (hba.mono hw2.size)
    clear q0 x1 hb2 HG
    go_upto_region 7 with (fail)
    generalize w2.alloc (.cells #[.string o.p, .int .u64 o.v, .int .i64 o.k, .slice o.x.A o.x.l.length o.x.c] 59) = w3 at *
    clear hba x2
    have r0 := y3.cell 0
    have r1 := y3.cell 1
    have r2 := y3.cell 2
    have r3 := y3.cell 3
    have q0 := x3.cell 0
    have q1 := x3.cell 1
    have q2 := x3.cell 2
    have q3 := x3.cell 3
    simp only [List.getElem?_toArray, List.getElem?_cons_zero, List.getElem?_cons_succ] at r0 r1 r2 r3 q0 q1 q2 q3
    have hmn := fun W m => map_eq_nilB W m
    rcases hg : getR L p with _ | o'
    · rw [hg] at HR1
      have HR2 : Hid ((T, M) = if 256 ≤ L.length then ((spareB (plainB L)).elim (plainB L, (24 : Int)) fun y => (putR (withoutR (plainB L) y.1) p (v, k, l), (0 : Int))) else (putR (plainB L) p (v, k, l), 0)) := Lib.hid (by
        rw [HR1.out]
        rw [if_neg (by show ¬ v ≤ 0; omega)]
        simp)
      clear HR1 ho r0 r1 r2 r3 y3 hg
      by_cases hlen : 256 ≤ L.length
      · obtain ⟨mb, rfl⟩ := HB.out.some_of (by rintro rfl; simp at hlen)
        have hB3 := HB.out.below hw3
        have hcnt := fun ty => hB3.mapSome.count (w := w3) Tryz.underlying9 (t := 117) (e := 59) Tryz.underlying117 ty
        rw [mapB_len] at hcnt
        obtain ⟨_, c1⟩ := hB3.cells
        have hl2 : decide ((256 : Int) ≤ (L.length : Int)) = true := decide_eq_true (by omega)
        have HSP := Lib.hid (bookspare_any bb mb L s w3 hB3)
        have HR3 := Lib.hid HR2.out
        rw [if_pos hlen] at HR3
        clear HR2
        go_wp2_with fail
        refine HSP.out.mono ?_
        rintro e w4 ⟨⟨oy, rfl, hoy, hoL⟩, hb4⟩
        have hw4 := hw3.trans (hb4.mono hw3.size)
        have x4 := x3.below hb4
        have hB4 := HB.out.below hw4
        obtain ⟨_, c14⟩ := hB4.cells
        rw [hoy.out] at HR3
        clear c1 hcnt HSP q0 q1 q2 q3 hB3
        rcases oy with _ | y
        · obtain ⟨rfl, rfl⟩ : T = plainB L ∧ M = 24 := by simpa using HR3.out
          clear hmn
          go_wp2_with fail
          go_ret
          exact ⟨rfl, BookTo.of HB.out hw4⟩
        · have hym := hoL.out y rfl
          obtain ⟨hT, rfl⟩ : T = putR (withoutR (plainB L) y.1) p (v, k, l) ∧ M = 0 := by simpa using HR3.out
          have HT3 : Hid (T = putR (plainB (withoutR L y.1)) p (v, k, l)) := Lib.hid (by rw [plainB_without]; exact hT)
          have hyk := HB.out.keys hym
          obtain ⟨w5, hrun5, hm5, hg5, _⟩ := hB4.mapSome.drop Tryz.underlying9 (t := 117) (e := 59) Tryz.underlying117 (txtO (some y)) (by show y.1.length ≤ _; simp only [maxLen]; omega) 0
          have hB5 := hB4.dropped (p := y.1) hm5 hg5 (by rw [plainB_without]; exact hB4.plain.without _)
          have f5 : Fr (fun g => g = mb) w4 w5 := Fr.of_grown hg5 (fun k _ e => by injection e with e; exact e.symm)
          have hmlt := HB.out.lt mb rfl
          have x5 := x4.fr f5 (by intro e; omega)
          obtain ⟨_, c15⟩ := hB5.cells
          have HY5 := Lib.hid (show By w5 (fun _ => True) A l from (((HY.out.below hw4).not_mapAt hB4.mapSome).fr f5 (fun b _ hz e => hz.2 e)).mono (fun _ _ _ => trivial))
          have hfr3 : Fr (fun g => g = bb ∨ (some mb : Option Nat) = some g) w w5 := (Fr.of_below hw4 _).trans f5 (fun x _ e => .inr (by rw [e]))
          have hLLl : (withoutR L y.1).length ≤ 256 := Nat.le_trans (without_len_le L y.1) HLL.out
          have b3 := hB5.blk
          have hm3 := hB5.mapSome
          have hok3 := hB5.ok
          have hne3 : mb ≠ bb := fun e => hB5.ne (by rw [e])
          have hx3 := x5
          have HY3 := HY5
          clear HR3 hB4 hB5 hm5 x3 x4 hT hyk hym f5
          go_wp2_with fail
          clear c14 c15 hrun5 x5 HY5 hmn
          refine wp_region_m [true, true, true, true, true, true, true, false] (fun W => Below w5.heap.size w5 W) (by kernel_rfl) (by kernel_rfl) ?_
          simp only [List.length_cons, List.length_nil, Nat.zero_add, Nat.reduceAdd, List.take_succ_cons, List.take_zero, List.drop_succ_cons, List.drop_zero]
          refine mx_move _ (by kernel_rfl) rfl ⟨_, (by ((try simp [go_sem]); (try rfl); done)), _, (by (simp only [Act.put, List.setIfInBounds_toArray, List.set_cons_zero, List.set_cons_succ]; rfl)), ?_⟩
          refine mx_val (by kernel_rfl) ⟨_, (by (intro w' hC; clear hC; (try go_simp); (try with_reducible rfl); done)), _, (by (simp only [Act.put, List.setIfInBounds_toArray, List.set_cons_zero, List.set_cons_succ]; rfl)), ?_⟩
          refine mx_val (by kernel_rfl) ⟨_, (by (intro w' hC; clear hC; (try go_simp); (try with_reducible rfl); done)), _, (by (simp only [Act.put, List.setIfInBounds_toArray, List.set_cons_zero, List.set_cons_succ]; rfl)), ?_⟩
          refine mx_val (by kernel_rfl) ⟨_, (by (intro w' hC; (have q := (b3.below hC).cell 1; simp only [List.getElem?_toArray, List.getElem?_cons_zero, List.getElem?_cons_succ] at q); clear hC; (try go_simp); (try with_reducible rfl); done)), _, (by (simp only [Act.put, List.setIfInBounds_toArray, List.set_cons_zero, List.set_cons_succ]; rfl)), ?_⟩
          refine mx_val (by kernel_rfl) ⟨_, (by (intro w' hC; clear hC; (try go_simp); (try with_reducible rfl); done)), _, (by (simp only [Act.put, List.setIfInBounds_toArray, List.set_cons_zero, List.set_cons_succ]; rfl)), ?_⟩
          refine mx_val (by kernel_rfl) ⟨_, (by (intro w' hC; (have q0 := (hx3.below hC).cell 0; have q1 := (hx3.below hC).cell 1; have q2 := (hx3.below hC).cell 2; have q3 := (hx3.below hC).cell 3; simp only [List.getElem?_toArray, List.getElem?_cons_zero, List.getElem?_cons_succ] at q0 q1 q2 q3); clear hC; (try go_simp); (try with_reducible rfl); done)), _, (by (simp only [Act.put, List.setIfInBounds_toArray, List.set_cons_zero, List.set_cons_succ]; rfl)), ?_⟩
          refine mx_val (by kernel_rfl) ⟨_, (by (intro w' hC; (have q0 := (hx3.below hC).cell 0; have q1 := (hx3.below hC).cell 1; have q2 := (hx3.below hC).cell 2; have q3 := (hx3.below hC).cell 3; simp only [List.getElem?_toArray, List.getElem?_cons_zero, List.getElem?_cons_succ] at q0 q1 q2 q3); clear hC; (try go_simp); (try with_reducible rfl); done)), _, (by (simp only [Act.put, List.setIfInBounds_toArray, List.set_cons_zero, List.set_cons_succ]; rfl)), ?_⟩
          refine mx_call ((Below.refl _ _).drew) (by kernel_rfl) ?_ (entryClone_any ⟨⟨p⟩⟩ v k A c l _ w5.drew (HY3.out.drew) hn) ?_
          · (go_simp; done)
          rintro e wa ⟨A4, c4, l4, rfl, hl4, ho4, hb4⟩
          have hlow4 : Below w5.heap.size w5 wa := (Below.refl _ _).drew.trans (hb4.mono (Nat.le_refl _))
          refine ⟨_, rfl, _, (by (simp only [Act.put, List.setIfInBounds_toArray, List.set_cons_zero, List.set_cons_succ]; rfl)), ?_⟩
          refine mx_end hlow4 ?_
          have b4 := b3.below hlow4
          have HPL4 : Hid (BookOk (plainB (putR (withoutR L y.1) p ⟨⟨⟨p⟩⟩, v, k, ⟨A4, c4, l4⟩⟩))) := Lib.hid (by
            rw [plainB_put, show EV.ep ⟨⟨⟨p⟩⟩, v, k, ⟨A4, c4, l4⟩⟩ = (v, k, l) by show (v, k, l4) = _; rw [hl4.out], ← HT3.out]
            exact HPL.out)
          have hlen3 : (mapB (withoutR L y.1)).length < maxLen := by rw [mapB_len]; simp only [maxLen]; omega
          obtain ⟨wb, hrun5, hm5, hg5, _⟩ := (hm3.below hlow4).store Tryz.underlying9 Tryz.underlying117 p (by simp only [maxLen]; omega) (.agg #[.string ⟨⟨p⟩⟩, .int .u64 v, .int .i64 k, .slice A4 l4.length c4]) hlen3
          have hlt3 := hm3.lt
          have htb3 := b3.lt
          have hoo : EV.inB wa p ⟨⟨⟨p⟩⟩, v, k, ⟨A4, c4, l4⟩⟩ := ⟨own_base ho4 (fun _ _ => Nat.zero_le _), rfl⟩
          have HD := Lib.hid (BookAt.stored (o := ⟨⟨⟨p⟩⟩, v, k, ⟨A4, c4, l4⟩⟩) b4 hm5 hg5 hne3 (hm3.below hlow4) (fun x hx => (hok3 x hx).below hlow4) hoo HPL4.out)
          have HPP : Hid (plainB (putR (withoutR L y.1) p ⟨⟨⟨p⟩⟩, v, k, ⟨A4, c4, l4⟩⟩) = T) := by show _ = _; rw [plainB_put, HT3.out]; show putR (plainB (withoutR L y.1)) p (v, k, l4) = _; rw [hl4.out]
          have hfr5 := hfr3.then_below hlow4
          clear b4 hm5 hm3 hok3 hoo ho4 b3 hx3 HY3 hl4 HPL4
          go_wp2_with fail
          go_ret
          refine ⟨rfl, ⟨some mb, _, HD.out, HPP, fun m e => by injection e with e; subst e; exact .inl rfl⟩, ?_⟩
          exact hfr5.trans (Fr.of_grown hg5 (S := fun g => some mb = some g) (fun k _ e => e)) (fun x hx e => by exact .inr e)
      · have hl2 : decide ((256 : Int) ≤ (L.length : Int)) = false := decide_eq_false (by omega)
        have HR3 := Lib.hid HR2.out
        rw [if_neg hlen] at HR3
        obtain ⟨hT, rfl⟩ : T = putR (plainB L) p (v, k, l) ∧ M = 0 := by simpa using HR3.out
        have hB3 := HB.out.below hw3
        have HT3 : Hid (T = putR (plainB L) p (v, k, l)) := Lib.hid hT
        clear HR2 HR3 hT
        rcases hB3.map with ⟨rfl, rfl⟩ | ⟨mb, rfl, hm⟩
        · have hmm := @run_makeMap Tryz.prog
          obtain ⟨_, c1⟩ := hB3.cells
          have hcnt := fun ty => (show (Builtin.len_ #[117] ty #[.map none]).run Tryz.prog w3 = .ok (.int .i64 0) w3 by kernel_rfl)
          have f1 := hB3.blk.frozen 1
          have hsz := hw3.size
          have htl := hB3.blk.lt
          have htw := HB.out.blk.lt
          have b3 : Blk ((w3.setCell ⟨bb, 1, none⟩ (.map (some w3.heap.size))).alloc (.map #[] 0)) bb 119 #[.int .u64 s, .map (some w3.heap.size)] := by simpa using (hB3.blk.set_ 1 (.map (some w3.heap.size))).alloc (.map #[] 0)
          have fS : Fr (fun g => g = bb) w3 ((w3.setCell ⟨bb, 1, none⟩ (.map (some w3.heap.size))).alloc (.map #[] 0)) := ((Fr.refl (fun g => g = bb) w3).setAt bb 1 rfl _).alloc _
          have hm3 : MapAt ((w3.setCell ⟨bb, 1, none⟩ (.map (some w3.heap.size))).alloc (.map #[] 0)) Tryz.prog 9 w3.heap.size (mapB []) := by have := MapAt.made (w3.setCell ⟨bb, 1, none⟩ (.map (some w3.heap.size))) Tryz.prog 9; rwa [show (w3.setCell ⟨bb, 1, none⟩ (.map (some w3.heap.size))).heap.size = w3.heap.size by simp [World.setCell]] at this
          have hx3 := x3.fr fS (by omega)
          have HY3 := Lib.hid (show By ((w3.setCell ⟨bb, 1, none⟩ (.map (some w3.heap.size))).alloc (.map #[] 0)) (fun _ => True) A l from (((HY.out.below hw3).not_book hB3.blk).fr fS (fun b _ hz e => hz e)).mono (fun _ _ _ => trivial))
          have hfr3 := (Fr.of_below hw3 (fun g => g = bb ∨ (none : Option Nat) = some g)).trans fS (fun x _ e => .inl e)
          have hne3 : w3.heap.size ≠ bb := by omega
          have hbig : w.heap.size ≤ w3.heap.size := hsz
          have hok3 : ∀ x ∈ ([] : List (List UInt8 × EV)), x.2.inB ((w3.setCell ⟨bb, 1, none⟩ (.map (some w3.heap.size))).alloc (.map #[] 0)) x.1 := by simp
          have hLLl : ([] : List (List UInt8 × EV)).length ≤ 256 := by simp
          go_wp2_with fail
          clear q0 q1 q2 q3 x3 f1 fS hmm c1 hmn hcnt hB3
          generalize (w3.setCell ⟨bb, 1, none⟩ (.map (some w3.heap.size))).alloc (.map #[] 0) = w6 at *
          generalize hmbe : w3.heap.size = mb at *
          clear hmbe
          refine wp_region_m [true, true, true, true, true, true, true, false] (fun W => Below w6.heap.size w6 W) (by kernel_rfl) (by kernel_rfl) ?_
          simp only [List.length_cons, List.length_nil, Nat.zero_add, Nat.reduceAdd, List.take_succ_cons, List.take_zero, List.drop_succ_cons, List.drop_zero]
          refine mx_move _ (by kernel_rfl) rfl ⟨_, (by ((try simp [go_sem]); (try rfl); done)), _, (by (simp only [Act.put, List.setIfInBounds_toArray, List.set_cons_zero, List.set_cons_succ]; rfl)), ?_⟩
          refine mx_val (by kernel_rfl) ⟨_, (by (intro w' hC; clear hC; (try go_simp); (try with_reducible rfl); done)), _, (by (simp only [Act.put, List.setIfInBounds_toArray, List.set_cons_zero, List.set_cons_succ]; rfl)), ?_⟩
          refine mx_val (by kernel_rfl) ⟨_, (by (intro w' hC; clear hC; (try go_simp); (try with_reducible rfl); done)), _, (by (simp only [Act.put, List.setIfInBounds_toArray, List.set_cons_zero, List.set_cons_succ]; rfl)), ?_⟩
          refine mx_val (by kernel_rfl) ⟨_, (by (intro w' hC; (have q := (b3.below hC).cell 1; simp only [List.getElem?_toArray, List.getElem?_cons_zero, List.getElem?_cons_succ] at q); clear hC; (try go_simp); (try with_reducible rfl); done)), _, (by (simp only [Act.put, List.setIfInBounds_toArray, List.set_cons_zero, List.set_cons_succ]; rfl)), ?_⟩
          refine mx_val (by kernel_rfl) ⟨_, (by (intro w' hC; clear hC; (try go_simp); (try with_reducible rfl); done)), _, (by (simp only [Act.put, List.setIfInBounds_toArray, List.set_cons_zero, List.set_cons_succ]; rfl)), ?_⟩
          refine mx_val (by kernel_rfl) ⟨_, (by (intro w' hC; (have q0 := (hx3.below hC).cell 0; have q1 := (hx3.below hC).cell 1; have q2 := (hx3.below hC).cell 2; have q3 := (hx3.below hC).cell 3; simp only [List.getElem?_toArray, List.getElem?_cons_zero, List.getElem?_cons_succ] at q0 q1 q2 q3); clear hC; (try go_simp); (try with_reducible rfl); done)), _, (by (simp only [Act.put, List.setIfInBounds_toArray, List.set_cons_zero, List.set_cons_succ]; rfl)), ?_⟩
          refine mx_val (by kernel_rfl) ⟨_, (by (intro w' hC; (have q0 := (hx3.below hC).cell 0; have q1 := (hx3.below hC).cell 1; have q2 := (hx3.below hC).cell 2; have q3 := (hx3.below hC).cell 3; simp only [List.getElem?_toArray, List.getElem?_cons_zero, List.getElem?_cons_succ] at q0 q1 q2 q3); clear hC; (try go_simp); (try with_reducible rfl); done)), _, (by (simp only [Act.put, List.setIfInBounds_toArray, List.set_cons_zero, List.set_cons_succ]; rfl)), ?_⟩
          refine mx_call ((Below.refl _ _).drew) (by kernel_rfl) ?_ (entryClone_any ⟨⟨p⟩⟩ v k A c l _ w6.drew (HY3.out.drew) hn) ?_
          · (go_simp; done)
          rintro e wa ⟨A4, c4, l4, rfl, hl4, ho4, hb4⟩
          have hlow4 : Below w6.heap.size w6 wa := (Below.refl _ _).drew.trans (hb4.mono (Nat.le_refl _))
          refine ⟨_, rfl, _, (by (simp only [Act.put, List.setIfInBounds_toArray, List.set_cons_zero, List.set_cons_succ]; rfl)), ?_⟩
          refine mx_end hlow4 ?_
          have b4 := b3.below hlow4
          have HPL4 : Hid (BookOk (plainB (putR ([] : List (List UInt8 × EV)) p ⟨⟨⟨p⟩⟩, v, k, ⟨A4, c4, l4⟩⟩))) := Lib.hid (by
            rw [plainB_put, show EV.ep ⟨⟨⟨p⟩⟩, v, k, ⟨A4, c4, l4⟩⟩ = (v, k, l) by show (v, k, l4) = _; rw [hl4.out], ← HT3.out]
            exact HPL.out)
          have hlen3 : (mapB ([] : List (List UInt8 × EV))).length < maxLen := by rw [mapB_len]; simp only [maxLen]; omega
          obtain ⟨wb, hrun5, hm5, hg5, _⟩ := (hm3.below hlow4).store Tryz.underlying9 Tryz.underlying117 p (by simp only [maxLen]; omega) (.agg #[.string ⟨⟨p⟩⟩, .int .u64 v, .int .i64 k, .slice A4 l4.length c4]) hlen3
          have hlt3 := hm3.lt
          have htb3 := b3.lt
          have hoo : EV.inB wa p ⟨⟨⟨p⟩⟩, v, k, ⟨A4, c4, l4⟩⟩ := ⟨own_base ho4 (fun _ _ => Nat.zero_le _), rfl⟩
          have HD := Lib.hid (BookAt.stored (o := ⟨⟨⟨p⟩⟩, v, k, ⟨A4, c4, l4⟩⟩) b4 hm5 hg5 hne3 (hm3.below hlow4) (fun x hx => (hok3 x hx).below hlow4) hoo HPL4.out)
          have HPP : Hid (plainB (putR ([] : List (List UInt8 × EV)) p ⟨⟨⟨p⟩⟩, v, k, ⟨A4, c4, l4⟩⟩) = T) := by show _ = _; rw [plainB_put, HT3.out]; show putR (plainB ([] : List (List UInt8 × EV))) p (v, k, l4) = _; rw [hl4.out]
          have hfr5 := hfr3.then_below hlow4
          clear b4 hm5 hm3 hok3 hoo ho4 b3 hx3 HY3 hl4 HPL4
          go_wp2_with fail
          go_ret
          refine ⟨rfl, ⟨some mb, _, HD.out, HPP, fun m e => by injection e with e; subst e; exact .inr hbig⟩, ?_⟩
          exact hfr5.trans (Fr.of_grown hg5 (S := fun g => some mb = some g) (fun k _ e => e)) (fun x hx e => by injection e with e; omega)
        · have hcnt := fun ty => hB3.mapSome.count (w := w3) Tryz.underlying9 (t := 117) (e := 59) Tryz.underlying117 ty
          rw [mapB_len] at hcnt
          have b3 := hB3.blk
          have hm3 := hB3.mapSome
          have hok3 := hB3.ok
          have hne3 : mb ≠ bb := fun e => hB3.ne (by rw [e])
          have hLLl := HLL.out
          have hx3 := x3
          have HY3 := Lib.hid (show By w3 (fun _ => True) A l from (HY.out.below hw3).mono (fun _ _ _ => trivial))
          have hfr3 : Fr (fun g => g = bb ∨ (some mb : Option Nat) = some g) w w3 := Fr.of_below hw3 _
          obtain ⟨_, c1⟩ := hB3.cells
          clear hB3 hm
          go_wp2_with fail
          clear q0 q1 q2 q3 x3 c1 hcnt hmn
          refine wp_region_m [true, true, true, true, true, true, true, false] (fun W => Below w3.heap.size w3 W) (by kernel_rfl) (by kernel_rfl) ?_
          simp only [List.length_cons, List.length_nil, Nat.zero_add, Nat.reduceAdd, List.take_succ_cons, List.take_zero, List.drop_succ_cons, List.drop_zero]
          refine mx_move _ (by kernel_rfl) rfl ⟨_, (by ((try simp [go_sem]); (try rfl); done)), _, (by (simp only [Act.put, List.setIfInBounds_toArray, List.set_cons_zero, List.set_cons_succ]; rfl)), ?_⟩
          refine mx_val (by kernel_rfl) ⟨_, (by (intro w' hC; clear hC; (try go_simp); (try with_reducible rfl); done)), _, (by (simp only [Act.put, List.setIfInBounds_toArray, List.set_cons_zero, List.set_cons_succ]; rfl)), ?_⟩
          refine mx_val (by kernel_rfl) ⟨_, (by (intro w' hC; clear hC; (try go_simp); (try with_reducible rfl); done)), _, (by (simp only [Act.put, List.setIfInBounds_toArray, List.set_cons_zero, List.set_cons_succ]; rfl)), ?_⟩
          refine mx_val (by kernel_rfl) ⟨_, (by (intro w' hC; (have q := (b3.below hC).cell 1; simp only [List.getElem?_toArray, List.getElem?_cons_zero, List.getElem?_cons_succ] at q); clear hC; (try go_simp); (try with_reducible rfl); done)), _, (by (simp only [Act.put, List.setIfInBounds_toArray, List.set_cons_zero, List.set_cons_succ]; rfl)), ?_⟩
          refine mx_val (by kernel_rfl) ⟨_, (by (intro w' hC; clear hC; (try go_simp); (try with_reducible rfl); done)), _, (by (simp only [Act.put, List.setIfInBounds_toArray, List.set_cons_zero, List.set_cons_succ]; rfl)), ?_⟩
          refine mx_val (by kernel_rfl) ⟨_, (by (intro w' hC; (have q0 := (hx3.below hC).cell 0; have q1 := (hx3.below hC).cell 1; have q2 := (hx3.below hC).cell 2; have q3 := (hx3.below hC).cell 3; simp only [List.getElem?_toArray, List.getElem?_cons_zero, List.getElem?_cons_succ] at q0 q1 q2 q3); clear hC; (try go_simp); (try with_reducible rfl); done)), _, (by (simp only [Act.put, List.setIfInBounds_toArray, List.set_cons_zero, List.set_cons_succ]; rfl)), ?_⟩
          refine mx_val (by kernel_rfl) ⟨_, (by (intro w' hC; (have q0 := (hx3.below hC).cell 0; have q1 := (hx3.below hC).cell 1; have q2 := (hx3.below hC).cell 2; have q3 := (hx3.below hC).cell 3; simp only [List.getElem?_toArray, List.getElem?_cons_zero, List.getElem?_cons_succ] at q0 q1 q2 q3); clear hC; (try go_simp); (try with_reducible rfl); done)), _, (by (simp only [Act.put, List.setIfInBounds_toArray, List.set_cons_zero, List.set_cons_succ]; rfl)), ?_⟩
          refine mx_call ((Below.refl _ _).drew) (by kernel_rfl) ?_ (entryClone_any ⟨⟨p⟩⟩ v k A c l _ w3.drew (HY3.out.drew) hn) ?_
          · (go_simp; done)
          rintro e wa ⟨A4, c4, l4, rfl, hl4, ho4, hb4⟩
          have hlow4 : Below w3.heap.size w3 wa := (Below.refl _ _).drew.trans (hb4.mono (Nat.le_refl _))
          refine ⟨_, rfl, _, (by (simp only [Act.put, List.setIfInBounds_toArray, List.set_cons_zero, List.set_cons_succ]; rfl)), ?_⟩
          refine mx_end hlow4 ?_
          have b4 := b3.below hlow4
          have HPL4 : Hid (BookOk (plainB (putR L p ⟨⟨⟨p⟩⟩, v, k, ⟨A4, c4, l4⟩⟩))) := Lib.hid (by
            rw [plainB_put, show EV.ep ⟨⟨⟨p⟩⟩, v, k, ⟨A4, c4, l4⟩⟩ = (v, k, l) by show (v, k, l4) = _; rw [hl4.out], ← HT3.out]
            exact HPL.out)
          have hlen3 : (mapB L).length < maxLen := by rw [mapB_len]; simp only [maxLen]; omega
          obtain ⟨wb, hrun5, hm5, hg5, _⟩ := (hm3.below hlow4).store Tryz.underlying9 Tryz.underlying117 p (by simp only [maxLen]; omega) (.agg #[.string ⟨⟨p⟩⟩, .int .u64 v, .int .i64 k, .slice A4 l4.length c4]) hlen3
          have hlt3 := hm3.lt
          have htb3 := b3.lt
          have hoo : EV.inB wa p ⟨⟨⟨p⟩⟩, v, k, ⟨A4, c4, l4⟩⟩ := ⟨own_base ho4 (fun _ _ => Nat.zero_le _), rfl⟩
          have HD := Lib.hid (BookAt.stored (o := ⟨⟨⟨p⟩⟩, v, k, ⟨A4, c4, l4⟩⟩) b4 hm5 hg5 hne3 (hm3.below hlow4) (fun x hx => (hok3 x hx).below hlow4) hoo HPL4.out)
          have HPP : Hid (plainB (putR L p ⟨⟨⟨p⟩⟩, v, k, ⟨A4, c4, l4⟩⟩) = T) := by show _ = _; rw [plainB_put, HT3.out]; show putR (plainB L) p (v, k, l4) = _; rw [hl4.out]
          have hfr5 := hfr3.then_below hlow4
          clear b4 hm5 hm3 hok3 hoo ho4 b3 hx3 HY3 hl4 HPL4
          go_wp2_with fail
          go_ret
          refine ⟨rfl, ⟨some mb, _, HD.out, HPP, fun m e => by injection e with e; subst e; exact .inl rfl⟩, ?_⟩
          exact hfr5.trans (Fr.of_grown hg5 (S := fun g => some mb = some g) (fun k _ e => e)) (fun x hx e => by exact .inr e)
    · obtain ⟨mb, rfl⟩ := HB.out.some_of (by rintro rfl; simp [getR_nil] at hg)
      rw [hg] at HR1 ho
      have ho2 : o = o' := ho.out
      have HN := Lib.hid (entryNewer_any ⟨⟨p⟩⟩ o.p v o.v k o.k (.slice A l.length c) (.slice o.x.A o.x.l.length o.x.c) w3)
      subst ho2
      by_cases hvo : o.v < v
      · have hvd : decide (o.v < v) = true := decide_eq_true hvo
        have HR3 := Lib.hid HR1.out
        rw [if_neg (by show ¬ v ≤ o.v; omega), if_neg (by simp)] at HR3
        obtain ⟨hT, rfl⟩ : T = putR (plainB L) p (v, k, l) ∧ M = 0 := by simpa using HR3.out
        have HT3 : Hid (T = putR (plainB L) p (v, k, l)) := Lib.hid hT
        rw [hvd] at HN
        clear HR1 HR3 hT ho hg hvo hvd
        go_wp2_with fail
        refine HN.out.mono ?_
        rintro e w4 ⟨rfl, hb4⟩
        have hw4 := hw3.trans (hb4.mono hw3.size)
        have x4 := x3.below hb4
        have hB4 := HB.out.below hw4
        have b3 := hB4.blk
        have hm3 := hB4.mapSome
        have hok3 := hB4.ok
        have hne3 : mb ≠ bb := fun e => hB4.ne (by rw [e])
        have hLLl := HLL.out
        have hx3 := x4
        have HY3 := Lib.hid (show By w4 (fun _ => True) A l from (HY.out.below hw4).mono (fun _ _ _ => trivial))
        have hfr3 : Fr (fun g => g = bb ∨ (some mb : Option Nat) = some g) w w4 := Fr.of_below hw4 _
        obtain ⟨_, c1⟩ := hB4.cells
        clear hB4 HN
        go_wp2_with fail
        clear q0 q1 q2 q3 r0 r1 r2 r3 y3 x3 x4 c1 hmn
        refine wp_region_m [true, true, true, true, true, true, true, false] (fun W => Below w4.heap.size w4 W) (by kernel_rfl) (by kernel_rfl) ?_
        simp only [List.length_cons, List.length_nil, Nat.zero_add, Nat.reduceAdd, List.take_succ_cons, List.take_zero, List.drop_succ_cons, List.drop_zero]
        refine mx_move _ (by kernel_rfl) rfl ⟨_, (by ((try simp [go_sem]); (try rfl); done)), _, (by (simp only [Act.put, List.setIfInBounds_toArray, List.set_cons_zero, List.set_cons_succ]; rfl)), ?_⟩
        refine mx_val (by kernel_rfl) ⟨_, (by (intro w' hC; clear hC; (try go_simp); (try with_reducible rfl); done)), _, (by (simp only [Act.put, List.setIfInBounds_toArray, List.set_cons_zero, List.set_cons_succ]; rfl)), ?_⟩
        refine mx_val (by kernel_rfl) ⟨_, (by (intro w' hC; clear hC; (try go_simp); (try with_reducible rfl); done)), _, (by (simp only [Act.put, List.setIfInBounds_toArray, List.set_cons_zero, List.set_cons_succ]; rfl)), ?_⟩
        refine mx_val (by kernel_rfl) ⟨_, (by (intro w' hC; (have q := (b3.below hC).cell 1; simp only [List.getElem?_toArray, List.getElem?_cons_zero, List.getElem?_cons_succ] at q); clear hC; (try go_simp); (try with_reducible rfl); done)), _, (by (simp only [Act.put, List.setIfInBounds_toArray, List.set_cons_zero, List.set_cons_succ]; rfl)), ?_⟩
        refine mx_val (by kernel_rfl) ⟨_, (by (intro w' hC; clear hC; (try go_simp); (try with_reducible rfl); done)), _, (by (simp only [Act.put, List.setIfInBounds_toArray, List.set_cons_zero, List.set_cons_succ]; rfl)), ?_⟩
        refine mx_val (by kernel_rfl) ⟨_, (by (intro w' hC; (have q0 := (hx3.below hC).cell 0; have q1 := (hx3.below hC).cell 1; have q2 := (hx3.below hC).cell 2; have q3 := (hx3.below hC).cell 3; simp only [List.getElem?_toArray, List.getElem?_cons_zero, List.getElem?_cons_succ] at q0 q1 q2 q3); clear hC; (try go_simp); (try with_reducible rfl); done)), _, (by (simp only [Act.put, List.setIfInBounds_toArray, List.set_cons_zero, List.set_cons_succ]; rfl)), ?_⟩
        refine mx_val (by kernel_rfl) ⟨_, (by (intro w' hC; (have q0 := (hx3.below hC).cell 0; have q1 := (hx3.below hC).cell 1; have q2 := (hx3.below hC).cell 2; have q3 := (hx3.below hC).cell 3; simp only [List.getElem?_toArray, List.getElem?_cons_zero, List.getElem?_cons_succ] at q0 q1 q2 q3); clear hC; (try go_simp); (try with_reducible rfl); done)), _, (by (simp only [Act.put, List.setIfInBounds_toArray, List.set_cons_zero, List.set_cons_succ]; rfl)), ?_⟩
        refine mx_call ((Below.refl _ _).drew) (by kernel_rfl) ?_ (entryClone_any ⟨⟨p⟩⟩ v k A c l _ w4.drew (HY3.out.drew) hn) ?_
        · (go_simp; done)
        rintro e wa ⟨A4, c4, l4, rfl, hl4, ho4, hb4⟩
        have hlow4 : Below w4.heap.size w4 wa := (Below.refl _ _).drew.trans (hb4.mono (Nat.le_refl _))
        refine ⟨_, rfl, _, (by (simp only [Act.put, List.setIfInBounds_toArray, List.set_cons_zero, List.set_cons_succ]; rfl)), ?_⟩
        refine mx_end hlow4 ?_
        have b4 := b3.below hlow4
        have HPL4 : Hid (BookOk (plainB (putR L p ⟨⟨⟨p⟩⟩, v, k, ⟨A4, c4, l4⟩⟩))) := Lib.hid (by
          rw [plainB_put, show EV.ep ⟨⟨⟨p⟩⟩, v, k, ⟨A4, c4, l4⟩⟩ = (v, k, l) by show (v, k, l4) = _; rw [hl4.out], ← HT3.out]
          exact HPL.out)
        have hlen3 : (mapB L).length < maxLen := by rw [mapB_len]; simp only [maxLen]; omega
        obtain ⟨wb, hrun5, hm5, hg5, _⟩ := (hm3.below hlow4).store Tryz.underlying9 Tryz.underlying117 p (by simp only [maxLen]; omega) (.agg #[.string ⟨⟨p⟩⟩, .int .u64 v, .int .i64 k, .slice A4 l4.length c4]) hlen3
        have hlt3 := hm3.lt
        have htb3 := b3.lt
        have hoo : EV.inB wa p ⟨⟨⟨p⟩⟩, v, k, ⟨A4, c4, l4⟩⟩ := ⟨own_base ho4 (fun _ _ => Nat.zero_le _), rfl⟩
        have HD := Lib.hid (BookAt.stored (o := ⟨⟨⟨p⟩⟩, v, k, ⟨A4, c4, l4⟩⟩) b4 hm5 hg5 hne3 (hm3.below hlow4) (fun x hx => (hok3 x hx).below hlow4) hoo HPL4.out)
        have HPP : Hid (plainB (putR L p ⟨⟨⟨p⟩⟩, v, k, ⟨A4, c4, l4⟩⟩) = T) := by show _ = _; rw [plainB_put, HT3.out]; show putR (plainB L) p (v, k, l4) = _; rw [hl4.out]
        have hfr5 := hfr3.then_below hlow4
        clear b4 hm5 hm3 hok3 hoo ho4 b3 hx3 HY3 hl4 HPL4
        go_wp2_with fail
        go_ret
        refine ⟨rfl, ⟨some mb, _, HD.out, HPP, fun m e => by injection e with e; subst e; exact .inl rfl⟩, ?_⟩
        exact hfr5.trans (Fr.of_grown hg5 (S := fun g => some mb = some g) (fun k _ e => e)) (fun x hx e => by exact .inr e)
      · have hvd : decide (o.v < v) = false := decide_eq_false hvo
        have HR3 := Lib.hid HR1.out
        rw [if_pos (by show v ≤ o.v; omega)] at HR3
        obtain ⟨rfl, rfl⟩ : T = plainB L ∧ M = 31 := by simpa using HR3.out
        rw [hvd] at HN
        clear HR1 HR3 ho hg hvo hvd
        go_wp2_with fail
        refine HN.out.mono ?_
        rintro e w4 ⟨rfl, hb4⟩
        have hw4 := hw3.trans (hb4.mono hw3.size)
        go_wp2_with fail
        go_ret
        exact ⟨rfl, BookTo.of HB.out hw4⟩
  · have hCb : (C != 0) = true := by simpa using hC0
    obtain ⟨rfl, rfl⟩ : T = plainB L ∧ M = C := by
      have := HR.out
      unfold putP putB at this
      rw [if_pos (by rw [← HC.out]; exact hC0), ← HC.out] at this
      simpa using this
    go_wp2_with fail
    go_ret
    exact ⟨rfl, BookTo.of HB.out hw1⟩

end Go.Proofs.YtdnljmncdbcgeaaGreat

/- tenderref22: without, with. -/
namespace Go.Proofs.YtdnljmncdbcgeaaGreat
open Go.RowKit

/-- rows by their paths -/
def keyE (M : List EV) : List (List UInt8 × EV) := M.map fun y => (tl y.p, y)
theorem val_key (M : List EV) : (keyE M).map (·.2) = M := by simp [keyE, Function.comp_def]
theorem keyE_app (M : List EV) (y : EV) : keyE (M ++ [y]) = keyE M ++ [(tl y.p, y)] := by simp [keyE]
def withoutE (p : ByteArray) (M : List EV) : List EV := M.filter fun x => decide (x.p ≠ p)
def insE (x : EV) (M : List EV) : List EV := (insR (tl x.p) x (keyE M)).map (·.2)
def midE (x : EV) (M : List EV) : List EV := if behR (tl x.p) (keyE M) = true then insE x M else M
theorem insE_none {x : EV} {M : List EV} (h : behR (tl x.p) (keyE M) = false) : insE x M = M ++ [x] := by
  unfold insE
  rw [ins_none _ _ _ h, List.map_append, val_key]
  rfl
theorem insE_here {x y : EV} {M : List EV} (hx : 0 < cmpT (tl y.p) (tl x.p)) (h : behR (tl x.p) (keyE M) = false) : insE x (M ++ [y]) = M ++ [x] ++ [y] := by
  unfold insE
  rw [keyE_app, ins_here _ _ (tl y.p, y) hx _ h, List.map_append, List.map_append, val_key]
  rfl
theorem insE_done {x y : EV} {M : List EV} (h : behR (tl x.p) (keyE M) = true) : insE x (M ++ [y]) = insE x M ++ [y] := by
  unfold insE
  rw [keyE_app, ins_done _ _ (tl y.p, y) _ h, List.map_append]
  rfl
theorem pl_key (M : List EV) : (keyE M).map (fun z => (z.1, z.2.ep)) = M.map EV.pl := by
  unfold keyE
  rw [List.map_map]
  rfl
theorem pl_ins (x : EV) (M : List EV) : (insE x M).map EV.pl = insR (tl x.p) x.ep (M.map EV.pl) := by
  rw [← pl_key M, ins_map EV.ep]
  unfold insE
  rw [List.map_map]
  refine List.map_congr_left fun z hz => ?_
  have : z.1 = tl z.2.p := by
    rcases mem_ins.1 hz with rfl | hz
    · rfl
    · obtain ⟨y, _, rfl⟩ := List.mem_map.1 hz
      rfl
  show z.2.pl = _
  rw [this]
  rfl
theorem pl_without (p : ByteArray) (M : List EV) : (withoutE p M).map EV.pl = withoutR (M.map EV.pl) (tl p) := by
  unfold withoutE withoutR
  rw [List.filter_map]
  congr 1
  refine List.filter_congr fun x _ => ?_
  by_cases h : x.p = p
  · subst h; simp [EV.pl]
  · have : tl x.p ≠ tl p := fun e => h (tl_inj e)
    have h2 : (x.pl.1 == tl p) = false := by simpa [EV.pl] using fun e => h (tl_inj (congrArg Array.toList e))
    simp [h, h2]
theorem find_ver (p : ByteArray) : ∀ M : List EV, (findE p M).v = ((getR (M.map EV.pl) (tl p)).map (·.1)).getD 0
  | [] => rfl
  | x :: M => by
    rw [List.map_cons, getR_cons]
    unfold findE
    by_cases h : x.p = p
    · rw [if_pos h, if_pos (by rw [← h]; rfl)]; rfl
    · rw [if_neg h, if_neg (show ¬ x.pl.1 = tl p from fun e => h (tl_inj e)), find_ver p M]
theorem without_lenE (p : ByteArray) (M : List EV) : (withoutE p M).length ≤ M.length := List.length_filter_le _ _
theorem withoutE_snoc (M : List EV) (p : ByteArray) (i : Nat) (hi : i < M.length) : withoutE p (M.take (i + 1)) = withoutE p (M.take i) ++ if M[i].p = p then [] else [M[i]] := by
  unfold withoutE
  rw [List.take_succ_eq_append_getElem hi, List.filter_append]
  congr 1
  by_cases h : M[i].p = p
  · rw [if_pos h]; simp [h]
  · rw [if_neg h]; simp [h]
/-- entries told: a row of the call's own -/
def EnOwn (w : World) (base : Nat) (e : Ending) (M : List EV) : Prop :=
  ∃ (A : Option Addr) (c : Nat) (l : List EV), e = .returned (.slice A l.length c) ∧ Hid (l = M) ∧ OwE w base A c l
theorem OwE.below {w w' : World} {base : Nat} {A : Option Addr} {c : Nat} {L : List EV} (h : OwE w base A c L) (k : Below w.heap.size w w') : OwE w' base A c L := own_below h k
theorem OwE.esr {w : World} {base : Nat} {A : Option Addr} {c : Nat} {L : List EV} (h : OwE w base A c L) (hok : ∀ x ∈ L, x.x.ok w (fun _ => True)) (hl : L.length ≤ 1000000) : EsR w A L := ⟨Rd.of_own h (fun _ _ _ => trivial), hok, hl⟩

set_option maxRecDepth 100000 in
set_option maxHeartbeats 1000000 in
theorem refWithout22_any (A : Option Addr) (c : Nat) (M : List EV) (p : ByteArray) (w : World) (h : EsR w A M) :
    Calls Tryz.prog 91 #[.slice A M.length c, .string p] w fun e w' => EnOwn w' w.heap.size e (withoutE p M) ∧ Below w.heap.size w w' := by
  have HT := Lib.hid h
  have hlen := h.len
  clear h
  go_enter Tryz.func91, Tryz.ntmps91
  go_wp2_with fail
  go_loopw [5, 6] (fun ov iv wr => ∃ (i : Nat) (A' : Option Addr) (c' : Nat) (l : List EV), i ≤ M.length ∧ iv = .int .i64 (i : Int) ∧ ov = .slice A' l.length c' ∧ Hid (l = withoutE p (M.take i)) ∧ l.length ≤ i ∧ OwE wr w.heap.size A' c' l ∧ Below w.heap.size w wr) (fun _ iv _ => M.length - (intOf iv).toNat)
  case atStart => exact ⟨0, none, 0, [], Nat.zero_le _, rfl, rfl, rfl, Nat.le_refl _, World.ownsRow_nil _ _ _ _, Below.refl _ _⟩
  case round =>
    obtain ⟨i, A', c', l, hi, rfl, rfl, hl, hli, ho, hb⟩ := hrel
    by_cases hlt : i < M.length
    · have hsn := withoutE_snoc M p i hlt
      obtain ⟨b, off, hA, hbb, c0, c1, c2, c3⟩ := (HT.out.below hb).at_ hlt
      subst hA
      obtain ⟨x, hx⟩ : ∃ x, x = M[i] := ⟨_, rfl⟩
      rw [← hx] at c0 c1 c2 c3 hsn
      by_cases he : x.p = p
      · have hne := neq_yes he
        rw [if_pos he, List.append_nil, ← hl.out] at hsn
        have HN := Lib.hid hsn.symm
        clear hsn hl hx he
        go_wp2_with fail
        go_roundw
        case rel => exact ⟨i + 1, A', c', l, hlt, by go_num, rfl, HN, by omega, ho, hb⟩
        case measure => simp [intOf]; omega
      · have hne := neq_no he
        rw [if_neg he, ← hl.out] at hsn
        have HN := Lib.hid hsn.symm
        have hsz := hb.size
        have hba : Below w.heap.size w (wr.alloc (.cells #[.string x.p, .int .u64 x.v, .int .i64 x.k, .slice x.x.A x.x.l.length x.x.c] 59)) := hb.alloc hsz _
        have ho1 := Lib.hid (ho.below ((Below.refl _ wr).alloc (Nat.le_refl _) (.cells #[.string x.p, .int .u64 x.v, .int .i64 x.k, .slice x.x.A x.x.l.length x.x.c] 59)))
        have hr1 : Hid (Rd (wr.alloc (.cells #[.string x.p, .int .u64 x.v, .int .i64 x.k, .slice x.x.A x.x.l.length x.x.c] 59)) (fun _ => True) 4 (some ⟨wr.heap.size, 0, none⟩) 1 (EV.cells x)) := (Rd.lit (w := wr) (t := 59) (size := 4) (n := 1) (xs := EV.cells x) rfl rfl rfl).mono (fun _ _ _ => trivial)
        clear hsn hl hx he ho
        go_wp2_with (at_builtin; refine wpList_append_entry rfl (.tmp 20) (.tmp 25) (t := 45) rfl rfl rfl ho1.out rfl hr1.out (by omega) (by simp; omega) ?_; intro A5 c5 w5 ho5 hb5 hk5)
        have hb6 := hba.trans hb5
        go_roundw
        case rel => exact ⟨i + 1, A5, c5, l ++ [x], hlt, by go_num, by simp, HN, by simp; omega, ho5, hb6⟩
        case measure => simp [intOf]; omega
    · have e : i = M.length := by omega
      subst e
      have HN : Hid (l = withoutE p M) := by
        show _ = _
        rw [hl.out, List.take_length]
      clear hl
      go_wp2_with fail
      go_ret
      exact ⟨⟨A', c', l, rfl, HN, ho⟩, hb⟩


set_option maxRecDepth 100000 in
set_option maxHeartbeats 2000000 in
theorem refWith22_any (A : Option Addr) (c : Nat) (M : List EV) (v : EV) (w : World) (h : EsR w A M) (hp : v.p.size ≤ 1048576) (hM : ∀ x ∈ M, x.p.size ≤ 1048576) :
    Calls Tryz.prog 92 #[.slice A M.length c, .agg #[.string v.p, .int .u64 v.v, .int .i64 v.k, .slice v.x.A v.x.l.length v.x.c]] w fun e w' => EnOwn w' w.heap.size e (insE v M) ∧ Below w.heap.size w w' := by
  have hw1 : Below w.heap.size w (w.alloc (.cells #[.string v.p, .int .u64 v.v, .int .i64 v.k, .slice v.x.A v.x.l.length v.x.c] 59)) := (by repeat (first | exact Below.refl _ _ | refine Below.alloc ?_ (by simp) _ | refine Below.setCell ?_ (by simp) _ | refine Below.drew ?_))
  have x1 := Blk.new w 59 #[.string v.p, .int .u64 v.v, .int .i64 v.k, .slice v.x.A v.x.l.length v.x.c]
  have HI := Lib.hid (h.below hw1)
  have HP := Lib.hid hM
  have hlen := h.len
  clear h hM
  go_enter Tryz.func92, Tryz.ntmps92
  go_wp2_with fail
  generalize w.alloc (.cells #[.string v.p, .int .u64 v.v, .int .i64 v.k, .slice v.x.A v.x.l.length v.x.c] 59) = w1 at *
  go_loopw [5, 6, 7] (fun ov dv iv wr => ∃ (i : Nat) (A' : Option Addr) (c' : Nat) (l : List EV) (d : Bool), i ≤ M.length ∧ iv = .int .i64 (i : Int) ∧ dv = .bool d ∧ ov = .slice A' l.length c' ∧ Hid (d = behR (tl v.p) (keyE (M.take i))) ∧ Hid (l = midE v (M.take i)) ∧ l.length ≤ i + 1 ∧ OwE wr w1.heap.size A' c' l ∧ Below w1.heap.size w1 wr) (fun _ _ iv _ => M.length - (intOf iv).toNat)
  case atStart => exact ⟨0, none, 0, [], false, Nat.zero_le _, rfl, rfl, rfl, rfl, rfl, by simp, World.ownsRow_nil _ _ _ _, Below.refl _ _⟩
  case round =>
    obtain ⟨i, A', c', l, d, hi, rfl, rfl, rfl, hd, hl, hli, hor, hwr⟩ := hrel
    have HB : Hid (∀ W, Below w1.heap.size w1 W → W.cell? ⟨w.heap.size, 0, none⟩ = some (.string v.p) ∧ W.cell? ⟨w.heap.size, 1, none⟩ = some (.int .u64 v.v) ∧ W.cell? ⟨w.heap.size, 2, none⟩ = some (.int .i64 v.k) ∧ W.cell? ⟨w.heap.size, 3, none⟩ = some (.slice v.x.A v.x.l.length v.x.c)) := fun W hW => ⟨(x1.below hW).cell 0, (x1.below hW).cell 1, (x1.below hW).cell 2, (x1.below hW).cell 3⟩
    by_cases hlt : i < M.length
    · obtain ⟨b, off, hA, hbb, c0, d1, d2, d3⟩ := HI.out.at_ hlt
      have hxl := HP.out _ (List.getElem_mem hlt)
      subst hA
      have ht := List.take_succ_eq_append_getElem hlt
      obtain ⟨x, hx⟩ : ∃ x, x = M[i] := ⟨_, rfl⟩
      rw [← hx] at c0 d1 d2 d3 hxl ht
      have HX : Hid (∀ W, Below w1.heap.size w1 W → W.cell? ⟨b, off + i * 4, none⟩ = some (.string x.p) ∧ W.cell? ⟨b, off + i * 4 + 1, none⟩ = some (.int .u64 x.v) ∧ W.cell? ⟨b, off + i * 4 + 2, none⟩ = some (.int .i64 x.k) ∧ W.cell? ⟨b, off + i * 4 + 3, none⟩ = some (.slice x.x.A x.x.l.length x.x.c)) := by
        intro W hW
        rw [hW.cell hbb, hW.cell hbb, hW.cell hbb, hW.cell hbb]
        exact ⟨c0, d1, d2, d3⟩
      have ht2 : behR (tl v.p) (keyE (M.take (i + 1))) = (d || decide (0 < cmpT (tl x.p) (tl v.p))) := by
        rw [ht, keyE_app, beh_snoc, ← hd.out]
      clear c0 d1 d2 d3 hx
      cases d
      · have hb1 := hwr.size
        have HBH := Lib.hid hd.out
        have HL2 := Lib.hid hl.out
        obtain ⟨cm, hcm⟩ : ∃ cm, cm = cmpT (tl x.p) (tl v.p) := ⟨_, rfl⟩
        have HCM := Lib.hid (fun W => refCompare_any x.p v.p (by omega) (by omega) W)
        rw [← hcm] at HCM ht2
        clear hl hd
        go_upto_region 6 with (fail)
        have lm : l = M.take i := by
          rw [HL2.out]; unfold midE; rw [if_neg (by rw [← HBH.out]; simp)]
        have hli2 : l.length ≤ i := by rw [lm]; exact List.length_take_le _ _
        by_cases hc : 0 < cm
        · have hN : l ++ [v] ++ [x] = midE v (M.take (i + 1)) := by
            unfold midE
            rw [if_pos (by rw [ht2]; simp [hc]), ht, insE_here (by rw [← hcm]; exact hc) HBH.out.symm, lm]
          have HN := Lib.hid hN
          have HD : Hid (true = behR (tl v.p) (keyE (M.take (i + 1)))) := by
            show _ = _
            rw [ht2]; simp [hc]
          have hcd : decide (0 < cm) = true := decide_eq_true hc
          clear hcm
          refine wp_region_b 13 (by kernel_rfl) (by kernel_rfl) ?_
          simp only [List.take_succ_cons, List.take_zero, List.drop_succ_cons, List.drop_zero]
          refine lb_move _ (by kernel_rfl) rfl ⟨_, (by ((try simp [go_sem]); (try rfl); done)), _, (by (simp only [Act.put, List.setIfInBounds_toArray, List.set_cons_zero, List.set_cons_succ]; rfl)), ?_⟩
          refine lb_val (by kernel_rfl) ⟨_, (by (intro w' hC; clear hC; (try go_simp); (try with_reducible rfl); done)), _, (by (simp only [Act.put, List.setIfInBounds_toArray, List.set_cons_zero, List.set_cons_succ]; rfl)), ?_⟩
          refine lb_move _ (by kernel_rfl) rfl ⟨_, (by ((try simp [go_sem]); (try rfl); done)), _, (by (simp only [Act.put, List.setIfInBounds_toArray, List.set_cons_zero, List.set_cons_succ]; rfl)), ?_⟩
          first | (refine lb_skip (by rfl) ⟨_, (by (simp only [Act.put, List.setIfInBounds_toArray, List.set_cons_zero, List.set_cons_succ]; rfl)), ?_⟩) | (refine lb_move _ (by kernel_rfl) rfl ⟨_, (by ((try simp [go_sem]); (try rfl); done)), _, (by (simp only [Act.put, List.setIfInBounds_toArray, List.set_cons_zero, List.set_cons_succ]; rfl)), ?_⟩)
          first | (refine lb_skip (by rfl) ⟨_, (by (simp only [Act.put, List.setIfInBounds_toArray, List.set_cons_zero, List.set_cons_succ]; rfl)), ?_⟩) | (refine lb_move _ (by kernel_rfl) rfl ⟨_, (by ((try simp [go_sem]); (try rfl); done)), _, (by (simp only [Act.put, List.setIfInBounds_toArray, List.set_cons_zero, List.set_cons_succ]; rfl)), ?_⟩)
          first | (refine lb_skip (by rfl) ⟨_, (by (simp only [Act.put, List.setIfInBounds_toArray, List.set_cons_zero, List.set_cons_succ]; rfl)), ?_⟩) | (refine lb_val (by kernel_rfl) ⟨_, (by (intro w' hC; clear hC; (try go_simp); (try with_reducible rfl); done)), _, (by (simp only [Act.put, List.setIfInBounds_toArray, List.set_cons_zero, List.set_cons_succ]; rfl)), ?_⟩)
          first | (refine lb_skip (by rfl) ⟨_, (by (simp only [Act.put, List.setIfInBounds_toArray, List.set_cons_zero, List.set_cons_succ]; rfl)), ?_⟩) | (refine lb_val (by kernel_rfl) ⟨_, (by (intro w' hC; clear hC; (try go_simp); (try with_reducible rfl); done)), _, (by (simp only [Act.put, List.setIfInBounds_toArray, List.set_cons_zero, List.set_cons_succ]; rfl)), ?_⟩)
          first | (refine lb_skip (by rfl) ⟨_, (by (simp only [Act.put, List.setIfInBounds_toArray, List.set_cons_zero, List.set_cons_succ]; rfl)), ?_⟩) | (refine lb_val (by kernel_rfl) ⟨_, (by (intro w' hC; (have ⟨c0, _, _, _⟩ := HX.out w' (hwr.trans (hC.mono hwr.size))); clear hC; (try go_simp); (try with_reducible rfl); done)), _, (by (simp only [Act.put, List.setIfInBounds_toArray, List.set_cons_zero, List.set_cons_succ]; rfl)), ?_⟩)
          first | (refine lb_skip (by rfl) ⟨_, (by (simp only [Act.put, List.setIfInBounds_toArray, List.set_cons_zero, List.set_cons_succ]; rfl)), ?_⟩) | (refine lb_val (by kernel_rfl) ⟨_, (by (intro w' hC; clear hC; (try go_simp); (try with_reducible rfl); done)), _, (by (simp only [Act.put, List.setIfInBounds_toArray, List.set_cons_zero, List.set_cons_succ]; rfl)), ?_⟩)
          first | (refine lb_skip (by rfl) ⟨_, (by (simp only [Act.put, List.setIfInBounds_toArray, List.set_cons_zero, List.set_cons_succ]; rfl)), ?_⟩) | (refine lb_val (by kernel_rfl) ⟨_, (by (intro w' hC; (have ⟨q0, _, _, _⟩ := HB.out w' (hwr.trans (hC.mono hwr.size))); clear hC; (try go_simp); (try with_reducible rfl); done)), _, (by (simp only [Act.put, List.setIfInBounds_toArray, List.set_cons_zero, List.set_cons_succ]; rfl)), ?_⟩)
          first | (refine lb_skip (by rfl) ⟨_, (by (simp only [Act.put, List.setIfInBounds_toArray, List.set_cons_zero, List.set_cons_succ]; rfl)), ?_⟩) | (refine lb_call (by kernel_rfl) (fun w' hC => HCM.out _) (by (intro w'; go_simp; done)) ⟨_, (by (simp only [Act.put, List.setIfInBounds_toArray, List.set_cons_zero, List.set_cons_succ]; rfl)), ?_⟩)
          first | (refine lb_skip (by rfl) ⟨_, (by (simp only [Act.put, List.setIfInBounds_toArray, List.set_cons_zero, List.set_cons_succ]; rfl)), ?_⟩) | (refine lb_val (by kernel_rfl) ⟨_, (by (intro w' hC; clear hC; (try go_simp); (try with_reducible rfl); done)), _, (by (simp only [Act.put, List.setIfInBounds_toArray, List.set_cons_zero, List.set_cons_succ]; rfl)), ?_⟩)
          refine lb_val (by kernel_rfl) ⟨_, (by (intro w' hC; clear hC; (try go_simp); (try with_reducible rfl); done)), _, (by (simp only [Act.put, List.setIfInBounds_toArray, List.set_cons_zero, List.set_cons_succ]; rfl)), ?_⟩
          refine .nil ?_
          intro w2 hb2
          have hw2 := hwr.trans (hb2.mono hb1)
          have ho2 := hor.below hb2
          have hs2 := hw2.size
          clear hor hb2 HCM
          obtain ⟨q0, q1, q2, q3⟩ := HB.out w2 hw2
          have ba1 : Below w1.heap.size w1 (w2.alloc (.cells #[.string v.p, .int .u64 v.v, .int .i64 v.k, .slice v.x.A v.x.l.length v.x.c] 59)) := hw2.alloc hw2.size _; have oa1 := Lib.hid (ho2.below ((Below.refl _ w2).alloc (Nat.le_refl _) (.cells #[.string v.p, .int .u64 v.v, .int .i64 v.k, .slice v.x.A v.x.l.length v.x.c] 59))); have ra1 : Hid (Rd (w2.alloc (.cells #[.string v.p, .int .u64 v.v, .int .i64 v.k, .slice v.x.A v.x.l.length v.x.c] 59)) (fun _ => True) 4 (some ⟨w2.heap.size, 0, none⟩) 1 (EV.cells v)) := (Rd.lit (w := w2) (t := 59) (size := 4) (n := 1) (xs := EV.cells v) rfl rfl rfl).mono (fun _ _ _ => trivial)
          clear hN lm HL2 HBH ht2 ht ho2 HI x1
          go_wp2_with (first | (at_builtin; refine wpList_append_entry rfl (.tmp 27) (.tmp 29) (t := 45) rfl rfl rfl oa1.out rfl ra1.out (by simp; omega) ba1.size ?_; intro A5 c5 w5 ho5 hb5 _; have hw5 := ba1.trans hb5; obtain ⟨c0, c1', c2, c3⟩ := HX.out w5 hw5; clear oa1 ra1; have ba2 : Below w1.heap.size w1 (w5.alloc (.cells #[.string x.p, .int .u64 x.v, .int .i64 x.k, .slice x.x.A x.x.l.length x.x.c] 59)) := hw5.alloc hw5.size _; have oa2 := Lib.hid (ho5.below ((Below.refl _ w5).alloc (Nat.le_refl _) (.cells #[.string x.p, .int .u64 x.v, .int .i64 x.k, .slice x.x.A x.x.l.length x.x.c] 59))); have ra2 : Hid (Rd (w5.alloc (.cells #[.string x.p, .int .u64 x.v, .int .i64 x.k, .slice x.x.A x.x.l.length x.x.c] 59)) (fun _ => True) 4 (some ⟨w5.heap.size, 0, none⟩) 1 (EV.cells x)) := (Rd.lit (w := w5) (t := 59) (size := 4) (n := 1) (xs := EV.cells x) rfl rfl rfl).mono (fun _ _ _ => trivial)) | (at_builtin; refine wpList_append_entry rfl (.tmp 31) (.tmp 36) (t := 45) rfl rfl (by rw [List.length_append]; rfl) oa2.out rfl ra2.out (by simp; omega) ba2.size ?_; intro A7 c7 w7 ho7 hb7 _; have hw7 := ba2.trans hb7))
          go_roundw
          case rel => exact ⟨i + 1, A7, c7, l ++ [v] ++ [x], true, hlt, by go_num, rfl, by simp, HD, HN, by simp; omega, ho7, hw7⟩
          case measure => simp [intOf]; omega
        · have hN : l ++ [x] = midE v (M.take (i + 1)) := by
            unfold midE
            rw [if_neg (by rw [ht2]; simp [hc]), ht, lm]
          have HN := Lib.hid hN
          have HD : Hid (false = behR (tl v.p) (keyE (M.take (i + 1)))) := by
            show _ = _
            rw [ht2]; simp [hc]
          have hcd : decide (0 < cm) = false := decide_eq_false hc
          clear hcm
          refine wp_region_b 13 (by kernel_rfl) (by kernel_rfl) ?_
          simp only [List.take_succ_cons, List.take_zero, List.drop_succ_cons, List.drop_zero]
          refine lb_move _ (by kernel_rfl) rfl ⟨_, (by ((try simp [go_sem]); (try rfl); done)), _, (by (simp only [Act.put, List.setIfInBounds_toArray, List.set_cons_zero, List.set_cons_succ]; rfl)), ?_⟩
          refine lb_val (by kernel_rfl) ⟨_, (by (intro w' hC; clear hC; (try go_simp); (try with_reducible rfl); done)), _, (by (simp only [Act.put, List.setIfInBounds_toArray, List.set_cons_zero, List.set_cons_succ]; rfl)), ?_⟩
          refine lb_move _ (by kernel_rfl) rfl ⟨_, (by ((try simp [go_sem]); (try rfl); done)), _, (by (simp only [Act.put, List.setIfInBounds_toArray, List.set_cons_zero, List.set_cons_succ]; rfl)), ?_⟩
          first | (refine lb_skip (by rfl) ⟨_, (by (simp only [Act.put, List.setIfInBounds_toArray, List.set_cons_zero, List.set_cons_succ]; rfl)), ?_⟩) | (refine lb_move _ (by kernel_rfl) rfl ⟨_, (by ((try simp [go_sem]); (try rfl); done)), _, (by (simp only [Act.put, List.setIfInBounds_toArray, List.set_cons_zero, List.set_cons_succ]; rfl)), ?_⟩)
          first | (refine lb_skip (by rfl) ⟨_, (by (simp only [Act.put, List.setIfInBounds_toArray, List.set_cons_zero, List.set_cons_succ]; rfl)), ?_⟩) | (refine lb_move _ (by kernel_rfl) rfl ⟨_, (by ((try simp [go_sem]); (try rfl); done)), _, (by (simp only [Act.put, List.setIfInBounds_toArray, List.set_cons_zero, List.set_cons_succ]; rfl)), ?_⟩)
          first | (refine lb_skip (by rfl) ⟨_, (by (simp only [Act.put, List.setIfInBounds_toArray, List.set_cons_zero, List.set_cons_succ]; rfl)), ?_⟩) | (refine lb_val (by kernel_rfl) ⟨_, (by (intro w' hC; clear hC; (try go_simp); (try with_reducible rfl); done)), _, (by (simp only [Act.put, List.setIfInBounds_toArray, List.set_cons_zero, List.set_cons_succ]; rfl)), ?_⟩)
          first | (refine lb_skip (by rfl) ⟨_, (by (simp only [Act.put, List.setIfInBounds_toArray, List.set_cons_zero, List.set_cons_succ]; rfl)), ?_⟩) | (refine lb_val (by kernel_rfl) ⟨_, (by (intro w' hC; clear hC; (try go_simp); (try with_reducible rfl); done)), _, (by (simp only [Act.put, List.setIfInBounds_toArray, List.set_cons_zero, List.set_cons_succ]; rfl)), ?_⟩)
          first | (refine lb_skip (by rfl) ⟨_, (by (simp only [Act.put, List.setIfInBounds_toArray, List.set_cons_zero, List.set_cons_succ]; rfl)), ?_⟩) | (refine lb_val (by kernel_rfl) ⟨_, (by (intro w' hC; (have ⟨c0, _, _, _⟩ := HX.out w' (hwr.trans (hC.mono hwr.size))); clear hC; (try go_simp); (try with_reducible rfl); done)), _, (by (simp only [Act.put, List.setIfInBounds_toArray, List.set_cons_zero, List.set_cons_succ]; rfl)), ?_⟩)
          first | (refine lb_skip (by rfl) ⟨_, (by (simp only [Act.put, List.setIfInBounds_toArray, List.set_cons_zero, List.set_cons_succ]; rfl)), ?_⟩) | (refine lb_val (by kernel_rfl) ⟨_, (by (intro w' hC; clear hC; (try go_simp); (try with_reducible rfl); done)), _, (by (simp only [Act.put, List.setIfInBounds_toArray, List.set_cons_zero, List.set_cons_succ]; rfl)), ?_⟩)
          first | (refine lb_skip (by rfl) ⟨_, (by (simp only [Act.put, List.setIfInBounds_toArray, List.set_cons_zero, List.set_cons_succ]; rfl)), ?_⟩) | (refine lb_val (by kernel_rfl) ⟨_, (by (intro w' hC; (have ⟨q0, _, _, _⟩ := HB.out w' (hwr.trans (hC.mono hwr.size))); clear hC; (try go_simp); (try with_reducible rfl); done)), _, (by (simp only [Act.put, List.setIfInBounds_toArray, List.set_cons_zero, List.set_cons_succ]; rfl)), ?_⟩)
          first | (refine lb_skip (by rfl) ⟨_, (by (simp only [Act.put, List.setIfInBounds_toArray, List.set_cons_zero, List.set_cons_succ]; rfl)), ?_⟩) | (refine lb_call (by kernel_rfl) (fun w' hC => HCM.out _) (by (intro w'; go_simp; done)) ⟨_, (by (simp only [Act.put, List.setIfInBounds_toArray, List.set_cons_zero, List.set_cons_succ]; rfl)), ?_⟩)
          first | (refine lb_skip (by rfl) ⟨_, (by (simp only [Act.put, List.setIfInBounds_toArray, List.set_cons_zero, List.set_cons_succ]; rfl)), ?_⟩) | (refine lb_val (by kernel_rfl) ⟨_, (by (intro w' hC; clear hC; (try go_simp); (try with_reducible rfl); done)), _, (by (simp only [Act.put, List.setIfInBounds_toArray, List.set_cons_zero, List.set_cons_succ]; rfl)), ?_⟩)
          refine lb_val (by kernel_rfl) ⟨_, (by (intro w' hC; clear hC; (try go_simp); (try with_reducible rfl); done)), _, (by (simp only [Act.put, List.setIfInBounds_toArray, List.set_cons_zero, List.set_cons_succ]; rfl)), ?_⟩
          refine .nil ?_
          intro w2 hb2
          have hw2 := hwr.trans (hb2.mono hb1)
          have ho2 := hor.below hb2
          have hs2 := hw2.size
          clear hor hb2 HCM
          obtain ⟨c0, c1', c2, c3⟩ := HX.out w2 hw2
          have ba1 : Below w1.heap.size w1 (w2.alloc (.cells #[.string x.p, .int .u64 x.v, .int .i64 x.k, .slice x.x.A x.x.l.length x.x.c] 59)) := hw2.alloc hw2.size _; have oa1 := Lib.hid (ho2.below ((Below.refl _ w2).alloc (Nat.le_refl _) (.cells #[.string x.p, .int .u64 x.v, .int .i64 x.k, .slice x.x.A x.x.l.length x.x.c] 59))); have ra1 : Hid (Rd (w2.alloc (.cells #[.string x.p, .int .u64 x.v, .int .i64 x.k, .slice x.x.A x.x.l.length x.x.c] 59)) (fun _ => True) 4 (some ⟨w2.heap.size, 0, none⟩) 1 (EV.cells x)) := (Rd.lit (w := w2) (t := 59) (size := 4) (n := 1) (xs := EV.cells x) rfl rfl rfl).mono (fun _ _ _ => trivial)
          clear hN lm HL2 HBH ht2 ht ho2 HI x1
          go_wp2_with (at_builtin; refine wpList_append_entry rfl (.tmp 31) (.tmp 36) (t := 45) rfl rfl rfl oa1.out rfl ra1.out (by simp; omega) ba1.size ?_; intro A5 c5 w5 ho5 hb5 _; have hw5 := ba1.trans hb5)
          go_roundw
          case rel => exact ⟨i + 1, A5, c5, l ++ [x], false, hlt, by go_num, rfl, by simp, HD, HN, by simp; omega, ho5, hw5⟩
          case measure => simp [intOf]; omega
      · have hb1 := hwr.size
        have hN : l ++ [x] = midE v (M.take (i + 1)) := by
          unfold midE
          rw [if_pos (by rw [ht2]; simp), ht, insE_done hd.out.symm, hl.out]
          unfold midE
          rw [if_pos hd.out.symm]
        have HN := Lib.hid hN
        have HD : Hid (true = behR (tl v.p) (keyE (M.take (i + 1)))) := by
          show _ = _
          rw [ht2]; simp
        have HCM : Hid True := trivial
        clear ht2 ht hl hd hN
        go_upto_region 6 with (fail)
        refine wp_region_b 13 (by kernel_rfl) (by kernel_rfl) ?_
        simp only [List.take_succ_cons, List.take_zero, List.drop_succ_cons, List.drop_zero]
        refine lb_move _ (by kernel_rfl) rfl ⟨_, (by ((try simp [go_sem]); (try rfl); done)), _, (by (simp only [Act.put, List.setIfInBounds_toArray, List.set_cons_zero, List.set_cons_succ]; rfl)), ?_⟩
        refine lb_val (by kernel_rfl) ⟨_, (by (intro w' hC; clear hC; (try go_simp); (try with_reducible rfl); done)), _, (by (simp only [Act.put, List.setIfInBounds_toArray, List.set_cons_zero, List.set_cons_succ]; rfl)), ?_⟩
        refine lb_move _ (by kernel_rfl) rfl ⟨_, (by ((try simp [go_sem]); (try rfl); done)), _, (by (simp only [Act.put, List.setIfInBounds_toArray, List.set_cons_zero, List.set_cons_succ]; rfl)), ?_⟩
        first | (refine lb_skip (by rfl) ⟨_, (by (simp only [Act.put, List.setIfInBounds_toArray, List.set_cons_zero, List.set_cons_succ]; rfl)), ?_⟩) | (refine lb_move _ (by kernel_rfl) rfl ⟨_, (by ((try simp [go_sem]); (try rfl); done)), _, (by (simp only [Act.put, List.setIfInBounds_toArray, List.set_cons_zero, List.set_cons_succ]; rfl)), ?_⟩)
        first | (refine lb_skip (by rfl) ⟨_, (by (simp only [Act.put, List.setIfInBounds_toArray, List.set_cons_zero, List.set_cons_succ]; rfl)), ?_⟩) | (refine lb_move _ (by kernel_rfl) rfl ⟨_, (by ((try simp [go_sem]); (try rfl); done)), _, (by (simp only [Act.put, List.setIfInBounds_toArray, List.set_cons_zero, List.set_cons_succ]; rfl)), ?_⟩)
        first | (refine lb_skip (by rfl) ⟨_, (by (simp only [Act.put, List.setIfInBounds_toArray, List.set_cons_zero, List.set_cons_succ]; rfl)), ?_⟩) | (refine lb_val (by kernel_rfl) ⟨_, (by (intro w' hC; clear hC; (try go_simp); (try with_reducible rfl); done)), _, (by (simp only [Act.put, List.setIfInBounds_toArray, List.set_cons_zero, List.set_cons_succ]; rfl)), ?_⟩)
        first | (refine lb_skip (by rfl) ⟨_, (by (simp only [Act.put, List.setIfInBounds_toArray, List.set_cons_zero, List.set_cons_succ]; rfl)), ?_⟩) | (refine lb_val (by kernel_rfl) ⟨_, (by (intro w' hC; clear hC; (try go_simp); (try with_reducible rfl); done)), _, (by (simp only [Act.put, List.setIfInBounds_toArray, List.set_cons_zero, List.set_cons_succ]; rfl)), ?_⟩)
        first | (refine lb_skip (by rfl) ⟨_, (by (simp only [Act.put, List.setIfInBounds_toArray, List.set_cons_zero, List.set_cons_succ]; rfl)), ?_⟩) | (refine lb_val (by kernel_rfl) ⟨_, (by (intro w' hC; (have ⟨c0, _, _, _⟩ := HX.out w' (hwr.trans (hC.mono hwr.size))); clear hC; (try go_simp); (try with_reducible rfl); done)), _, (by (simp only [Act.put, List.setIfInBounds_toArray, List.set_cons_zero, List.set_cons_succ]; rfl)), ?_⟩)
        first | (refine lb_skip (by rfl) ⟨_, (by (simp only [Act.put, List.setIfInBounds_toArray, List.set_cons_zero, List.set_cons_succ]; rfl)), ?_⟩) | (refine lb_val (by kernel_rfl) ⟨_, (by (intro w' hC; clear hC; (try go_simp); (try with_reducible rfl); done)), _, (by (simp only [Act.put, List.setIfInBounds_toArray, List.set_cons_zero, List.set_cons_succ]; rfl)), ?_⟩)
        first | (refine lb_skip (by rfl) ⟨_, (by (simp only [Act.put, List.setIfInBounds_toArray, List.set_cons_zero, List.set_cons_succ]; rfl)), ?_⟩) | (refine lb_val (by kernel_rfl) ⟨_, (by (intro w' hC; (have ⟨q0, _, _, _⟩ := HB.out w' (hwr.trans (hC.mono hwr.size))); clear hC; (try go_simp); (try with_reducible rfl); done)), _, (by (simp only [Act.put, List.setIfInBounds_toArray, List.set_cons_zero, List.set_cons_succ]; rfl)), ?_⟩)
        first | (refine lb_skip (by rfl) ⟨_, (by (simp only [Act.put, List.setIfInBounds_toArray, List.set_cons_zero, List.set_cons_succ]; rfl)), ?_⟩) | (refine lb_call (by kernel_rfl) (fun w' hC => HCM.out _) (by (intro w'; go_simp; done)) ⟨_, (by (simp only [Act.put, List.setIfInBounds_toArray, List.set_cons_zero, List.set_cons_succ]; rfl)), ?_⟩)
        first | (refine lb_skip (by rfl) ⟨_, (by (simp only [Act.put, List.setIfInBounds_toArray, List.set_cons_zero, List.set_cons_succ]; rfl)), ?_⟩) | (refine lb_val (by kernel_rfl) ⟨_, (by (intro w' hC; clear hC; (try go_simp); (try with_reducible rfl); done)), _, (by (simp only [Act.put, List.setIfInBounds_toArray, List.set_cons_zero, List.set_cons_succ]; rfl)), ?_⟩)
        refine lb_val (by kernel_rfl) ⟨_, (by (intro w' hC; clear hC; (try go_simp); (try with_reducible rfl); done)), _, (by (simp only [Act.put, List.setIfInBounds_toArray, List.set_cons_zero, List.set_cons_succ]; rfl)), ?_⟩
        refine .nil ?_
        intro w2 hb2
        have hw2 := hwr.trans (hb2.mono hb1)
        have ho2 := hor.below hb2
        clear hor hb2
        obtain ⟨c0, c1', c2, c3⟩ := HX.out w2 hw2
        have ba1 : Below w1.heap.size w1 (w2.alloc (.cells #[.string x.p, .int .u64 x.v, .int .i64 x.k, .slice x.x.A x.x.l.length x.x.c] 59)) := hw2.alloc hw2.size _; have oa1 := Lib.hid (ho2.below ((Below.refl _ w2).alloc (Nat.le_refl _) (.cells #[.string x.p, .int .u64 x.v, .int .i64 x.k, .slice x.x.A x.x.l.length x.x.c] 59))); have ra1 : Hid (Rd (w2.alloc (.cells #[.string x.p, .int .u64 x.v, .int .i64 x.k, .slice x.x.A x.x.l.length x.x.c] 59)) (fun _ => True) 4 (some ⟨w2.heap.size, 0, none⟩) 1 (EV.cells x)) := (Rd.lit (w := w2) (t := 59) (size := 4) (n := 1) (xs := EV.cells x) rfl rfl rfl).mono (fun _ _ _ => trivial)
        clear ho2 HI x1
        go_wp2_with (at_builtin; refine wpList_append_entry rfl (.tmp 31) (.tmp 36) (t := 45) rfl rfl rfl oa1.out rfl ra1.out (by simp; omega) ba1.size ?_; intro A5 c5 w5 ho5 hb5 _; have hw5 := ba1.trans hb5)
        go_roundw
        case rel => exact ⟨i + 1, A5, c5, l ++ [x], true, hlt, by go_num, rfl, by simp, HD, HN, by simp; omega, ho5, hw5⟩
        case measure => simp [intOf]; omega
    · have e : i = M.length := by omega
      subst e
      rw [List.take_length] at hd hl
      have hs1 := hw1.size
      cases d
      · have HN : Hid (l ++ [v] = insE v M) := by
          show _ = _
          rw [insE_none hd.out.symm, hl.out]
          unfold midE
          rw [if_neg (by rw [← hd.out]; simp)]
        obtain ⟨q0, q1, q2, q3⟩ := HB.out wr hwr
        have ba1 : Below w1.heap.size w1 (wr.alloc (.cells #[.string v.p, .int .u64 v.v, .int .i64 v.k, .slice v.x.A v.x.l.length v.x.c] 59)) := hwr.alloc hwr.size _; have oa1 := Lib.hid (hor.below ((Below.refl _ wr).alloc (Nat.le_refl _) (.cells #[.string v.p, .int .u64 v.v, .int .i64 v.k, .slice v.x.A v.x.l.length v.x.c] 59))); have ra1 : Hid (Rd (wr.alloc (.cells #[.string v.p, .int .u64 v.v, .int .i64 v.k, .slice v.x.A v.x.l.length v.x.c] 59)) (fun _ => True) 4 (some ⟨wr.heap.size, 0, none⟩) 1 (EV.cells v)) := (Rd.lit (w := wr) (t := 59) (size := 4) (n := 1) (xs := EV.cells v) rfl rfl rfl).mono (fun _ _ _ => trivial)
        clear hl hd hor HI x1
        go_wp2_with (at_builtin; refine wpList_append_entry rfl (.tmp 40) (.tmp 42) (t := 45) rfl rfl rfl oa1.out rfl ra1.out (by simp; omega) ba1.size ?_; intro A5 c5 w5 ho5 hb5 _; have hw5 := ba1.trans hb5)
        go_ret
        exact ⟨⟨A5, c5, l ++ [v], by simp, HN, own_base ho5 (fun g hg => Nat.le_trans hs1 (ho5.lt _ hg).1)⟩, hw1.trans (hw5.mono hs1)⟩
      · have HN : Hid (l = insE v M) := by
          show _ = _
          rw [hl.out]
          unfold midE
          rw [if_pos hd.out.symm]
        clear hl hd HI x1
        go_wp2_with fail
        go_ret
        exact ⟨⟨A', c', l, rfl, HN, own_base hor (fun g hg => Nat.le_trans hs1 (hor.lt _ hg).1)⟩, hw1.trans (hwr.mono hs1)⟩

end Go.Proofs.YtdnljmncdbcgeaaGreat
