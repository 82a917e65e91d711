/- tenderlaw22: lives, Plays. -/
import Derived.Test.YtdnljmncdbcgeaaGreatA11
import Derived.ChangeMaps5

namespace Go.Proofs.YtdnljmncdbcgeaaGreat
open Go.RowKit Go.Maps

/-- entries taken, one after the other -/
def playB (T : List (List UInt8 × EP)) (l : List (List UInt8 × EP)) : List (List UInt8 × EP) := l.foldl (fun T y => (putP T y.1 y.2).1) T
theorem playB_snoc (T l : List (List UInt8 × EP)) (y : List UInt8 × EP) : playB T (l ++ [y]) = (putP (playB T l) y.1 y.2).1 := by simp [playB, List.foldl_append]
theorem BookOk.play {T l : List (List UInt8 × EP)} (h : BookOk T) : BookOk (playB T l) := by
  induction l generalizing T with
  | nil => exact h
  | cons y l ih => exact ih (h.put y.1 y.2)
/-- a book that took entries, and the document's -/
structure PlayedB (w : World) (T : List (List UInt8 × EP)) (bb : Nat) (mo : Option Nat) (L : List (List UInt8 × EV)) (s : Int) (B : Option Addr) (M : List EV) : Prop where
  book : BookAt w bb mo L s
  plain : Hid (plainB L = T)
  es : EsR w B M
  same : Hid (M.map EV.pl = T)
theorem PlayedB.below {w w' : World} {T : List (List UInt8 × EP)} {bb : Nat} {mo : Option Nat} {L : List (List UInt8 × EV)} {s : Int} {B : Option Addr} {M : List EV} (h : PlayedB w T bb mo L s B M) (k : Below w.heap.size w w') : PlayedB w' T bb mo L s B M := ⟨h.book.below k, h.plain, h.es.below k, h.same⟩
theorem PlayedB.ok {w : World} {T : List (List UInt8 × EP)} {bb : Nat} {mo : Option Nat} {L : List (List UInt8 × EV)} {s : Int} {B : Option Addr} {M : List EV} (h : PlayedB w T bb mo L s B M) : BookOk T := by rw [← h.plain.out]; exact h.book.plain
/-- entries stay where a book is written -/
theorem EsR.notMap {w w' : World} {A : Option Addr} {M : List EV} {mb : Nat} {K : List (List UInt8 × Value)} (h : EsR w A M) (hm : MapAt w Tryz.prog 9 mb K) (k : Fr (fun x => x = mb) w w') : EsR w' A M := by
  have hr : Rd w (fun b => b ≠ mb) 4 A M.length (M.flatMap EV.cells) := by
    refine ⟨h.rd.1, fun hn => ?_⟩
    obtain ⟨b, off, e, hz, hlt, hc⟩ := h.rd.2 hn
    refine ⟨b, off, e, fun eb => ?_, hlt, hc⟩
    subst eb
    rcases M with _ | ⟨x, M⟩
    · simp at hn
    · have h1 := hc 0 (.string x.p) rfl
      obtain ⟨D, ⟨es, clock, h2, _⟩, _⟩ := hm.own
      simp [World.cell?, h2] at h1
  exact ⟨(hr.fr k (fun b _ hz e => hz e)).mono (fun _ _ _ => trivial), fun x hx => ⟨((((h.ok x hx).1).not_mapAt hm).fr k (fun b _ hz e => hz.2 e)).mono (fun _ _ _ => trivial), (h.ok x hx).2⟩, h.len⟩
/-- entries stay where a book is written -/
theorem EsR.bookTo {w w' : World} {A : Option Addr} {M : List EV} {bb : Nat} {mo : Option Nat} {L : List (List UInt8 × EV)} {s : Int} (h : EsR w A M) (hb : BookAt w bb mo L s) (k : Fr (fun g => g = bb ∨ mo = some g) w w') : EsR w' A M := by
  have hin : ∀ {A : Option Addr} {n sz : Nat} {xs : List Value}, Rd w (fun _ => True) sz A n xs → (0 < n * sz → ∃ u, xs[0]? = some u ∧ u ≠ .int .u64 s ∧ u ≠ .map mo) → Rd w (fun b => ¬ (b = bb ∨ mo = some b)) sz A n xs := fun {A n sz xs} h1 h2 => by
    refine ⟨h1.1, fun hn => ?_⟩
    obtain ⟨b, off, e, hz, hlt, hc⟩ := h1.2 hn
    obtain ⟨u, hu, hu1, hu2⟩ := h2 hn
    refine ⟨b, off, e, ?_, hlt, hc⟩
    have h3 := hc 0 u hu
    rw [Nat.add_zero] at h3
    rintro (rfl | hm)
    · rw [hb.blk.cell] at h3
      rcases off with _ | _ | off
      · simp at h3; exact hu1 h3.symm
      · simp at h3; exact hu2 h3.symm
      · simp at h3
    · rcases hb.map with ⟨e0, _⟩ | ⟨mb, e0, hm2⟩
      · rw [e0] at hm; cases hm
      · rw [e0] at hm
        injection hm with hm
        subst hm
        obtain ⟨D, ⟨es, clock, h4, _⟩, _⟩ := hm2.own
        simp [World.cell?, h4] at h3
  refine ⟨((hin h.rd (fun hn => ?_)).fr k (fun b _ hz e => hz e)).mono (fun _ _ _ => trivial), fun x hx => ⟨((hin (h.ok x hx).1 (fun hn => ?_)).fr k (fun b _ hz e => hz e)).mono (fun _ _ _ => trivial), (h.ok x hx).2⟩, h.len⟩
  · rcases M with _ | ⟨x, M⟩
    · simp at hn
    · exact ⟨.string x.p, rfl, by simp, by simp⟩
  · rcases hl : x.x.l with _ | ⟨y, l⟩
    · rw [hl] at hn; simp at hn
    · exact ⟨bv y, by simp, by simp [bv], by simp [bv]⟩
theorem Ents.esr {w : World} {Z : Nat → Prop} {A : Option Addr} {l : List EV} (h : Ents w Z A l) (hl : l.length ≤ 1000000) : EsR w A l := ⟨h.rd.mono (fun _ _ _ => trivial), fun x hx => (h.ok x hx).x.mono (fun _ _ _ => trivial), hl⟩
theorem lightE_all {l : List EV} (h : lightE l = true) : l.length ≤ 400 ∧ ∀ x ∈ l, x.p.size ≤ 20000 ∧ x.x.l.length ≤ 20000 := by
  unfold lightE at h
  rw [Bool.and_eq_true, decide_eq_true_eq, decide_eq_true_eq] at h
  refine ⟨h.2, fun x hx => ?_⟩
  have : lenE x ≤ lensE l := by
    have h1 := h.1
    clear h h1
    induction l with
    | nil => cases hx
    | cons y l ih =>
      unfold lensE at *
      rw [List.map_cons, List.sum_cons]
      rcases List.mem_cons.1 hx with rfl | hx
      · omega
      · have := ih hx; omega
  unfold lenE at this
  omega

set_option maxRecDepth 100000 in
set_option maxHeartbeats 2000000 in
theorem plays22_any (A : Option Addr) (c : Nat) (l : List EV) (Z : Nat → Prop) (w : World) (h : Ents w Z A l) (hl : l.length ≤ 400 ∧ ∀ x ∈ l, x.p.size ≤ 20000 ∧ x.x.l.length ≤ 20000) :
    Calls Tryz.prog 19 #[.slice A l.length c] w fun e w' => ∃ (bb : Nat) (mo : Option Nat) (L : List (List UInt8 × EV)) (B : Option Addr) (d : Nat) (M : List EV), e = .returned (.tuple #[.pointer (some ⟨bb, 0, none⟩), .agg #[.int .u64 0, .slice B M.length d], .bool true]) ∧ PlayedB w' (playB [] (l.map EV.pl)) bb mo L 0 B M ∧
      w.heap.size ≤ bb ∧ (∀ m, mo = some m → w.heap.size ≤ m) ∧ Below w.heap.size w w' := by
  have hb0 : Below w.heap.size w (w.alloc (.cells #[.int .u64 0, .slice none 0 0] 50)) := (by repeat (first | exact Below.refl _ _ | refine Below.alloc ?_ (by simp) _ | refine Below.setCell ?_ (by simp) _ | refine Below.drew ?_))
  have x0 := Blk.new w 50 #[.int .u64 0, .slice none 0 0]
  have HA := Lib.hid h
  have HL := Lib.hid hl.2
  have hll := hl.1
  clear h hl
  go_enter Tryz.func19, Tryz.ntmps19
  go_wp2_with fail
  generalize w.alloc (.cells #[.int .u64 0, .slice none 0 0] 50) = w0 at *
  refine (bookNew_any w0).mono ?_
  rintro e w1 ⟨bb, rfl, hB1, hbb, hb1⟩
  have hw1 := hb0.trans (hb1.mono hb0.size)
  have x1 := x0.below hb1
  have hba : Below w1.heap.size w1 (w1.alloc (.cells #[.int .u64 0, .slice none 0 0] 50)) := (Below.refl _ _).alloc (Nat.le_refl _) _
  have y2 := Blk.new w1 50 #[.int .u64 0, .slice none 0 0]
  have x2 := x1.below hba
  have hw2 := hw1.trans (hba.mono hw1.size)
  have hB2 := hB1.below hba
  have hbl := hB1.blk.lt
  have HB2 := Lib.hid hB2
  have hsz0 := hb0.size
  obtain ⟨yb, hyb⟩ : ∃ yb, yb = w1.heap.size := ⟨_, rfl⟩
  clear hB1 hB2 x0 x1 hb0 hb1
  go_upto_region 4 with (fail)
  generalize w1.alloc (.cells #[.int .u64 0, .slice none 0 0] 50) = w2 at *
  rw [← hyb] at y2 hbl ⊢
  have hxy : w.heap.size ≠ yb := by have := x2.lt; have := hw1.size; omega
  clear hba hyb
  go_wp2_with fail
  go_loopw [18] (fun iv wr => ∃ (i : Nat) (mo : Option Nat) (L : List (List UInt8 × EV)) (B : Option Addr) (d : Nat) (M : List EV), i ≤ l.length ∧ iv = .int .i64 (i : Int) ∧ Blk wr yb 50 #[.int .u64 0, .slice B M.length d] ∧ Blk wr w.heap.size 50 #[.int .u64 0, .slice none 0 0] ∧ PlayedB wr (playB [] ((l.take i).map EV.pl)) bb mo L 0 B M ∧ (∀ m, mo = some m → w.heap.size ≤ m) ∧ Below w.heap.size w wr) (fun iv _ => l.length - (intOf iv).toNat)
  case atStart => exact ⟨0, none, [], none, 0, [], Nat.zero_le _, rfl, y2, x2, ⟨HB2.out, rfl, ⟨Rd.nil, by simp, by simp⟩, rfl⟩, by simp, hw2⟩
  case round =>
    clear x2 y2 hw2 HB2
    obtain ⟨i, mo, L, B, d, M, hi, rfl, y2, x2, hP, hmo, hb⟩ := hrel
    by_cases hlt : i < l.length
    · have hA := HA.out.below hb
      obtain ⟨b, off, rfl, _, hbb', c0, c1, c2, c3⟩ := ent_at hA.rd hlt
      have hxo := hA.ok _ (List.getElem_mem hlt)
      have hxl := HL.out _ (List.getElem_mem hlt)
      have hps : Hid (playB [] ((l.take (i + 1)).map EV.pl) = (putP (playB [] ((l.take i).map EV.pl)) (tl l[i].p) l[i].ep).1) := Lib.hid (by rw [pl_snoc l i hlt, playB_snoc]; rfl)
      obtain ⟨x, hx⟩ : ∃ x, x = l[i] := ⟨_, rfl⟩
      rw [← hx] at c0 c1 c2 c3 hxo hxl hps
      obtain ⟨T, hT⟩ : ∃ T, T = playB [] ((l.take i).map EV.pl) := ⟨_, rfl⟩
      rw [← hT] at hP hps
      obtain ⟨hx1, hx2⟩ := hxl
      have hba : Below wr.heap.size wr (wr.alloc (.cells #[.string x.p, .int .u64 x.v, .int .i64 x.k, .slice x.x.A x.x.l.length x.x.c] 59)) := (Below.refl _ _).alloc (Nat.le_refl _) _
      have z3 := Blk.new wr 59 #[.string x.p, .int .u64 x.v, .int .i64 x.k, .slice x.x.A x.x.l.length x.x.c]
      have HP3 := Lib.hid (hP.below hba)
      have HX3 := Lib.hid (hxo.x.below hba)
      have hw3 := hb.trans (hba.mono hb.size)
      have hv := hxo.v
      have hyl := y2.lt
      have hxl0 := x2.lt
      replace x2 := x2.below hba
      replace y2 := y2.below hba
      clear hP hA hxo hx hT
      go_upto_region 7 with (fail)
      generalize wr.alloc (.cells #[.string x.p, .int .u64 x.v, .int .i64 x.k, .slice x.x.A x.x.l.length x.x.c] 59) = w3 at *
      have p0 := y2.cell 0
      have p1 := y2.cell 1
      simp only [List.getElem?_toArray, List.getElem?_cons_zero, List.getElem?_cons_succ] at p0 p1
      have q0 := z3.cell 0
      have q1 := z3.cell 1
      have q2 := z3.cell 2
      have q3 := z3.cell 3
      simp only [List.getElem?_toArray, List.getElem?_cons_zero, List.getElem?_cons_succ] at q0 q1 q2 q3
      have HE := Lib.hid (refPut22_any B d M 0 x w3 HP3.out.es (HX3.out.mono (fun _ _ _ => trivial)) (by omega) hv (by omega) (by rw [HP3.out.same.out]; exact HP3.out.ok))
      rw [HP3.out.same.out] at HE
      have HBP := Lib.hid (fun w (hB : BookAt w bb mo L 0) (hy : By w (fun _ => True) x.x.A x.x.l) => bookPut_any bb mo L 0 (tl x.p) x.v x.k x.x.A x.x.c x.x.l _ w hB hy (by rw [tl_len]; omega) hv (by omega))
      rw [HP3.out.plain.out] at HBP
      obtain ⟨R, hR⟩ : ∃ R, R = putP T (tl x.p) x.ep := ⟨_, rfl⟩
      rw [show putP T (tl x.p) (x.v, x.k, x.x.l) = R from hR.symm] at HBP
      rw [← hR] at HE hps
      obtain ⟨T', E⟩ := R
      dsimp only at HE HBP hps
      clear hba hR
      go_wp2_with fail
      refine HE.out.mono ?_
      rintro e w4 ⟨⟨B4, d4, M4, rfl, hM4, hE4⟩, hb4⟩
      have hw4 := hw3.trans (hb4.mono hw3.size)
      have hba : Below w4.heap.size w4 (w4.alloc (.cells #[.int .u64 0, .slice B4 M4.length d4] 50)) := (Below.refl _ _).alloc (Nat.le_refl _) _
      have y5 := Blk.new w4 50 #[.int .u64 0, .slice B4 M4.length d4]
      have hw5 := hw4.trans (hba.mono hw4.size)
      have HB5 := Lib.hid ((HP3.out.book.below hb4).below hba)
      have HX5 := Lib.hid (((HX3.out.below hb4).below hba).1.mono (fun _ _ _ => trivial))
      have HM5 := Lib.hid hM4
      have HE5 := Lib.hid (hE4.below hba)
      replace x2 := (x2.below hb4).below hba
      replace y2 := (y2.below hb4).below hba
      replace z3 := (z3.below hb4).below hba
      have hs4 := hb4.size
      have hs3 := hw3.size
      have hz3l := z3.lt
      clear hM4 hE4 hb4 HE HX3 HP3 p0 p1 q0 q1 q2 q3
      go_upto_region 8 with (fail)
      generalize w4.alloc (.cells #[.int .u64 0, .slice B4 M4.length d4] 50) = w5 at *
      have q0 := z3.cell 0
      have q1 := z3.cell 1
      have q2 := z3.cell 2
      have q3 := z3.cell 3
      simp only [List.getElem?_toArray, List.getElem?_cons_zero, List.getElem?_cons_succ] at q0 q1 q2 q3
      clear hba
      go_wp2_with fail
      refine (HBP.out w5 HB5.out HX5.out).mono ?_
      rintro e w6 ⟨rfl, hto⟩
      obtain ⟨⟨mo', L', hB6, hL6, hmo6⟩, hfr⟩ := hto
      have n1 := HB5.out.notB x2 (by decide)
      have n2 := HB5.out.notB y2 (by decide)
      have n5 := HB5.out.notB y5 (by decide)
      have x6 := x2.fr hfr n1
      have y6 := y2.fr hfr n2
      have y56 := y5.fr hfr n5
      have HE6 := Lib.hid (HE5.out.bookTo HB5.out hfr)
      have HB6 := Lib.hid hB6
      have hL6' := Lib.hid hL6.out
      have hw6 : Below w.heap.size w w6 := hw5.trans (hfr.below hw5.size (fun k hk e => by
        rcases e with e | e
        · omega
        · have := hmo _ e; omega))
      have hmo7 : ∀ m, mo' = some m → w.heap.size ≤ m := fun m e => by
        rcases hmo6 m e with e | e
        · exact hmo m e
        · have := hw5.size; omega
      have hne : (E != E) = false := by simp
      have kR : Fr (fun x => x = yb) w6 ((w6.setCell ⟨yb, 0, none⟩ (.int .u64 0)).setCell ⟨yb, 1, none⟩ (.slice B4 M4.length d4)) := ((Fr.refl (fun x => x = yb) w6).setAt yb _ rfl _).setAt yb _ rfl _
      have yR := (y6.set_ 0 (.int .u64 0)).set_ 1 (.slice B4 M4.length d4)
      simp only [List.setIfInBounds_toArray, List.set_cons_zero, List.set_cons_succ] at yR
      have xR := x6.fr kR (fun e => hxy e)
      have HB7 := Lib.hid (HB6.out.fr_blk y6 (by decide) (by decide) kR)
      have HE7 := Lib.hid (HE6.out.notBook y6 (by simp) (by simp) kR)
      have hw7 := hw6.trans (kR.below (B := w.heap.size) hw6.size (fun k hk e => by omega))
      have r0 := y56.cell 0
      have r1 := y56.cell 1
      simp only [List.getElem?_toArray, List.getElem?_cons_zero, List.getElem?_cons_succ] at r0 r1
      have fr := fun o => y6.frozen o
      have p0 := y6.cell 0
      have p1 := y6.cell 1
      simp only [List.getElem?_toArray, List.getElem?_cons_zero, List.getElem?_cons_succ] at p0 p1
      have hs6 := hw6.size
      clear hfr hB6 hL6 HB5 HX5 HE5 HBP n1 n2 n5 x2 y2 y5 z3 q0 q1 q2 q3 x6 y56 hmo6
      go_wp2_with fail
      generalize (w6.setCell ⟨yb, 0, none⟩ (.int .u64 0)).setCell ⟨yb, 1, none⟩ (.slice B4 M4.length d4) = w7 at *
      go_roundw
      case rel => exact ⟨i + 1, mo', L', B4, d4, M4, hlt, by go_num, yR, xR, ⟨HB7.out, by show _ = _; rw [hL6'.out, hps.out], HE7.out, by show _ = _; rw [HM5.out.out, hps.out]⟩, hmo7, hw7⟩
      case measure => simp [intOf]; omega
    · have e : i = l.length := by omega
      subst e
      rw [List.take_length] at hP
      go_wp2_with fail
      refine wp_region_m [true, true, true] (fun W => Below wr.heap.size wr W) (by kernel_rfl) (by kernel_rfl) ?_
      simp only [List.length_cons, List.length_nil, Nat.zero_add, Nat.reduceAdd, List.take_succ_cons, List.take_zero, List.drop_succ_cons, List.drop_zero]
      refine mx_move _ (by kernel_rfl) rfl ⟨_, (by ((try simp [go_sem]); (try rfl); done)), _, (by (simp only [Act.put, List.setIfInBounds_toArray, List.set_cons_zero, List.set_cons_succ]; rfl)), ?_⟩
      refine mx_val (by kernel_rfl) ⟨_, (by (intro w' hC; (have q0 := (y2.below hC).cell 0; have q1 := (y2.below hC).cell 1; simp only [List.getElem?_toArray, List.getElem?_cons_zero, List.getElem?_cons_succ] at q0 q1); clear hC; (try go_simp); (try with_reducible rfl); done)), _, (by (simp only [Act.put, List.setIfInBounds_toArray, List.set_cons_zero, List.set_cons_succ]; rfl)), ?_⟩
      refine mx_assign _ (by kernel_rfl) rfl ⟨_, (by ((try simp [go_sem]); (try rfl); done)), _, (by (simp only [Act.put, List.setIfInBounds_toArray, List.set_cons_zero, List.set_cons_succ]; rfl)), ?_⟩
      refine mx_end (Below.refl _ _).drew ?_
      have hbd : Below wr.heap.size wr wr.drew := (Below.refl _ _).drew
      replace hP := hP.below hbd
      replace x2 := x2.below hbd
      replace hb := hb.trans (hbd.mono hb.size)
      clear y2 hbd
      generalize wr.drew = wd at *
      have kR : Fr (fun x => x = w.heap.size) wd ((wd.setCell ⟨w.heap.size, 0, none⟩ (.int .u64 0)).setCell ⟨w.heap.size, 1, none⟩ (.slice B M.length d)) := ((Fr.refl (fun x => x = w.heap.size) wd).setAt (w.heap.size) _ rfl _).setAt (w.heap.size) _ rfl _
      have yR := (x2.set_ 0 (.int .u64 0)).set_ 1 (.slice B M.length d)
      simp only [List.setIfInBounds_toArray, List.set_cons_zero, List.set_cons_succ] at yR
      have hwR := hb.trans (kR.below (B := w.heap.size) hb.size (fun k hk e => by omega))
      have HPR := Lib.hid (PlayedB.mk (hP.book.fr_blk x2 (by decide) (by decide) kR) hP.plain (hP.es.notBook x2 (by simp) (by simp) kR) hP.same)
      have fr := fun o => x2.frozen o
      have r0 := x2.cell 0
      have r1 := x2.cell 1
      simp only [List.getElem?_toArray, List.getElem?_cons_zero, List.getElem?_cons_succ] at r0 r1
      clear hP
      go_wp2_with fail
      generalize (wd.setCell ⟨w.heap.size, 0, none⟩ (.int .u64 0)).setCell ⟨w.heap.size, 1, none⟩ (.slice B M.length d) = wR at *
      have s0 := yR.cell 0
      have s1 := yR.cell 1
      simp only [List.getElem?_toArray, List.getElem?_cons_zero, List.getElem?_cons_succ] at s0 s1
      refine bodyPost_ret (v := .tuple #[.pointer (some ⟨bb, 0, none⟩), .agg #[.int .u64 0, .slice B M.length d], .bool true]) (by simp [results, Tryz.results19, go_sem, s0, s1]) rfl ?_
      exact ⟨bb, mo, L, B, d, M, rfl, HPR.out, by omega, hmo, hwR⟩

end Go.Proofs.YtdnljmncdbcgeaaGreat

/- tenderlaw22: lives. -/
namespace Go.Proofs.YtdnljmncdbcgeaaGreat
open Go.RowKit Go.Maps

def exBk : List (List UInt8 × EP) := [([97], (1048577, 2, []))]
theorem exB1 : putP [] [97] (1048577, 2, []) = (exBk, 0) := by decide
theorem exB2 : putP exBk [97] (1048577, 2, []) = (exBk, 31) := by decide
/-- one call of Put of an entry without bytes -/
theorem put_step {w : World} {bb : Nat} {mo : Option Nat} {L : List (List UInt8 × EV)} {T T' : List (List UInt8 × EP)} {m s : Int} (p : List UInt8) (v k : Int) (h : BookAt w bb mo L s) (hT : Hid (plainB L = T)) (hm : putP T p (v, k, []) = (T', m)) (hp : p.length ≤ 1048576) (hv : 0 ≤ v ∧ v < 18446744073709551616) :
    Calls Tryz.prog 26 #[.pointer (some ⟨bb, 0, none⟩), .agg #[.string ⟨⟨p⟩⟩, .int .u64 v, .int .i64 k, .slice none 0 0]] w fun e w' => e = .returned (.int .i64 m) ∧ ∃ mo' L', BookAt w' bb mo' L' s ∧ Hid (plainB L' = T') ∧ (∀ m, mo' = some m → mo = some m ∨ w.heap.size ≤ m) ∧ Fr (fun g => g = bb ∨ mo = some g) w w' := by
  refine (bookPut_any bb mo L s p v k none 0 [] (fun _ => True) w h Rd.nil hp hv (by simp)).mono ?_
  rintro e w' ⟨rfl, hto⟩
  rw [hT.out, hm] at hto ⊢
  obtain ⟨mo', L', h1, h2, h3⟩ := hto.at_
  exact ⟨rfl, mo', L', h1, h2, h3, hto.fr⟩
set_option maxRecDepth 100000 in
set_option maxHeartbeats 1000000 in
theorem lives22_any (w : World) : Calls Tryz.prog 23 #[] w fun e w' => e = .returned (.bool true) ∧ Below w.heap.size w w' := by
  go_enter Tryz.func23, Tryz.ntmps23
  go_wp2_with fail
  refine (bookNew_any w).mono ?_
  rintro e w1 ⟨bb, rfl, hB1, hbb, hb1⟩
  have hba : Below w1.heap.size w1 (w1.alloc (.cells #[.string ⟨#[97]⟩, .int .u64 1048577, .int .i64 2, .slice none 0 0] 59)) := (Below.refl _ _).alloc (Nat.le_refl _) _
  have z2 := Blk.new w1 59 #[.string ⟨#[97]⟩, .int .u64 1048577, .int .i64 2, .slice none 0 0]
  have HB2 := Lib.hid (hB1.below hba)
  have hw2 := hb1.trans (hba.mono hb1.size)
  have hL0 : Hid (plainB ([] : List (List UInt8 × EV)) = []) := rfl
  obtain ⟨xb, hxb⟩ : ∃ xb, xb = w1.heap.size := ⟨_, rfl⟩
  clear hB1 hb1
  go_upto_region 3 with (fail)
  generalize w1.alloc (.cells #[.string ⟨#[97]⟩, .int .u64 1048577, .int .i64 2, .slice none 0 0] 59) = w2 at *
  rw [← hxb] at z2 ⊢
  clear hxb hba
  have q0 := z2.cell 0
  have q1 := z2.cell 1
  have q2 := z2.cell 2
  have q3 := z2.cell 3
  simp only [List.getElem?_toArray, List.getElem?_cons_zero, List.getElem?_cons_succ] at q0 q1 q2 q3
  go_wp2_with fail
  refine (put_step [97] 1048577 2 HB2.out hL0 exB1 (by decide) (by decide)).mono ?_
  rintro e w3 ⟨rfl, mo3, L3, hB3, hL3, hmo3, hfr3⟩
  have z3 := z2.fr hfr3 (HB2.out.notB z2 (by decide))
  have hw3 := hw2.trans (hfr3.below (B := w.heap.size) hw2.size (fun k hk e => by
    rcases e with e | e
    · omega
    · cases e))
  have hmo3' : ∀ m, mo3 = some m → w.heap.size ≤ m := fun m e => by
    rcases hmo3 m e with e | e
    · cases e
    · have := hw2.size; omega
  have HB3 := Lib.hid hB3
  clear q0 q1 q2 q3 z2 hfr3 hB3 hmo3 HB2
  have q0 := z3.cell 0
  have q1 := z3.cell 1
  have q2 := z3.cell 2
  have q3 := z3.cell 3
  simp only [List.getElem?_toArray, List.getElem?_cons_zero, List.getElem?_cons_succ] at q0 q1 q2 q3
  go_wp2_with fail
  refine (put_step [97] 1048577 2 HB3.out hL3 exB2 (by decide) (by decide)).mono ?_
  rintro e w4 ⟨rfl, mo4, L4, hB4, hL4, hmo4, hfr4⟩
  have hw4 := hw3.trans (hfr4.below (B := w.heap.size) hw3.size (fun k hk e => by
    rcases e with e | e
    · omega
    · have := hmo3' _ e; omega))
  have hlen : L4.length = 1 := by rw [← plainB_len, hL4.out]; rfl
  have HG := Lib.hid (bookGet_any bb mo4 L4 0 [98] w4 hB4 (by decide))
  have hgv : Hid ((gotE L4 [98]).v = 0) := Lib.hid (by
    have := get_plainB L4 [98]
    rw [hL4.out] at this
    rcases hg : getR L4 [98] with _ | o
    · unfold gotE; rw [hg]; rfl
    · rw [hg, show getR exBk [98] = none by decide] at this; cases this)
  have HB4 := Lib.hid hB4
  clear q0 q1 q2 q3 z3 hfr4 hB4 hmo4 HB3 hL4
  go_wp2_with fail
  refine (bookLen_any bb mo4 L4 0 w4 HB4.out).mono ?_
  rintro e w5 ⟨rfl, rfl⟩
  rw [hlen]
  go_wp2_with fail
  refine HG.out.mono ?_
  rintro e w6 ⟨q, v, k, A, c, l, rfl, hq, ho, hb6⟩
  obtain rfl : v = 0 := hq.out.2.1.trans hgv.out
  have hfd := fun W => (show (Instr.field 59 (.agg #[.string q, .int .u64 0, .int .i64 k, .slice A l.length c]) 1).run Tryz.prog W = .ok (.int .u64 0) W by kernel_rfl)
  have hw6 := hw4.trans (hb6.mono hw4.size)
  clear hq ho HG hgv
  go_wp2_with fail
  go_ret
  exact ⟨rfl, hw6⟩
end Go.Proofs.YtdnljmncdbcgeaaGreat

/- BookFull is true for every input: where there are as many entries as may be, an entry of nothing goes for another one, that of the least version; if there is none the book is full. No condition beyond the row's own. -/
namespace Go.Proofs.YtdnljmncdbcgeaaGreat
open Go.RowKit Go.Maps

theorem EsOwn.esr {w : World} {base : Nat} {A : Option Addr} {c : Nat} {M : List EV} (h : EsOwn w base A c M) (hl : M.length ≤ 1000000) : EsR w A M :=
  h.row.esr (fun x hx => by
    obtain ⟨A', c', e, h2, h3, _⟩ := (h.byt x hx).form
    injection e with e1 e2 e3
    subst e1 e3
    exact ⟨(h.byt x hx).rd.mono (fun _ _ _ => trivial), h2, h3⟩) hl
theorem ent_one {w : World} {x : EV} (h : x.ok w (fun b => b < w.heap.size)) : Ents (w.alloc (.cells #[.string x.p, .int .u64 x.v, .int .i64 x.k, .slice x.x.A x.x.l.length x.x.c] 59)) (fun b => b < w.heap.size + 1) (some ⟨w.heap.size, 0, none⟩) [x] := by
  refine ⟨(Rd.lit (w := w) (t := 59) (size := 4) (n := 1) (xs := [x].flatMap EV.cells) rfl rfl rfl).mono (fun b hb hz => ?_), ?_, by simp⟩
  · simpa using hb
  · intro y hy
    rw [List.mem_singleton.1 hy]
    exact (h.mono (fun b hb hz => by omega)).below ((Below.refl _ _).alloc (Nat.le_refl _) _)

end Go.Proofs.YtdnljmncdbcgeaaGreat

/- A book's bytes: book.Bytes and tenderref22.Bytes; read back. -/
namespace Go.Proofs.YtdnljmncdbcgeaaGreat
open Go.RowKit Go.Maps

def entBs (T : List (List UInt8 × EP)) : List UInt8 := T.flatMap fun y => entB y.1 y.2.2.2 y.2.1 y.2.2.1
/-- a book's bytes -/
def bookB (s : Nat) (T : List (List UInt8 × EP)) : List UInt8 := numB s ++ (numB T.length ++ entBs T)
theorem entBs_pl (M : List EV) : M.flatMap EV.b = entBs (M.map EV.pl) := by
  unfold entBs
  rw [List.flatMap_map]
  rfl
theorem entBs_cons (y : List UInt8 × EP) (T : List (List UInt8 × EP)) : entBs (y :: T) = entB y.1 y.2.2.2 y.2.1 y.2.2.1 ++ entBs T := by simp [entBs]
theorem checkN_kind {k : Int} {n : Nat} (h : checkN k n = 0) : 0 ≤ k ∧ k ≤ 2 := by
  have := (checkN_ok h).1
  omega
theorem ep_lenE {x : EV} (h : checkP x.pl.1 x.pl.2 = 0) : lenE x ≤ 4192 := by
  obtain ⟨h1, _, h3⟩ := checkP_good h
  have h4 := goodB_len (userB_good h1)
  have h5 := checkN_len h3
  have h6 : x.pl.1 = tl x.p := rfl
  have h7 : x.pl.2.2.2 = x.x.l := rfl
  rw [h6, tl_len] at h4
  rw [h7] at h5
  unfold lenE
  omega
theorem wideE_good (M : List EV) (h : ∀ x ∈ M, checkP x.pl.1 x.pl.2 = 0) : wideE M ≤ 4228 * M.length := by
  induction M with
  | nil => simp [wideE]
  | cons x M ih =>
    have h1 := ep_lenE (h x (by simp))
    have h2 := ih (fun y hy => h y (by simp [hy]))
    simp only [wideE, List.map_cons, List.sum_cons, List.length_cons] at h2 ⊢
    omega
theorem entS_backP {y : List UInt8 × EP} (t : List UInt8) (h : checkP y.1 y.2 = 0) : entS (entB y.1 y.2.2.2 y.2.1 y.2.2.1 ++ t) 0 = ⟨y.1, y.2.1.toNat, y.2.2.1.toNat, y.2.2.2, t, 0⟩ := by
  obtain ⟨_, h2, h3⟩ := checkP_good h
  have h4 := isV_pos h2
  obtain ⟨n, hn⟩ : ∃ n : Nat, y.2.1 = (n : Int) := ⟨y.2.1.toNat, by omega⟩
  unfold checkP at h
  rw [hn] at h h4 ⊢
  rw [entS_back t (by omega) h]
  rfl
theorem readGo_back : ∀ (R T : List (List UInt8 × EP)), SortR (T ++ R) → (∀ y ∈ R, checkP y.1 y.2 = 0) → readGo R.length T (entBs R) 0 = (T ++ R, [], 0)
  | [], T, _, _ => by simp [entBs, readGo]
  | y :: R, T, hs, hg => by
    have hy := hg y (by simp)
    have he := entS_backP (entBs R) hy
    have h2 := (checkP_good hy).2
    have h3 := isV_pos h2.1
    have h4 := checkN_kind h2.2
    have hep : (entS (entB y.1 y.2.2.2 y.2.1 y.2.2.1 ++ entBs R) 0).ep = y.2 := by
      rw [he]
      show ((y.2.1.toNat : Int), (y.2.2.1.toNat : Int), y.2.2.2) = y.2
      rw [Int.toNat_of_nonneg (by omega), Int.toNat_of_nonneg h4.1]
    have hT : T = [] ∨ cmpT (lastP T) y.1 < 0 := by
      by_cases h : T = []
      · exact .inl h
      · refine .inr ?_
        have e2 : T = T.dropLast ++ [T.getLast h] := (List.dropLast_concat_getLast h).symm
        rw [e2, lastP_snoc]
        unfold SortR at hs
        rw [List.pairwise_append] at hs
        exact hs.2.2 _ (List.getLast_mem h) y (by simp)
    rw [List.length_cons, entBs_cons, readGo_next (by rw [he]) (by rw [he]; exact hT), hep, he]
    have := readGo_back R (T ++ [y]) (by simpa using hs) (fun z hz => hg z (by simp [hz]))
    simp only at this ⊢
    rw [this]
    simp
theorem readB_back {s : Nat} {T : List (List UInt8 × EP)} (hs : s ≤ 1099511627776) (h : BookOk T) : readB (bookB s T) = (s, T, 0) := by
  have hl := h.len
  unfold readB bookB
  rw [read_numB _ (by omega) hs]
  dsimp only
  rw [int_numB _ (by omega) (by omega)]
  dsimp only
  rw [readGo_back T [] (by simpa using h.sort) h.good]
  rfl
theorem bookB_len {s : Nat} {T : List (List UInt8 × EP)} (h : BookOk T) : (bookB s T).length ≤ 1100000 := by
  have hl := h.len
  have h1 := numB_len s
  have h2 := numB_len T.length
  have h3 : ∀ R : List (List UInt8 × EP), (∀ y ∈ R, checkP y.1 y.2 = 0) → (entBs R).length ≤ 4228 * R.length := by
    intro R hR
    induction R with
    | nil => simp [entBs]
    | cons y R ih =>
      have h4 := entB_len y.1 y.2.2.2 y.2.1 y.2.2.1
      obtain ⟨g1, _, g3⟩ := checkP_good (hR y (by simp))
      have g4 := goodB_len (userB_good g1)
      have g5 := checkN_len g3
      have g6 := ih (fun z hz => hR z (by simp [hz]))
      rw [entBs_cons, List.length_append, List.length_cons]
      omega
  have h4 := h3 T h.good
  unfold bookB
  simp only [List.length_append]
  omega
/-- what is known of each entry of a book's own row -/
theorem own_ok {w : World} {base : Nat} {A : Option Addr} {c : Nat} {M : List EV} (h : EsOwn w base A c M) (hg : ∀ x ∈ M, checkP x.pl.1 x.pl.2 = 0) : ∀ x ∈ M, x.ok w (fun b => base ≤ b) := fun x hx => by
  obtain ⟨g1, g2, g3⟩ := checkP_good (hg x hx)
  have g4 := goodB_len (userB_good g1)
  have g5 := checkN_len g3
  have g6 := isV_pos g2
  have g7 := checkN_kind g3
  have e1 : x.pl.1 = tl x.p := rfl
  rw [e1, tl_len] at g4
  have hb := h.byt x hx
  obtain ⟨A', c', he, h1, h2, h3⟩ := hb.form
  injection he with e2 _ e4
  subst e2
  subst e4
  exact ⟨⟨hb.rd.mono (fun b hb' hz => (h3 b hz).1), h1, h2⟩, by have : x.x.l.length ≤ 4096 := g5; omega, by omega, ⟨by have : 1048577 ≤ x.v := g6.1; omega, g6.2⟩, by have : 0 ≤ x.k ∧ x.k ≤ 2 := g7; omega⟩

set_option maxRecDepth 100000 in
set_option maxHeartbeats 2000000 in
theorem bookBytes_any (bb : Nat) (mo : Option Nat) (L : List (List UInt8 × EV)) (s : Nat) (w : World) (h : BookAt w bb mo L (s : Int)) (hs : s ≤ 1099511627776) :
    Calls Tryz.prog 27 #[.pointer (some ⟨bb, 0, none⟩)] w fun e w' => ∃ (A : Option Addr) (c : Nat) (l : List UInt8), e = .returned (.slice A l.length c) ∧ Hid (l = bookB s (plainB L)) ∧ OwB w' w.heap.size (.slice A l.length c) l ∧ Below w.heap.size w w' := by
  have hba : Below w.heap.size w (w.alloc (.cells #[.slice none 0 0] 128)) := (Below.refl _ _).alloc (Nat.le_refl _) _
  have HP1 := Lib.hid (Pen.new w (base := w.heap.size))
  have HB1 := Lib.hid (h.below hba)
  have hll := h.len
  have HOK := Lib.hid h.plain
  clear h
  go_enter Tryz.func27, Tryz.ntmps27
  go_wp2_with fail
  generalize w.alloc (.cells #[.slice none 0 0] 128) = w1 at *
  refine (bookSession_any bb mo L (s : Int) w1 HB1.out).mono ?_
  rintro e w2 ⟨rfl, rfl⟩
  go_wp2_with fail
  refine (bookLen_any bb mo L (s : Int) w1 HB1.out).mono ?_
  rintro e w2 ⟨rfl, rfl⟩
  have hcv := IntWalk.u64_in (L.length : Int) ⟨by omega, by omega⟩
  have hbl : Below w1.heap.size w1 (w1.alloc (.cells #[.int .u64 (s : Int), .int .u64 (L.length : Int)] 48)) := (Below.refl _ _).alloc (Nat.le_refl _) _
  have hR : Rd (w1.alloc (.cells #[.int .u64 (s : Int), .int .u64 (L.length : Int)] 48)) (fun b => w1.heap.size ≤ b) 1 (some ⟨w1.heap.size, 0, none⟩) 2 [u64v s, u64v L.length] := Rd.lit (w := w1) (t := 48) (size := 1) (n := 2) (xs := [.int .u64 (s : Int), .int .u64 (L.length : Int)]) rfl rfl rfl
  have hp1l := HP1.out.blk.lt
  have hNM := Num_any w.heap.size w.heap.size (.slice none 0 0) [] (some ⟨w1.heap.size, 0, none⟩) 2 [s, L.length] _ _ (HP1.out.below hbl) hR (fun b _ hz e => by
    have hz' : w1.heap.size ≤ b := hz
    rcases e with e | e
    · omega
    · simp [Value.ownBlock] at e) (fun n hn => by
    simp only [List.mem_cons, List.not_mem_nil, or_false] at hn
    rcases hn with rfl | rfl <;> omega) (by simp; omega) (by simp)
  rw [List.nil_append, show ([s, L.length] : List Nat).flatMap numB = numB s ++ numB L.length by simp] at hNM
  have HNM := Lib.hid hNM
  have hw2 := hba.trans (hbl.mono hba.size)
  have HB2 := Lib.hid (HB1.out.below hbl)
  clear hNM hR
  go_wp2_with fail
  refine HNM.out.mono ?_
  rintro e w3 ⟨rfl, v3, h3⟩
  have hp0 := HP1.out.below hbl
  have hw3 : Below w.heap.size w w3 := hw2.trans (hp0.low h3 (Nat.le_refl _) (Nat.le_refl _) hw2.size)
  have HB3 : Hid (BookAt w3 bb mo L (s : Int)) := Lib.hid (HB2.out.fr h3.fr (fun e => by
    rcases e with e | e
    · exact HB2.out.notB hp0.blk (by decide) (.inl e.symm)
    · simp [Value.ownBlock] at e) (fun m hm e => by
    rcases e with e | e
    · exact HB2.out.notB hp0.blk (by decide) (.inr (by rw [hm, e]))
    · simp [Value.ownBlock] at e) (fun x hx g hg e => by
    rcases e with e | e
    · subst e
      exact (hp0.blk.own_ne (HB2.out.ok x hx).own (by decide)) hg
    · simp [Value.ownBlock] at e))
  have HP3 := Lib.hid h3.pen
  have HBE := Lib.hid (bookEntries_any bb mo L (s : Int) w3 HB3.out)
  clear HNM HP1 h3 HB1 HB2 hp0 hbl
  go_wp2_with fail
  refine HBE.out.mono ?_
  rintro e w4 ⟨A4, c4, M, rfl, hM, hO, hb4⟩
  have hgd : ∀ x ∈ M, checkP x.pl.1 x.pl.2 = 0 := fun x hx => HOK.out.good x.pl (by rw [← hM.out]; exact List.mem_map.2 ⟨x, hx, rfl⟩)
  have hMl : M.length = L.length := by
    have := congrArg List.length hM.out
    rwa [List.length_map, plainB_len] at this
  have hwd := wideE_good M hgd
  have hp4 := HP3.out.below hb4
  have hpl3 := HP3.out.blk.lt
  have hol3 := HP3.out.own.lt
  have n1 := numB_len s
  have n2 := numB_len L.length
  have hEW := entryWrite_any w.heap.size w.heap.size v3 (numB s ++ numB L.length) A4 c4 M (fun b => w3.heap.size ≤ b) w4 hp4 ((Rd.of_own hO.row (fun b hb _ => (hO.row.lt b (by rcases A4 with _ | a <;> simp [ablk, Value.ownBlock] at hb ⊢; exact hb)).1))) (own_ok hO hgd) (fun b _ hz e => by
    have hz' : w3.heap.size ≤ b := hz
    rcases e with e | e
    · omega
    · have := (hol3 b e).2; omega) (by have := hw3.size; have := hb4.size; omega) (by rw [List.length_append]; omega)
  rw [entBs_pl, hM.out] at hEW
  have HEW := Lib.hid hEW
  have hw4 := hw3.trans (hb4.mono hw3.size)
  clear HBE hM hO hEW HB3 hgd hMl hwd
  go_wp2_with fail
  refine HEW.out.mono ?_
  rintro e w5 ⟨rfl, v5, h5⟩
  have hw5 : Below w.heap.size w w5 := hw4.trans (hp4.low h5 (Nat.le_refl _) (Nat.le_refl _) hw4.size)
  have hbl5 := bookB_len (s := s) HOK.out
  have hbe : (numB s ++ numB L.length) ++ entBs (plainB L) = bookB s (plainB L) := by unfold bookB; rw [plainB_len, List.append_assoc]
  have hp5 := h5.pen
  rw [hbe] at hp5
  have HBY := Lib.hid (Bytes_any w.heap.size w.heap.size v5 _ w5 hp5 (by omega))
  clear HEW h5 hp4 hbe hp5
  go_wp2_with fail
  refine HBY.out.mono ?_
  rintro e w6 ⟨A6, c6, l6, rfl, hl6, ho6, hb6⟩
  go_wp2_with fail
  go_ret
  exact ⟨A6, c6, l6, rfl, hl6.out, own_base ho6 (fun g hg => Nat.le_trans hw5.size (ho6.lt g hg).1), hw5.trans (hb6.mono hw5.size)⟩

end Go.Proofs.YtdnljmncdbcgeaaGreat

/- tenderref22: Bytes. -/
namespace Go.Proofs.YtdnljmncdbcgeaaGreat
open Go.RowKit Go.Maps

theorem entBs_snoc (M : List EV) (i : Nat) (hi : i < M.length) : entBs ((M.take (i + 1)).map EV.pl) = entBs ((M.take i).map EV.pl) ++ entB M[i].pl.1 M[i].pl.2.2.2 M[i].pl.2.1 M[i].pl.2.2.1 := by
  rw [List.take_succ_eq_append_getElem hi, List.map_append]
  unfold entBs
  rw [List.flatMap_append]
  simp
theorem entBs_small (M : List EV) (hg : ∀ x ∈ M, checkP x.pl.1 x.pl.2 = 0) : (entBs (M.map EV.pl)).length ≤ 4228 * M.length := by
  rw [← entBs_pl]
  exact Nat.le_trans (wideE_all M) (wideE_good M hg)

set_option maxRecDepth 100000 in
set_option maxHeartbeats 2000000 in
theorem refBytes22_any (A : Option Addr) (c : Nat) (M : List EV) (s : Nat) (w : World) (h : EsR w A M) (hg : ∀ x ∈ M, checkP x.pl.1 x.pl.2 = 0) (hl : M.length ≤ 256) (hs : s ≤ 1099511627776) :
    Calls Tryz.prog 31 #[.agg #[.int .u64 (s : Int), .slice A M.length c]] w fun e w' => ∃ (A' : Option Addr) (c' : Nat) (l : List UInt8), e = .returned (.slice A' l.length c') ∧ Hid (l = bookB s (M.map EV.pl)) ∧ OwB w' w.heap.size (.slice A' l.length c') l ∧ Below w.heap.size w w' := by
  have hba : Below w.heap.size w (w.alloc (.cells #[.int .u64 (s : Int), .slice A M.length c] 50)) := (Below.refl _ _).alloc (Nat.le_refl _) _
  have x1 := Blk.new w 50 #[.int .u64 (s : Int), .slice A M.length c]
  have HE := Lib.hid (h.below hba)
  have HG := Lib.hid hg
  clear h hg
  go_enter Tryz.func31, Tryz.ntmps31
  go_wp2_with fail
  generalize w.alloc (.cells #[.int .u64 (s : Int), .slice A M.length c] 50) = w1 at *
  have HBX : Hid (∀ W, Below w1.heap.size w1 W → W.cell? ⟨w.heap.size, 0, none⟩ = some (.int .u64 (s : Int)) ∧ W.cell? ⟨w.heap.size, 1, none⟩ = some (.slice A M.length c)) := Lib.hid (fun W hW => ⟨(x1.below hW).cell 0, (x1.below hW).cell 1⟩)
  obtain ⟨p0, p1⟩ := HBX.out w1 (Below.refl _ _)
  clear x1
  refine (refNum_any s w1 (by omega)).mono ?_
  rintro e w2 ⟨v2, rfl, ho2, hb2⟩
  obtain ⟨A2, c2, rfl, _, _, _⟩ := ho2.form
  obtain ⟨q0, q1⟩ := HBX.out w2 hb2
  have hcv := IntWalk.u64_in (M.length : Int) ⟨by omega, by omega⟩
  clear p0 p1
  go_wp2_with fail
  refine (refNum_any M.length w2 (by omega)).mono ?_
  rintro e w3 ⟨v3, rfl, ho3, hb3⟩
  obtain ⟨A3, c3, rfl, _, _, _⟩ := ho3.form
  have hb13 := hb2.trans (hb3.mono hb2.size)
  have HO2 := Lib.hid (ho2.below hb3)
  have n1 := numB_len s
  have n2 := numB_len M.length
  have hs13 := hb13.size
  clear q0 q1 ho2
  go_wp2_with (at_builtin; refine wpList_append_by rfl (.tmp 8) (.tmp 13) rfl (v := .slice A2 (numB s).length c2) rfl HO2.out rfl ho3.rd (by omega) hs13 ?_; intro L4 A4 c4 w4 hL4 hown4 hg4 _)
  have hb4 : Below w1.heap.size w1 w4 := hb13.trans (grown_below hg4 hs13 (fun g e => (HO2.out.lt g e).1))
  have HO4 := Lib.hid hown4
  have hL4l : L4.length ≤ 18 := by rw [hL4.out, List.length_append]; omega
  clear hb2 hb3 ho3 HO2 hg4 hown4 hb13 hs13
  go_loopw [3, 4] (fun wv iv wr => ∃ (i : Nat) (L : List UInt8) (Aw : Option Addr) (cw : Nat), i ≤ M.length ∧ iv = .int .i64 (i : Int) ∧ wv = .slice Aw L.length cw ∧ OwB wr w1.heap.size (.slice Aw L.length cw) L ∧ Hid (L = (numB s ++ numB M.length) ++ entBs ((M.take i).map EV.pl)) ∧ Below w1.heap.size w1 wr) (fun _ iv _ => M.length - (intOf iv).toNat)
  case atStart => exact ⟨0, L4, A4, c4, Nat.zero_le _, rfl, rfl, HO4.out, by show _ = _; rw [hL4.out]; simp [entBs], hb4⟩
  case round =>
    obtain ⟨i, L, Aw, cw, hi, rfl, rfl, hown, hL, hb⟩ := hrel
    obtain ⟨q0, q1⟩ := HBX.out wr hb
    have hsr := hb.size
    by_cases hlt : i < M.length
    · obtain ⟨b, off, hA, hbb, c0, c1, c2', c3'⟩ := (HE.out.below hb).at_ hlt
      have hxo := (HE.out.below hb).ok _ (List.getElem_mem hlt)
      have hxg := HG.out _ (List.getElem_mem hlt)
      have hsn := entBs_snoc M i hlt
      have hLl : L.length ≤ 1100000 := by
        have h1 := entBs_small (M.take i) (fun x hx => HG.out x (List.mem_of_mem_take hx))
        have h2 : (M.take i).length ≤ 256 := by rw [List.length_take]; omega
        rw [hL.out]
        simp only [List.length_append]
        omega
      obtain ⟨x, hx⟩ : ∃ x, x = M[i] := ⟨_, rfl⟩
      rw [← hx] at c0 c1 c2' c3' hxo hxg hsn
      obtain ⟨g1, g2, g3⟩ := checkP_good hxg
      have g4 := goodB_len (userB_good g1)
      have g5 := checkN_len g3
      have g6 := isV_pos g2
      have g7 := checkN_kind g3
      clear hx
      obtain ⟨⟨⟨pl⟩⟩, u, k, xA, xc, xl⟩ := x
      replace g4 : pl.length ≤ 96 := g4
      replace g5 : xl.length ≤ 4096 := g5
      replace g6 : 1048577 ≤ u ∧ u < 18446744073709551616 := g6
      replace g7 : 0 ≤ k ∧ k ≤ 2 := g7
      replace hsn : entBs ((M.take (i + 1)).map EV.pl) = entBs ((M.take i).map EV.pl) ++ entB pl xl u k := hsn
      obtain ⟨n, rfl⟩ : ∃ n : Nat, u = (n : Int) := ⟨u.toNat, by omega⟩
      dsimp only at c0 c1 c2' c3' hxo
      have hEB := refEntryBytes_any pl n k xA xc xl _ wr hxo.1 (by omega) (by omega) (by omega) (by omega)
      have hel := entB_len pl xl (n : Int) k
      generalize entB pl xl (n : Int) k = EB at *
      have HEB := Lib.hid hEB
      have HSN := Lib.hid hsn
      subst hA
      clear hEB hsn hxg hxo g1 g2 g3
      go_wp2_with fail
      refine HEB.out.mono ?_
      rintro e w5 ⟨A5, c5, l5, rfl, hl5, ho5, hb5⟩
      have hown5 := hown.below hb5
      have hb15 := hb.trans (hb5.mono hsr)
      have hs5 := hb15.size
      have hl5l : l5.length ≤ 10000 := by rw [hl5.out]; omega
      clear HEB hown c0 c1 c2' c3'
      go_wp2_with (at_builtin; refine wpList_append_by rfl (.tmp 22) (.tmp 28) rfl (v := .slice Aw L.length cw) rfl hown5 rfl ho5.rd (by omega) hs5 ?_; intro L7 A7 c7 w7 hL7 hown7 hg7 _)
      have hb7 : Below w1.heap.size w1 w7 := hb15.trans (grown_below hg7 hs5 (fun g e => (hown5.lt g e).1))
      have HN : Hid (L7 = (numB s ++ numB M.length) ++ entBs ((M.take (i + 1)).map EV.pl)) := Lib.hid (by rw [hL7.out, hL.out, hl5.out, HSN.out, List.append_assoc])
      go_roundw
      case rel => exact ⟨i + 1, L7, A7, c7, hlt, by go_num, rfl, hown7, HN.out, hb7⟩
      case measure => simp [intOf]; omega
    · have e : i = M.length := by omega
      subst e
      have hw := hba.trans (hb.mono hba.size)
      go_wp2_with fail
      go_ret
      refine ⟨Aw, cw, L, rfl, ?_, own_base hown (fun g hg => Nat.le_trans hba.size (hown.lt g hg).1), hw⟩
      show _ = _
      rw [hL.out, List.take_length]
      unfold bookB
      rw [List.length_map, List.append_assoc]

end Go.Proofs.YtdnljmncdbcgeaaGreat

/- book: Same, what is told at nil. -/
namespace Go.Proofs.YtdnljmncdbcgeaaGreat
open Go.RowKit Go.Maps

set_option maxRecDepth 100000 in
set_option maxHeartbeats 400000 in
theorem bookEntries_nil (w : World) : Calls Tryz.prog 33 #[.pointer none] w fun e w' => e = .returned (.slice none 0 0) ∧ Below w.heap.size w w' := by
  go_enter Tryz.func33, Tryz.ntmps33
  go_wp2_with fail
  refine (bookPaths_nil w).mono ?_
  rintro e w1 ⟨rfl, rfl⟩
  go_wp2_with fail
  go_loopw [2, 8] (fun ov iv wr => ov = .slice none 0 0 ∧ iv = .int .i64 0 ∧ wr = w) (fun _ _ _ => 0)
  case atStart => exact ⟨rfl, rfl, rfl⟩
  case round =>
    obtain ⟨rfl, rfl, rfl⟩ := hrel
    go_wp2_with fail
    go_ret
    exact ⟨rfl, Below.refl _ _⟩
set_option maxRecDepth 100000 in
set_option maxHeartbeats 400000 in
theorem bookPut_nil (w : World) : Calls Tryz.prog 26 #[.pointer none, .agg #[.string ⟨#[]⟩, .int .u64 0, .int .i64 0, .slice none 0 0]] w fun e w' => e = .returned (.int .i64 1) ∧ Below w.heap.size w w' := by
  go_enter Tryz.func26, Tryz.ntmps26
  go_wp2_with fail
  go_ret
  exact ⟨rfl, (by repeat (first | exact Below.refl _ _ | refine Below.alloc ?_ (by simp) _ | refine Below.setCell ?_ (by simp) _ | refine Below.drew ?_))⟩

set_option maxRecDepth 100000 in
set_option maxHeartbeats 1000000 in
theorem equalE_any (A B : Option Addr) (c d : Nat) (L M : List EV) (w : World) (h : EsR w A L) (h' : EsR w B M) :
    Calls Tryz.prog 77 #[.slice A L.length c, .slice B M.length d, .func (.func 78) #[] #[]] w fun e w' => e = .returned (.bool (decide (L.map EV.pl = M.map EV.pl))) ∧ Below w.heap.size w w' := by
  obtain ⟨R, hR⟩ : ∃ R, R = decide (L.map EV.pl = M.map EV.pl) := ⟨_, rfl⟩
  rw [← hR]
  have HR := Lib.hid hR
  have HL := Lib.hid h
  have HM := Lib.hid h'
  have hlen := h.len
  clear h h' hR
  by_cases hn : L.length = M.length
  · have HN := Lib.hid hn
    have hne : ((L.length : Int) != (M.length : Int)) = false := by simp; omega
    clear hn
    have hlm := HM.out.len
    go_enter Tryz.func77, Tryz.ntmps77
    go_wp2_with fail
    go_loopw [7, 17] (fun _ iv wr => ∃ i : Nat, i ≤ L.length ∧ iv = .int .i64 (i : Int) ∧ Hid ((L.take i).map EV.pl = (M.take i).map EV.pl) ∧ Below w.heap.size w wr) (fun _ iv _ => L.length - (intOf iv).toNat)
    case atStart => exact ⟨0, Nat.zero_le _, rfl, rfl, Below.refl _ _⟩
    case round =>
      obtain ⟨i, hi, rfl, hz, hb⟩ := hrel
      by_cases hlt : i < L.length
      · have hltm : i < M.length := by have := HN.out; omega
        obtain ⟨b, off, hA, hb1, c0, c1, c2, c3⟩ := (HL.out.below hb).at_ hlt
        obtain ⟨b2, off2, hB, hb2, d0, d1, d2, d3⟩ := (HM.out.below hb).at_ hltm
        subst hA
        subst hB
        have hx2 := Lib.hid ((HL.out.below hb).ok _ (List.getElem_mem hlt))
        have hy2 := Lib.hid ((HM.out.below hb).ok _ (List.getElem_mem hltm))
        have hs1 := Lib.hid (pl_snoc L i hlt)
        have hs2 := Lib.hid (pl_snoc M i hltm)
        have hg1 := Lib.hid (pl_get L i hlt)
        have hg2 := Lib.hid (pl_get M i hltm)
        generalize L[i] = x at *
        generalize M[i] = y at *
        obtain ⟨sm, hsm⟩ : ∃ sm, sm = decide (x.pl = y.pl) := ⟨_, rfl⟩
        have hba : Below wr.heap.size wr (wr.alloc (.cells #[.string x.p, .int .u64 x.v, .int .i64 x.k, .slice x.x.A x.x.l.length x.x.c] 59)) := (Below.refl _ _).alloc (Nat.le_refl _) _
        have hbb : Below wr.heap.size wr ((wr.alloc (.cells #[.string x.p, .int .u64 x.v, .int .i64 x.k, .slice x.x.A x.x.l.length x.x.c] 59)).alloc (.cells #[.string y.p, .int .u64 y.v, .int .i64 y.k, .slice y.x.A y.x.l.length y.x.c] 59)) := hba.alloc hba.size _
        have x1 := (Blk.new wr 59 #[.string x.p, .int .u64 x.v, .int .i64 x.k, .slice x.x.A x.x.l.length x.x.c]).below ((Below.refl _ _).alloc (Nat.le_refl _) (.cells #[.string y.p, .int .u64 y.v, .int .i64 y.k, .slice y.x.A y.x.l.length y.x.c] 59))
        have y1 := Blk.new (wr.alloc (.cells #[.string x.p, .int .u64 x.v, .int .i64 x.k, .slice x.x.A x.x.l.length x.x.c] 59)) 59 #[.string y.p, .int .u64 y.v, .int .i64 y.k, .slice y.x.A y.x.l.length y.x.c]
        rw [show (wr.alloc (.cells #[.string x.p, .int .u64 x.v, .int .i64 x.k, .slice x.x.A x.x.l.length x.x.c] 59)).heap.size = wr.heap.size + 1 by simp] at y1
        replace d0 := (hba.cell hb2).trans d0
        replace d1 := (hba.cell hb2).trans d1
        replace d2 := (hba.cell hb2).trans d2
        replace d3 := (hba.cell hb2).trans d3
        have HC : Hid (∀ W, Below wr.heap.size wr W → Calls Tryz.prog 78 #[.agg #[.string x.p, .int .u64 x.v, .int .i64 x.k, .slice x.x.A x.x.l.length x.x.c], .agg #[.string y.p, .int .u64 y.v, .int .i64 y.k, .slice y.x.A y.x.l.length y.x.c]] W fun e w' => e = .returned (.bool sm) ∧ Below W.heap.size W w') := Lib.hid (fun W hW => by
          rw [hsm, ← sameE_pl]
          exact entrySame_any _ _ _ _ _ _ _ _ _ _ _ _ _ _ W (hx2.out.below hW).1 (hy2.out.below hW).1)
        have HSM := Lib.hid hsm
        have HC2 := Lib.hid (HC.out _ hbb)
        clear hsm
        go_upto_region 7 with (fail)
        generalize ((wr.alloc (.cells #[.string x.p, .int .u64 x.v, .int .i64 x.k, .slice x.x.A x.x.l.length x.x.c] 59)).alloc (.cells #[.string y.p, .int .u64 y.v, .int .i64 y.k, .slice y.x.A y.x.l.length y.x.c] 59)) = w2 at *
        clear hba c0 c1 c2 c3 d0 d1 d2 d3
        have hw2 := hb.trans (hbb.mono hb.size)
        have q0 := x1.cell 0
        have q1 := x1.cell 1
        have q2 := x1.cell 2
        have q3 := x1.cell 3
        simp only [List.getElem?_toArray, List.getElem?_cons_zero, List.getElem?_cons_succ] at q0 q1 q2 q3
        have r0 := y1.cell 0
        have r1 := y1.cell 1
        have r2 := y1.cell 2
        have r3 := y1.cell 3
        simp only [List.getElem?_toArray, List.getElem?_cons_zero, List.getElem?_cons_succ] at r0 r1 r2 r3
        cases sm
        · obtain rfl : R = false := by
            rw [HR.out, decide_eq_false_iff_not]
            intro e
            have e2 := hg1.out
            rw [e, hg2.out] at e2
            injection e2 with e2
            have := HSM.out
            rw [e2] at this
            simp at this
          go_wp2_with fail
          refine HC2.out.mono ?_
          rintro e w3 ⟨rfl, hb3⟩
          have hw3 := hw2.trans (hb3.mono hw2.size)
          go_wp2_with fail
          go_ret
          exact ⟨rfl, hw3⟩
        · have HN2 : Hid ((L.take (i + 1)).map EV.pl = (M.take (i + 1)).map EV.pl) := by
            show _ = _
            have := HSM.out
            rw [eq_comm, decide_eq_true_eq] at this
            rw [hs1.out, hs2.out, hz.out, this]
          go_wp2_with fail
          refine HC2.out.mono ?_
          rintro e w3 ⟨rfl, hb3⟩
          have hw3 := hw2.trans (hb3.mono hw2.size)
          go_wp2_with fail
          go_roundw
          case rel => exact ⟨i + 1, hlt, by go_num, HN2, hw3⟩
          case measure => simp [intOf]; omega
      · have e : i = L.length := by omega
        subst e
        obtain rfl : R = true := by
          rw [HR.out, decide_eq_true_eq]
          have := hz.out
          rw [List.take_length, HN.out, List.take_length] at this
          exact this
        clear hz
        go_wp2_with fail
        go_ret
        exact ⟨rfl, hb⟩
  · obtain rfl : R = false := by
      rw [HR.out, decide_eq_false_iff_not]
      intro e
      have := congrArg List.length e
      rw [List.length_map, List.length_map] at this
      exact hn this
    have hne : ((L.length : Int) != (M.length : Int)) = true := by simp; omega
    go_enter Tryz.func77, Tryz.ntmps77
    go_wp2_with fail
    go_ret
    exact ⟨rfl, Below.refl _ _⟩

set_option maxRecDepth 100000 in
set_option maxHeartbeats 400000 in
theorem bookSame_any (bb : Nat) (mo : Option Nat) (L : List (List UInt8 × EV)) (s : Int) (cb : Nat) (mo' : Option Nat) (L' : List (List UInt8 × EV)) (s' : Int) (w : World) (h : BookAt w bb mo L s) (h' : BookAt w cb mo' L' s') :
    Calls Tryz.prog 34 #[.pointer (some ⟨bb, 0, none⟩), .pointer (some ⟨cb, 0, none⟩)] w fun e w' => e = .returned (.bool (decide (plainB L = plainB L'))) ∧ Below w.heap.size w w' := by
  have HE := Lib.hid (bookEntries_any bb mo L s w h)
  have HB := Lib.hid h'
  have hl1 := h.len
  have hl2 := h'.len
  clear h h'
  go_enter Tryz.func34, Tryz.ntmps34
  go_wp2_with fail
  refine HE.out.mono ?_
  rintro e w1 ⟨A1, c1, M1, rfl, hM1, hO1, hb1⟩
  have HE2 := Lib.hid (bookEntries_any cb mo' L' s' w1 (HB.out.below hb1))
  clear HE
  go_wp2_with fail
  refine HE2.out.mono ?_
  rintro e w2 ⟨A2, c2, M2, rfl, hM2, hO2, hb2⟩
  have hw2 := hb1.trans (hb2.mono hb1.size)
  have hl1' : M1.length ≤ 256 := by have := congrArg List.length hM1.out; rw [List.length_map, plainB_len] at this; omega
  have hl2' : M2.length ≤ 256 := by have := congrArg List.length hM2.out; rw [List.length_map, plainB_len] at this; omega
  have HQ := equalE_any A1 A2 c1 c2 M1 M2 w2 ((hO1.esr (by omega)).below hb2) (hO2.esr (by omega))
  rw [hM1.out, hM2.out] at HQ
  have HQ := Lib.hid HQ
  clear HE2 hM1 hM2 hO1 hO2
  go_wp2_with fail
  refine HQ.out.mono ?_
  rintro e w3 ⟨rfl, hb3⟩
  go_wp2_with fail
  go_ret
  exact ⟨rfl, hw2.trans (hb3.mono hw2.size)⟩
set_option maxRecDepth 100000 in
set_option maxHeartbeats 400000 in
theorem bookSame_plain (cb : Nat) (s' : Int) (w : World) (h' : BookAt w cb none [] s') :
    Calls Tryz.prog 34 #[.pointer none, .pointer (some ⟨cb, 0, none⟩)] w fun e w' => e = .returned (.bool true) ∧ Below w.heap.size w w' := by
  have HB := Lib.hid h'
  clear h'
  go_enter Tryz.func34, Tryz.ntmps34
  go_wp2_with fail
  refine (bookEntries_nil w).mono ?_
  rintro e w1 ⟨rfl, hb1⟩
  have HE2 := Lib.hid (bookEntries_any cb none [] s' w1 (HB.out.below hb1))
  go_wp2_with fail
  refine HE2.out.mono ?_
  rintro e w2 ⟨A2, c2, M2, rfl, hM2, hO2, hb2⟩
  have hw2 := hb1.trans (hb2.mono hb1.size)
  obtain rfl : M2 = [] := by
    have := congrArg List.length hM2.out
    rw [List.length_map, plainB_len] at this
    exact List.eq_nil_of_length_eq_zero this
  have HQ := equalE_any none A2 0 c2 [] [] w2 ⟨Rd.nil, by simp, by simp⟩ (hO2.esr (by simp))
  rw [show decide (([] : List EV).map EV.pl = ([] : List EV).map EV.pl) = true by simp] at HQ
  have HQ := Lib.hid HQ
  clear HE2 hM2 hO2
  go_wp2_with fail
  refine HQ.out.mono ?_
  rintro e w3 ⟨rfl, hb3⟩
  go_wp2_with fail
  go_ret
  exact ⟨rfl, hw2.trans (hb3.mono hw2.size)⟩
end Go.Proofs.YtdnljmncdbcgeaaGreat

/- BookWrites is true for every input: the bytes of any book are the document's; it is read of them as it was, and so is its session; a clone goes its own way. No condition beyond the row's own. -/
namespace Go.Proofs.YtdnljmncdbcgeaaGreat
open Go.RowKit Go.Maps


set_option maxRecDepth 100000 in
set_option maxHeartbeats 4000000 in
theorem bookWrites_any (A : Option Addr) (c : Nat) (l : List EV) (n : Nat) (x : EV) (w : World) (h : Ents w (fun b => b < w.heap.size) A l) (hx : x.ok w (fun b => b < w.heap.size)) (hn : n < 256) :
    Calls Tryz.prog 5 #[.slice A l.length c, .int .u8 (n : Int), .agg #[.string x.p, .int .u64 x.v, .int .i64 x.k, .slice x.x.A x.x.l.length x.x.c]] w fun e w' => e = .returned (.bool true) ∧ Below w.heap.size w w' := by
  have hw0 : Below w.heap.size w (w.alloc (.cells #[.string x.p, .int .u64 x.v, .int .i64 x.k, .slice x.x.A x.x.l.length x.x.c] 59)) := (by repeat (first | exact Below.refl _ _ | refine Below.alloc ?_ (by simp) _ | refine Below.setCell ?_ (by simp) _ | refine Below.drew ?_))
  have x0 := Blk.new w 59 #[.string x.p, .int .u64 x.v, .int .i64 x.k, .slice x.x.A x.x.l.length x.x.c]
  have HA := Lib.hid (h.below hw0)
  have HXO := Lib.hid ((hx.below hw0).mono (Z' := fun b => b < w.heap.size) (fun b _ hz => hz))
  have hll := h.len
  clear h hx
  rcases hli : lightE l with _ | _
  · have HL := Lib.hid (lightE_any A c l _ _ HA.out)
    rw [hli] at HL
    go_enter Tryz.func5, Tryz.ntmps5
    go_wp2_with fail
    refine HL.out.mono ?_
    rintro e w1 ⟨rfl, hb1⟩
    have hw1 := hw0.trans (hb1.mono hw0.size)
    clear x0 HA HXO HL hb1
    go_wp2_with fail
    refine (lives22_any _).mono ?_
    rintro e w9 ⟨rfl, hb9⟩
    go_wp2_with fail
    go_ret
    exact ⟨rfl, hw1.trans (hb9.mono hw1.size)⟩
  · have HL := Lib.hid (lightE_any A c l _ _ HA.out)
    rw [hli] at HL
    have hla := lightE_all hli
    go_enter Tryz.func5, Tryz.ntmps5
    go_wp2_with fail
    refine HL.out.mono ?_
    rintro e w1 ⟨rfl, hb1⟩
    have hw1 := hw0.trans (hb1.mono hw0.size)
    have x1 := x0.below hb1
    have HA1 := Lib.hid (HA.out.below hb1)
    have HX1 := Lib.hid ((HXO.out.below hb1).mono (Z' := fun b => b < w1.heap.size) (fun b _ hz => Nat.lt_of_lt_of_le hz hw1.size))
    have HL1 := Lib.hid (lightE_any _ 1 [x] _ _ (ent_one HX1.out))
    have hba : Below w1.heap.size w1 (w1.alloc (.cells #[.string x.p, .int .u64 x.v, .int .i64 x.k, .slice x.x.A x.x.l.length x.x.c] 59)) := (Below.refl _ _).alloc (Nat.le_refl _) _
    have hw1a := hw1.trans (hba.mono hw1.size)
    have x1a := x1.below hba
    have HA1a := Lib.hid (HA1.out.below hba)
    have HX1a := Lib.hid (HX1.out.below hba)
    have q0 := x1.cell 0
    have q1 := x1.cell 1
    have q2 := x1.cell 2
    have q3 := x1.cell 3
    simp only [List.getElem?_toArray, List.getElem?_cons_zero, List.getElem?_cons_succ] at q0 q1 q2 q3
    clear x0 HA HXO HL hb1 hba
    rcases hlx : lightE [x] with _ | _
    · rw [hlx] at HL1
      go_wp2_with fail
      refine HL1.out.mono ?_
      rintro e w2 ⟨rfl, hb2⟩
      have hw2 := hw1a.trans (hb2.mono hw1a.size)
      clear q0 q1 q2 q3 x1 x1a HA1 HX1 HA1a HX1a HL1
      go_wp2_with fail
      refine (lives22_any _).mono ?_
      rintro e w9 ⟨rfl, hb9⟩
      go_wp2_with fail
      go_ret
      exact ⟨rfl, hw2.trans (hb9.mono hw2.size)⟩
    · rw [hlx] at HL1
      obtain ⟨hxp, hxd⟩ := (lightE_all hlx).2 x (by simp)
      go_wp2_with fail
      refine HL1.out.mono ?_
      rintro e w2 ⟨rfl, hb2⟩
      have hw2 := hw1a.trans (hb2.mono hw1a.size)
      have x2 := x1a.below hb2
      have HA2 := Lib.hid (HA1a.out.below hb2)
      have HX2 := Lib.hid (HX1a.out.below hb2)
      have HPL := Lib.hid (plays22_any A c l _ w2 HA2.out hla)
      have h12 : w1.heap.size ≤ w2.heap.size := by have := hb2.size; simp at this; omega
      clear q0 q1 q2 q3 x1 x1a HA1 HX1 HA1a HX1a HL1 hb2
      go_wp2_with fail
      refine HPL.out.mono ?_
      rintro e w3 ⟨bb, mo, L, B, d, M, rfl, hP, hbb, hmo, hb3⟩
      have hb23 := hb3.size
      have hw3 := hw2.trans (hb3.mono hw2.size)
      have x3 := x2.below hb3
      have HX3 := Lib.hid (HX2.out.below hb3)
      have hba : Below w3.heap.size w3 (w3.alloc (.cells #[.int .u64 0, .slice B M.length d] 50)) := (Below.refl _ _).alloc (Nat.le_refl _) _
      have y4 := Blk.new w3 50 #[.int .u64 0, .slice B M.length d]
      have x4 := x3.below hba
      have hx3l := x3.lt
      have hw4 := hw3.trans (hba.mono hw3.size)
      have HX4 := Lib.hid (HX3.out.below hba)
      have HP4 := Lib.hid (hP.below hba)
      clear HPL hP hb3 x2 x3 HX2 HX3 HA2
      obtain ⟨yb, hyb⟩ : ∃ yb, yb = w3.heap.size := ⟨_, rfl⟩
      go_upto_region 4 with (fail)
      generalize w3.alloc (.cells #[.int .u64 0, .slice B M.length d] 50) = w4 at *
      rw [← hyb] at y4 ⊢
      have hybw : w.heap.size ≤ yb := by have := hw3.size; omega
      have hbbw : w.heap.size ≤ bb := by have := hw2.size; omega
      have hxy : w.heap.size ≠ yb := by omega
      have h3 := hw3.size
      have hyw1 : w1.heap.size ≤ yb := by have := hb23; omega
      generalize hT : playB [] (l.map EV.pl) = T at *
      have HMP := Lib.hid HP4.out.same.out
      have HPLN := Lib.hid HP4.out.plain.out
      have HOK := Lib.hid HP4.out.ok
      have hMl : M.length ≤ 256 := by
        have := congrArg List.length HMP.out
        rw [List.length_map] at this
        have := HOK.out.len
        omega
      have HMG : Hid (∀ y ∈ M, checkP y.pl.1 y.pl.2 = 0) := Lib.hid (fun y hy => HOK.out.good y.pl (by rw [← HMP.out]; exact List.mem_map.2 ⟨y, hy, rfl⟩))
      clear hba hT hyb hla
      go_wp2_with fail
      go_loopw [33] (fun iv wr => ∃ i : Nat, i ≤ n ∧ iv = .int .u8 (i : Int) ∧ BookAt wr bb mo L (i : Int) ∧ Fr (fun z => z = bb) w4 wr) (fun iv _ => n - (intOf iv).toNat)
      case atStart => exact ⟨0, Nat.zero_le _, rfl, HP4.out.book, Fr.refl _ _⟩
      case round =>
        obtain ⟨i, hi, rfl, hB, hf⟩ := hrel
        have HNX := bookNext_any bb mo L (i : Int) wr hB (by omega)
        rw [if_neg (by omega), if_neg (by omega)] at HNX
        replace HNX := Lib.hid HNX
        by_cases hlt : i < n
        · have hiw := IntWalk.u8_in ((i : Int) + 1) ⟨by omega, by omega⟩
          have hid : decide ((i : Int) < (n : Int)) = true := decide_eq_true (by omega)
          go_wp2_with fail
          refine HNX.out.mono ?_
          rintro e w5 ⟨rfl, hB5, hf5⟩
          have hff := hf.trans hf5 (fun _ _ h => h)
          go_wp2_with fail
          go_roundw
          case rel => exact ⟨i + 1, hlt, by go_num, hB5, hff⟩
          case measure => simp [intOf]; omega
        · have e : i = n := by omega
          subst e
          clear HNX
          obtain ⟨w5, hw5e⟩ : ∃ w5, w5 = wr := ⟨_, rfl⟩
          rw [← hw5e] at hB hf
          have ff : Fr (fun g => g = bb ∨ mo = some g) w4 w5 := ⟨hf.os, hf.tape, hf.output, hf.size, fun b hb hs => hf.block b hb (fun e => hs (.inl e))⟩
          have hE5 := HP4.out.es.bookTo HP4.out.book ff
          have n4 := HP4.out.book.notB y4 (by decide)
          have m4 := HP4.out.book.notB x4 (by decide)
          have y5 := y4.fr ff n4
          have x5 := x4.fr ff m4
          have HX5 := Lib.hid (HX4.out.x.1.fr ff (fun b _ hz hs => by
            have hz' : b < w1.heap.size := hz
            rcases hs with hs | hs
            · omega
            · have := hmo _ hs; omega))
          have hw5 : Below w.heap.size w w5 := hw4.trans (hf.below (B := w.heap.size) hw4.size (fun k hk e => by omega))
          have kS : Fr (fun z => z = yb) w5 (w5.setCell ⟨yb, 0, none⟩ (.int .u64 (i : Int))) := (Fr.refl (fun z => z = yb) w5).setAt yb _ rfl _
          have y6 := y5.set_ 0 (.int .u64 (i : Int))
          simp only [List.setIfInBounds_toArray, List.set_cons_zero, List.set_cons_succ] at y6
          have hB6 := hB.fr_blk y5 (by decide) (by decide) kS
          have hE6 := hE5.notBook y5 (by simp) (by simp) kS
          have x6 := x5.fr kS hxy
          have HX6 := Lib.hid (HX5.out.fr kS (fun b _ hz hs => by have hz' : b < w1.heap.size := hz; omega))
          have hw6 := hw5.trans (kS.below (B := w.heap.size) hw5.size (fun k hk e => by omega))
          have HCL := Lib.hid (bookClone_any bb mo L (i : Int) _ hB6)
          have HB6 := Lib.hid hB6
          have HE6 := Lib.hid hE6
          have HX6' := HX6
          have hvx := HX4.out.v
          have hcv := IntWalk.u64_in (i : Int) ⟨by omega, by omega⟩
          have hid : decide ((i : Int) < (i : Int)) = false := decide_eq_false (by omega)
          have fr5 := fun o => y5.frozen o
          have p0 := y5.cell 0
          have p1 := y5.cell 1
          simp only [List.getElem?_toArray, List.getElem?_cons_zero, List.getElem?_cons_succ] at p0 p1
          subst hw5e
          clear hB hf ff hE5 n4 m4 x5 HX5 hB6 hE6 HP4 y4 x4 HX4
          go_upto_region 12 with (fail)
          generalize w5.setCell ⟨yb, 0, none⟩ (.int .u64 (i : Int)) = w6 at *
          clear fr5 p0 p1 y5 kS
          go_wp2_with fail
          refine HCL.out.mono ?_
          rintro e w7 ⟨cb, mo', rfl, hC7, hcb, hmo', hb7⟩
          have x7 := x6.below hb7
          have HX7 := Lib.hid ((HX6.out.below hb7).mono (Z' := fun _ => True) (fun _ _ _ => trivial))
          have HPT := Lib.hid (bookPut_any cb mo' L (i : Int) (tl x.p) x.v x.k x.x.A x.x.c x.x.l _ w7 hC7 HX7.out (by rw [tl_len]; omega) hvx (by omega))
          have q0 := x7.cell 0
          have q1 := x7.cell 1
          have q2 := x7.cell 2
          have q3 := x7.cell 3
          simp only [List.getElem?_toArray, List.getElem?_cons_zero, List.getElem?_cons_succ] at q0 q1 q2 q3
          clear HCL hC7 x6
          go_wp2_with fail
          refine HPT.out.mono ?_
          rintro e w8 ⟨rfl, hto⟩
          obtain ⟨⟨mo8, L8, hC8, _, hmo8⟩, hfr8⟩ := hto
          have hb68 : Below w6.heap.size w6 w8 := hb7.trans (hfr8.below (B := w6.heap.size) hb7.size (fun k hk e => by
            rcases e with e | e
            · omega
            · have := (hmo' _ e).1; omega))
          have HNX := bookNext_any cb mo8 L8 (i : Int) w8 hC8 (by omega)
          rw [if_neg (by omega), if_neg (by omega)] at HNX
          replace HNX := Lib.hid HNX
          clear HPT q0 q1 q2 q3 x7 HX7 hC8 hfr8 hb7
          go_wp2_with fail
          refine HNX.out.mono ?_
          rintro e w9 ⟨rfl, _, hfr9⟩
          have hb69 : Below w6.heap.size w6 w9 := hb68.trans (hfr9.below (B := w6.heap.size) hb68.size (fun k hk e => by omega))
          have HBY := Lib.hid (bookBytes_any bb mo L i w9 (HB6.out.below hb69) (by omega))
          clear HNX hfr9 hb68
          go_wp2_with fail
          refine HBY.out.mono ?_
          rintro e w10 ⟨A10, c10, l10, rfl, hl10, ho10, hb10⟩
          have hb610 := hb69.trans (hb10.mono hb69.size)
          have HL10 : Hid (l10 = bookB i T) := Lib.hid (by rw [hl10.out, HPLN.out])
          have hbl := bookB_len (s := i) HOK.out
          rw [← HL10.out] at hbl
          have hRD := fun h1 h2 => bookRead_any A10 c10 l10 w10 (ho10.rd.mono (fun b hb _ => hb)) h1 h2 (by omega)
          unfold BookRd at hRD
          rw [show readB l10 = (i, T, 0) by rw [HL10.out]; exact readB_back (by omega) HOK.out] at hRD
          have hfo := ho10.form
          replace hRD := hRD (by obtain ⟨_, _, he, h1, _⟩ := hfo; injection he with _ _ e3; omega) (by obtain ⟨_, _, he, _, h2, _⟩ := hfo; injection he with _ _ e3; omega)
          have HRD := Lib.hid hRD
          have HO10 := Lib.hid ho10
          have y10 := y6.below hb610
          clear HBY hl10 ho10 hRD hfo hbl y6
          go_wp2_with fail
          refine HRD.out.mono ?_
          rintro e w11 ⟨hrd, hb11⟩
          rcases hrd with ⟨_, rb, mr, LR, rfl, hR11, hLR, _, _⟩ | ⟨hbad, _⟩
          · have hb611 := hb610.trans (hb11.mono hb610.size)
            have hw11 := hw6.trans (hb611.mono hw6.size)
            have HR11 := Lib.hid hR11
            have HLR := Lib.hid hLR.out
            have HO11 := Lib.hid (HO10.out.below hb11)
            have HB11 := Lib.hid (HB6.out.below hb611)
            have HE11 := Lib.hid (HE6.out.below hb611)
            have y11 := y10.below hb11
            have HSS := Lib.hid (fun W (hW : Below w11.heap.size w11 W) => bookSame_any rb mr LR (i : Int) bb mo L (i : Int) W (HR11.out.below hW) (HB11.out.below hW))
            rw [HLR.out, HPLN.out, show ∀ (z : List (List UInt8 × EP)), decide (z = z) = true from fun z => by simp] at HSS
            clear HRD hR11 hLR HO10 HB6 HE6 HX6 HX6' y10 hb11
            go_upto_region 17 with (fail)
            refine wp_region_p [(0, true), (2, true), (3, true), (1, false), (4, true), (5, true), (6, true), (7, true), (8, false), (9, false), (10, true), (11, true), (12, true), (13, true), (14, true), (15, true), (16, true), (17, true), (18, true), (19, true), (20, true), (22, true), (23, true), (21, false), (24, false), (25, true), (26, true), (27, true), (29, true), (30, true), (28, false), (31, true), (32, true), (33, true), (34, true), (35, true), (36, false), (37, true), (38, true), (39, false), (40, true)] (fun W => Below w11.heap.size w11 W) (by kernel_rfl) (by kernel_rfl) ?_
            simp only [List.map_cons, List.map_nil, List.filterMap_cons, List.filterMap_nil, List.getElem?_cons_zero, List.getElem?_cons_succ, List.length_cons, List.length_nil, Nat.zero_add, Nat.reduceAdd, List.drop_succ_cons, List.drop_zero]
            refine mx_move _ (by kernel_rfl) rfl ⟨_, (by ((try simp [go_sem]); (try rfl); done)), _, (by (simp only [Act.put, List.setIfInBounds_toArray, List.set_cons_zero, List.set_cons_succ]; rfl)), ?_⟩
            refine mx_move _ (by kernel_rfl) rfl ⟨_, (by ((try simp [go_sem]); (try rfl); done)), _, (by (simp only [Act.put, List.setIfInBounds_toArray, List.set_cons_zero, List.set_cons_succ]; rfl)), ?_⟩
            refine mx_val (by kernel_rfl) ⟨_, (by (intro w' hC; clear hC; (try go_simp); (try with_reducible rfl); done)), _, (by (simp only [Act.put, List.setIfInBounds_toArray, List.set_cons_zero, List.set_cons_succ]; rfl)), ?_⟩
            refine mx_call ((Below.refl _ _).drew) (by kernel_rfl) ?_ (bookSession_any bb mo L (i : Int) w11.drew (HB11.out.below (Below.refl _ _).drew)) ?_
            · (go_simp; done)
            rintro e wa ⟨rfl, rfl⟩
            refine ⟨_, rfl, _, (by (simp only [Act.put, List.setIfInBounds_toArray, List.set_cons_zero, List.set_cons_succ]; rfl)), ?_⟩
            refine mx_val (by kernel_rfl) ⟨_, (by (intro w' hC; clear hC; (try go_simp); (try with_reducible rfl); done)), _, (by (simp only [Act.put, List.setIfInBounds_toArray, List.set_cons_zero, List.set_cons_succ]; rfl)), ?_⟩
            refine mx_move _ (by kernel_rfl) rfl ⟨_, (by ((try simp [go_sem]); (try rfl); done)), _, (by (simp only [Act.put, List.setIfInBounds_toArray, List.set_cons_zero, List.set_cons_succ]; rfl)), ?_⟩
            refine mx_move _ (by kernel_rfl) rfl ⟨_, (by ((try simp [go_sem]); (try rfl); done)), _, (by (simp only [Act.put, List.setIfInBounds_toArray, List.set_cons_zero, List.set_cons_succ]; rfl)), ?_⟩
            refine mx_val (by kernel_rfl) ⟨_, (by (intro w' hC; (have q0 := (y11.below hC).cell 0; have q1 := (y11.below hC).cell 1; simp only [List.getElem?_toArray, List.getElem?_cons_zero, List.getElem?_cons_succ] at q0 q1); clear hC; (try go_simp); (try with_reducible rfl); done)), _, (by (simp only [Act.put, List.setIfInBounds_toArray, List.set_cons_zero, List.set_cons_succ]; rfl)), ?_⟩
            refine mx_call ((Below.refl _ _).drew) (by kernel_rfl) ?_ (refBytes22_any B d M i w11.drew (HE11.out.below (Below.refl _ _).drew) HMG.out hMl (by omega)) ?_
            · (go_simp; done)
            rintro e wb ⟨A12, c12, l12, rfl, hl12, ho12, hb12⟩
            have hcb : Below w11.heap.size w11 wb := ((Below.refl _ _).drew).trans hb12
            have HSB := Lib.hid (refSame_any A10 A12 c10 c12 l10 l12 _ _ wb ((HO11.out.below hcb).rd) ho12.rd)
            rw [show (l10 == l12) = true by rw [hl12.out, HL10.out, HMP.out]; simp] at HSB
            refine ⟨_, rfl, _, (by (simp only [Act.put, List.setIfInBounds_toArray, List.set_cons_zero, List.set_cons_succ]; rfl)), ?_⟩
            refine mx_call (hcb) (by kernel_rfl) ?_ (HSB.out) ?_
            · (go_simp; done)
            rintro e wc ⟨rfl, rfl⟩
            clear HSB hl12 ho12
            refine ⟨_, rfl, _, (by (simp only [Act.put, List.setIfInBounds_toArray, List.set_cons_zero, List.set_cons_succ]; rfl)), ?_⟩
            refine mx_val (by kernel_rfl) ⟨_, (by (intro w' hC; clear hC; (try go_simp); (try with_reducible rfl); done)), _, (by (simp only [Act.put, List.setIfInBounds_toArray, List.set_cons_zero, List.set_cons_succ]; rfl)), ?_⟩
            refine mx_move _ (by kernel_rfl) rfl ⟨_, (by ((try simp [go_sem]); (try rfl); done)), _, (by (simp only [Act.put, List.setIfInBounds_toArray, List.set_cons_zero, List.set_cons_succ]; rfl)), ?_⟩
            refine mx_move _ (by kernel_rfl) rfl ⟨_, (by ((try simp [go_sem]); (try rfl); done)), _, (by (simp only [Act.put, List.setIfInBounds_toArray, List.set_cons_zero, List.set_cons_succ]; rfl)), ?_⟩
            refine mx_val (by kernel_rfl) ⟨_, (by (intro w' hC; clear hC; (try go_simp); (try with_reducible rfl); done)), _, (by (simp only [Act.put, List.setIfInBounds_toArray, List.set_cons_zero, List.set_cons_succ]; rfl)), ?_⟩
            refine mx_val (by kernel_rfl) ⟨_, (by (intro w' hC; clear hC; (try go_simp); (try with_reducible rfl); done)), _, (by (simp only [Act.put, List.setIfInBounds_toArray, List.set_cons_zero, List.set_cons_succ]; rfl)), ?_⟩
            refine mx_move _ (by kernel_rfl) rfl ⟨_, (by ((try simp [go_sem]); (try rfl); done)), _, (by (simp only [Act.put, List.setIfInBounds_toArray, List.set_cons_zero, List.set_cons_succ]; rfl)), ?_⟩
            refine mx_move _ (by kernel_rfl) rfl ⟨_, (by ((try simp [go_sem]); (try rfl); done)), _, (by (simp only [Act.put, List.setIfInBounds_toArray, List.set_cons_zero, List.set_cons_succ]; rfl)), ?_⟩
            refine mx_val (by kernel_rfl) ⟨_, (by (intro w' hC; clear hC; (try go_simp); (try with_reducible rfl); done)), _, (by (simp only [Act.put, List.setIfInBounds_toArray, List.set_cons_zero, List.set_cons_succ]; rfl)), ?_⟩
            refine mx_val (by kernel_rfl) ⟨_, (by (intro w' hC; clear hC; (try go_simp); (try with_reducible rfl); done)), _, (by (simp only [Act.put, List.setIfInBounds_toArray, List.set_cons_zero, List.set_cons_succ]; rfl)), ?_⟩
            refine mx_move _ (by kernel_rfl) rfl ⟨_, (by ((try simp [go_sem]); (try rfl); done)), _, (by (simp only [Act.put, List.setIfInBounds_toArray, List.set_cons_zero, List.set_cons_succ]; rfl)), ?_⟩
            refine mx_move _ (by kernel_rfl) rfl ⟨_, (by ((try simp [go_sem]); (try rfl); done)), _, (by (simp only [Act.put, List.setIfInBounds_toArray, List.set_cons_zero, List.set_cons_succ]; rfl)), ?_⟩
            refine mx_val (by kernel_rfl) ⟨_, (by (intro w' hC; clear hC; (try go_simp); (try with_reducible rfl); done)), _, (by (simp only [Act.put, List.setIfInBounds_toArray, List.set_cons_zero, List.set_cons_succ]; rfl)), ?_⟩
            refine mx_val (by kernel_rfl) ⟨_, (by (intro w' hC; (have q0 := (y11.below hC).cell 0; have q1 := (y11.below hC).cell 1; simp only [List.getElem?_toArray, List.getElem?_cons_zero, List.getElem?_cons_succ] at q0 q1); clear hC; (try go_simp); (try with_reducible rfl); done)), _, (by (simp only [Act.put, List.setIfInBounds_toArray, List.set_cons_zero, List.set_cons_succ]; rfl)), ?_⟩
            refine mx_call (hcb) (by kernel_rfl) ?_ (bookEntries_any rb mr LR (i : Int) wb (HR11.out.below hcb)) ?_
            · (go_simp; done)
            rintro e wd ⟨A13, c13, M13, rfl, hM13, hO13, hb13⟩
            have hcd : Below w11.heap.size w11 wd := hcb.trans (hb13.mono hcb.size)
            have hM13l : M13.length ≤ 256 := by
              have h1 := congrArg List.length hM13.out
              rw [List.length_map, plainB_len] at h1
              have := HR11.out.len
              omega
            have HSM := Lib.hid (refSame22_any A13 B c13 d M13 M wd (hO13.esr (by omega)) (HE11.out.below hcd))
            rw [hM13.out, HLR.out, HMP.out, show ∀ (z : List (List UInt8 × EP)), decide (z = z) = true from fun z => by simp] at HSM
            clear hM13 hO13
            refine ⟨_, rfl, _, (by (simp only [Act.put, List.setIfInBounds_toArray, List.set_cons_zero, List.set_cons_succ]; rfl)), ?_⟩
            refine mx_call (hcd) (by kernel_rfl) ?_ (HSM.out) ?_
            · (go_simp; done)
            rintro e we ⟨rfl, hb14⟩
            have hce : Below w11.heap.size w11 we := hcd.trans (hb14.mono hcd.size)
            clear HSM
            refine ⟨_, rfl, _, (by (simp only [Act.put, List.setIfInBounds_toArray, List.set_cons_zero, List.set_cons_succ]; rfl)), ?_⟩
            refine mx_val (by kernel_rfl) ⟨_, (by (intro w' hC; clear hC; (try go_simp); (try with_reducible rfl); done)), _, (by (simp only [Act.put, List.setIfInBounds_toArray, List.set_cons_zero, List.set_cons_succ]; rfl)), ?_⟩
            refine mx_move _ (by kernel_rfl) rfl ⟨_, (by ((try simp [go_sem]); (try rfl); done)), _, (by (simp only [Act.put, List.setIfInBounds_toArray, List.set_cons_zero, List.set_cons_succ]; rfl)), ?_⟩
            refine mx_move _ (by kernel_rfl) rfl ⟨_, (by ((try simp [go_sem]); (try rfl); done)), _, (by (simp only [Act.put, List.setIfInBounds_toArray, List.set_cons_zero, List.set_cons_succ]; rfl)), ?_⟩
            refine mx_val (by kernel_rfl) ⟨_, (by (intro w' hC; clear hC; (try go_simp); (try with_reducible rfl); done)), _, (by (simp only [Act.put, List.setIfInBounds_toArray, List.set_cons_zero, List.set_cons_succ]; rfl)), ?_⟩
            refine mx_val (by kernel_rfl) ⟨_, (by (intro w' hC; (have q0 := (y11.below hC).cell 0; have q1 := (y11.below hC).cell 1; simp only [List.getElem?_toArray, List.getElem?_cons_zero, List.getElem?_cons_succ] at q0 q1); clear hC; (try go_simp); (try with_reducible rfl); done)), _, (by (simp only [Act.put, List.setIfInBounds_toArray, List.set_cons_zero, List.set_cons_succ]; rfl)), ?_⟩
            refine mx_call (hce) (by kernel_rfl) ?_ (bookSession_any rb mr LR (i : Int) we (HR11.out.below hce)) ?_
            · (go_simp; done)
            rintro e wf ⟨rfl, rfl⟩
            refine ⟨_, rfl, _, (by (simp only [Act.put, List.setIfInBounds_toArray, List.set_cons_zero, List.set_cons_succ]; rfl)), ?_⟩
            refine mx_val (by kernel_rfl) ⟨_, (by (intro w' hC; clear hC; (try go_simp); (try with_reducible rfl); done)), _, (by (simp only [Act.put, List.setIfInBounds_toArray, List.set_cons_zero, List.set_cons_succ]; rfl)), ?_⟩
            refine mx_val (by kernel_rfl) ⟨_, (by (intro w' hC; clear hC; (try go_simp); (try with_reducible rfl); done)), _, (by (simp only [Act.put, List.setIfInBounds_toArray, List.set_cons_zero, List.set_cons_succ]; rfl)), ?_⟩
            refine mx_move _ (by kernel_rfl) rfl ⟨_, (by ((try simp [go_sem]); (try rfl); done)), _, (by (simp only [Act.put, List.setIfInBounds_toArray, List.set_cons_zero, List.set_cons_succ]; rfl)), ?_⟩
            refine mx_move _ (by kernel_rfl) rfl ⟨_, (by ((try simp [go_sem]); (try rfl); done)), _, (by (simp only [Act.put, List.setIfInBounds_toArray, List.set_cons_zero, List.set_cons_succ]; rfl)), ?_⟩
            refine mx_move _ (by kernel_rfl) rfl ⟨_, (by ((try simp [go_sem]); (try rfl); done)), _, (by (simp only [Act.put, List.setIfInBounds_toArray, List.set_cons_zero, List.set_cons_succ]; rfl)), ?_⟩
            refine mx_call (hce) (by kernel_rfl) ?_ (HSS.out we hce) ?_
            · (go_simp; done)
            rintro e wf ⟨rfl, hb15⟩
            have hcf : Below w11.heap.size w11 wf := hce.trans (hb15.mono hce.size)
            refine ⟨_, rfl, _, (by (simp only [Act.put, List.setIfInBounds_toArray, List.set_cons_zero, List.set_cons_succ]; rfl)), ?_⟩
            refine mx_val (by kernel_rfl) ⟨_, (by (intro w' hC; clear hC; (try go_simp); (try with_reducible rfl); done)), _, (by (simp only [Act.put, List.setIfInBounds_toArray, List.set_cons_zero, List.set_cons_succ]; rfl)), ?_⟩
            refine mx_move _ (by kernel_rfl) rfl ⟨_, (by ((try simp [go_sem]); (try rfl); done)), _, (by (simp only [Act.put, List.setIfInBounds_toArray, List.set_cons_zero, List.set_cons_succ]; rfl)), ?_⟩
            refine mx_call (hcf) (by kernel_rfl) ?_ (lives22_any wf) ?_
            · (go_simp; done)
            rintro e wg ⟨rfl, hb16⟩
            have hcg : Below w11.heap.size w11 wg := hcf.trans (hb16.mono hcf.size)
            refine ⟨_, rfl, _, (by (simp only [Act.put, List.setIfInBounds_toArray, List.set_cons_zero, List.set_cons_succ]; rfl)), ?_⟩
            refine mx_val (by kernel_rfl) ⟨_, (by (intro w' hC; clear hC; (try go_simp); (try with_reducible rfl); done)), _, (by (simp only [Act.put, List.setIfInBounds_toArray, List.set_cons_zero, List.set_cons_succ]; rfl)), ?_⟩
            refine mx_end hcg ?_
            clear hcb hcd hce hcf hb12 hb13 hb14 hb15 hb16
            have hw12 := hw11.trans (hcg.mono hw11.size)
            go_wp2_with fail
            go_ret
            exact ⟨rfl, hw12⟩
          · exact absurd rfl hbad

end Go.Proofs.YtdnljmncdbcgeaaGreat

/- api.Leaf: as an argument. -/
namespace Go.Proofs.YtdnljmncdbcgeaaGreat
open Go.RowKit Go.WideShapes Go.ChangeShapes Go.ChangeAt Go.Deep Go.Joins

section
variable {H : Type} {enc : TypeId × Value → H} {w : World} {spare : Nat → Bool} {held : Bool}
/-- what is known of a leaf -/
structure LV.okAt (w : World) (Z : Nat → Prop) (o : LV) : Prop where
  x : o.x.ok w Z
  len : o.x.l.length ≤ 140737488355328
  k : -9223372036854775808 ≤ o.k ∧ o.k < 9223372036854775808
theorem list2 {α : Type} {l : List α} (h : l.length = 2) : ∃ a0 a1, l = [a0, a1] := by
  match l, h with
  | [a0, a1], _ => exact ⟨_, _, rfl⟩
set_option maxRecDepth 100000 in
theorem open_leaf {n : Nat} {cs : List Value} {x : DataW H × List MemPlace} (h : DataW.trod enc Tryz.prog w 0 spare held n 25 cs = some x) (hw : Within 25 x) :
    ∃ o : LV, cs = o.cells ∧ o.okAt w (fun b => b < w.heap.size) := by
  obtain ⟨ys, n', hcl, hyl, hf⟩ := open_st Tryz.underlying25 (by kernel_rfl) h (by kernel_rfl) hw
  obtain ⟨a0, a1, rfl⟩ := list2 hcl
  obtain ⟨y0, y1, rfl⟩ := list2 hyl
  obtain ⟨k, e, _, wk⟩ := DataW.trod_int Tryz.underlying3 (hf 0 _ _ _ rfl rfl rfl).1
  obtain rfl := List.singleton_inj.1 e
  obtain ⟨b, rfl, hb, hbl⟩ := open_bv (hf 1 _ _ _ rfl rfl rfl).1 (hf 1 _ _ _ rfl rfl rfl).2
  have bk := i64_bd wk
  exact ⟨⟨k, b⟩, rfl, hb, hbl, bk⟩
set_option maxRecDepth 100000 in
theorem open_leafv {r : Reach} {b0 : Nat} {v : Value} {d : DataW H} {p : List MemPlace} (hv : Value.okWide Tryz.prog w r b0 25 v) (h : DataW.Trod enc Tryz.prog w 0 spare held 25 v d p) (hw : Within 25 (d, p)) :
    ∃ o : LV, v = .agg #[.int .i64 o.k, .slice o.x.A o.x.l.length o.x.c] ∧ o.okAt w (fun b => b < w.heap.size) := by
  obtain ⟨cs, rfl, hsz⟩ := okWide_struct Tryz.underlying25 hv
  obtain ⟨l⟩ := cs
  obtain ⟨n, hn⟩ := h
  obtain ⟨o, e, ho⟩ := open_leaf (cs := l) hn hw
  subst e
  exact ⟨o, rfl, ho⟩
end
end Go.Proofs.YtdnljmncdbcgeaaGreat

/- api.Entry: as an argument, in slices. -/
namespace Go.Proofs.YtdnljmncdbcgeaaGreat
open Go.RowKit Go.WideShapes Go.ChangeShapes Go.ChangeAt Go.ChangeMaps Go.Deep Go.Joins

section
variable {H : Type} {enc : TypeId × Value → H} {w : World} {spare : Nat → Bool} {held : Bool}
/-- a struct of fields of any number of cells -/
theorem open_stg {t : TypeId} {fs : Array Field} {N : Nat} (hs : Tryz.prog.underlying t = some (.struct fs)) {n : Nat} {cs : List Value} {x : DataW H × List MemPlace} (h : DataW.trod enc Tryz.prog w 0 spare held n t cs = some x) (hC : Tryz.prog.cellsOf t = N) (hw : Within t x) :
    ∃ (ys : List (DataW H × List MemPlace)) (n' : Nat), cs.length = N ∧ ys.length = fs.size ∧
      ∀ (j : Nat) (f : Field) (y : DataW H × List MemPlace), fs[j]? = some f → ys[j]? = some y → DataW.trod enc Tryz.prog w 0 spare held n' f.type ((cs.drop f.offset).take (Tryz.prog.cellsOf f.type)) = some y ∧ Within f.type y := by
  obtain ⟨xs, n', _, hx, hl, hlen, hg⟩ := DataW.trod_struct hs h
  rw [hC] at hl
  refine ⟨xs, n', hl, hlen, fun j f y hj hy => ⟨by rw [hg j f hj, hy], fun k hk => hw k ?_⟩⟩
  rw [hx]
  simp only [DataW.weights, hs]
  refine DataW.weights_mem_each (j := j) (t := f.type) (d := y.1) ?_ ?_ k hk
  · rw [List.getElem?_map]
    have : fs.toList[j]? = some f := by simpa using hj
    rw [this]; rfl
  · rw [List.getElem?_map, hy]; rfl
theorem list3 {α : Type} {l : List α} (h : l.length = 3) : ∃ a0 a1 a2, l = [a0, a1, a2] := by
  match l, h with
  | [a0, a1, a2], _ => exact ⟨_, _, _, rfl⟩
theorem str_within {b : List UInt8} {p : List MemPlace} (hw : Within 9 ((DataW.lit (Lit.string b) : DataW H), p)) : b.length ≤ 140737488355328 := by
  have h1 := hw b.length (by simp [DataW.weights])
  have h2 := reachBytes_lt
  omega
set_option maxRecDepth 100000 in
theorem open_ent {n : Nat} {cs : List Value} {x : DataW H × List MemPlace} (h : DataW.trod enc Tryz.prog w 0 spare held n 59 cs = some x) (hw : Within 59 x) :
    ∃ o : EV, cs = o.cells ∧ o.ok w (fun b => b < w.heap.size) := by
  obtain ⟨ys, n', hcl, hyl, hf⟩ := open_stg (N := 4) Tryz.underlying59 h (by kernel_rfl) hw
  obtain ⟨a0, a1, a2, a3, rfl⟩ := list4 hcl
  obtain ⟨y0, y1, y2, rfl⟩ := list3 hyl
  obtain ⟨f0, w0⟩ := hf 0 _ _ rfl rfl
  obtain ⟨f1, w1⟩ := hf 1 _ _ rfl rfl
  obtain ⟨f2, w2⟩ := hf 2 _ _ rfl rfl
  have c0 : Tryz.prog.cellsOf 9 = 1 := by kernel_rfl
  have c1 : Tryz.prog.cellsOf 48 = 1 := by kernel_rfl
  have c2 : Tryz.prog.cellsOf 25 = 2 := by kernel_rfl
  replace f0 : DataW.trod enc Tryz.prog w 0 spare held n' 9 (([a0, a1, a2, a3].drop 0).take (Tryz.prog.cellsOf 9)) = some y0 := f0
  replace f1 : DataW.trod enc Tryz.prog w 0 spare held n' 48 (([a0, a1, a2, a3].drop 1).take (Tryz.prog.cellsOf 48)) = some y1 := f1
  replace f2 : DataW.trod enc Tryz.prog w 0 spare held n' 25 (([a0, a1, a2, a3].drop 2).take (Tryz.prog.cellsOf 25)) = some y2 := f2
  rw [c0] at f0
  rw [c1] at f1
  rw [c2] at f2
  obtain ⟨p, e, hx0, _⟩ := DataW.trod_string Tryz.underlying9 f0
  obtain ⟨v, e1, _, wv⟩ := DataW.trod_int Tryz.underlying48 f1
  obtain ⟨o, e2, ho⟩ := open_leaf f2 w2
  obtain rfl : a0 = .string p := by simpa using e
  obtain rfl : a1 = .int .u64 v := by simpa using e1
  obtain ⟨k, xx⟩ := o
  obtain ⟨rfl, rfl⟩ : a2 = .int .i64 k ∧ a3 = .slice xx.A xx.l.length xx.c := by simpa [LV.cells] using e2
  rw [hx0] at w0
  refine ⟨⟨p, v, k, xx⟩, rfl, ho.x, ho.len, ?_, u64_bd wv, ho.k⟩
  have h1 := str_within w0
  have h2 : p.data.toList.length = p.size := by simp
  show p.size ≤ _
  omega
set_option maxRecDepth 100000 in
theorem open_entv {r : Reach} {b0 : Nat} {v : Value} {d : DataW H} {p : List MemPlace} (hv : Value.okWide Tryz.prog w r b0 59 v) (h : DataW.Trod enc Tryz.prog w 0 spare held 59 v d p) (hw : Within 59 (d, p)) :
    ∃ o : EV, v = .agg #[.string o.p, .int .u64 o.v, .int .i64 o.k, .slice o.x.A o.x.l.length o.x.c] ∧ o.ok w (fun b => b < w.heap.size) := by
  obtain ⟨cs, rfl, hsz⟩ := okWide_struct Tryz.underlying59 hv
  obtain ⟨l⟩ := cs
  obtain ⟨n, hn⟩ := h
  obtain ⟨o, e, ho⟩ := open_ent (cs := l) hn hw
  subst e
  exact ⟨o, rfl, ho⟩
set_option maxRecDepth 100000 in
theorem open_ents {n : Nat} {v : Value} {x : DataW H × List MemPlace} (h : DataW.trod enc Tryz.prog w 0 spare held n 45 [v] = some x) (hw : Within 45 x) :
    ∃ (A : Option Addr) (c : Nat) (l : List EV), v = .slice A l.length c ∧ Ents w (fun b => b < w.heap.size) A l := by
  obtain ⟨A, c, l, rfl, _, _, h3, h4, h5⟩ := open_sl (w := w) (enc := enc) (spare := spare) (held := held) EV.cells (fun o => o.ok w (fun b => b < w.heap.size)) 4 56 (t := 45) (e := 59) Tryz.underlying45 (by kernel_rfl) (by kernel_rfl) (by omega) (fun n cs x hx hx2 => open_ent hx hx2) h hw
  refine ⟨A, c, l, rfl, h3, h4, ?_⟩
  have := reachBytes_lt
  omega
end
end Go.Proofs.YtdnljmncdbcgeaaGreat
