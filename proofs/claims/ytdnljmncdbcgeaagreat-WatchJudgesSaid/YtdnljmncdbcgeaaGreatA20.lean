/- tenderlaw22: lives, Plays. -/
import Derived.Test.YtdnljmncdbcgeaaGreatA19
import Derived.ChangeMaps5

namespace Go.Proofs.YtdnljmncdbcgeaaGreat
open Go.RowKit Go.Maps

/-- entries taken, one after the other -/
def playB (T : List (List UInt8 × EP)) (l : List (List UInt8 × EP)) : List (List UInt8 × EP) := l.foldl (fun T y => (putP T y.1 y.2).1) T
theorem playB_snoc (T l : List (List UInt8 × EP)) (y : List UInt8 × EP) : playB T (l ++ [y]) = (putP (playB T l) y.1 y.2).1 := by simp [playB, List.foldl_append]
theorem BookOk.play {T l : List (List UInt8 × EP)} (h : BookOk T) : BookOk (playB T l) := by
  induction l generalizing T with
  | nil => exact h
  | cons y l ih => exact ih (h.put y.1 y.2)
/-- a book that took entries, and the document's -/
structure PlayedB (w : World) (T : List (List UInt8 × EP)) (bb : Nat) (mo : Option Nat) (L : List (List UInt8 × EV)) (s : Int) (B : Option Addr) (M : List EV) : Prop where
  book : BookAt w bb mo L s
  plain : Hid (plainB L = T)
  es : EsR w B M
  same : Hid (M.map EV.pl = T)
theorem PlayedB.below {w w' : World} {T : List (List UInt8 × EP)} {bb : Nat} {mo : Option Nat} {L : List (List UInt8 × EV)} {s : Int} {B : Option Addr} {M : List EV} (h : PlayedB w T bb mo L s B M) (k : Below w.heap.size w w') : PlayedB w' T bb mo L s B M := ⟨h.book.below k, h.plain, h.es.below k, h.same⟩
theorem PlayedB.ok {w : World} {T : List (List UInt8 × EP)} {bb : Nat} {mo : Option Nat} {L : List (List UInt8 × EV)} {s : Int} {B : Option Addr} {M : List EV} (h : PlayedB w T bb mo L s B M) : BookOk T := by rw [← h.plain.out]; exact h.book.plain
/-- entries stay where a book is written -/
theorem EsR.notMap {w w' : World} {A : Option Addr} {M : List EV} {mb : Nat} {K : List (List UInt8 × Value)} (h : EsR w A M) (hm : MapAt w Tryz.prog 9 mb K) (k : Fr (fun x => x = mb) w w') : EsR w' A M := by
  have hr : Rd w (fun b => b ≠ mb) 4 A M.length (M.flatMap EV.cells) := by
    refine ⟨h.rd.1, fun hn => ?_⟩
    obtain ⟨b, off, e, hz, hlt, hc⟩ := h.rd.2 hn
    refine ⟨b, off, e, fun eb => ?_, hlt, hc⟩
    subst eb
    rcases M with _ | ⟨x, M⟩
    · simp at hn
    · have h1 := hc 0 (.string x.p) rfl
      obtain ⟨D, ⟨es, clock, h2, _⟩, _⟩ := hm.own
      simp [World.cell?, h2] at h1
  exact ⟨(hr.fr k (fun b _ hz e => hz e)).mono (fun _ _ _ => trivial), fun x hx => ⟨((((h.ok x hx).1).not_mapAt hm).fr k (fun b _ hz e => hz.2 e)).mono (fun _ _ _ => trivial), (h.ok x hx).2⟩, h.len⟩
/-- entries stay where a book is written -/
theorem EsR.bookTo {w w' : World} {A : Option Addr} {M : List EV} {bb : Nat} {mo : Option Nat} {L : List (List UInt8 × EV)} {s : Int} (h : EsR w A M) (hb : BookAt w bb mo L s) (k : Fr (fun g => g = bb ∨ mo = some g) w w') : EsR w' A M := by
  have hin : ∀ {A : Option Addr} {n sz : Nat} {xs : List Value}, Rd w (fun _ => True) sz A n xs → (0 < n * sz → ∃ u, xs[0]? = some u ∧ u ≠ .int .u64 s ∧ u ≠ .map mo) → Rd w (fun b => ¬ (b = bb ∨ mo = some b)) sz A n xs := fun {A n sz xs} h1 h2 => by
    refine ⟨h1.1, fun hn => ?_⟩
    obtain ⟨b, off, e, hz, hlt, hc⟩ := h1.2 hn
    obtain ⟨u, hu, hu1, hu2⟩ := h2 hn
    refine ⟨b, off, e, ?_, hlt, hc⟩
    have h3 := hc 0 u hu
    rw [Nat.add_zero] at h3
    rintro (rfl | hm)
    · rw [hb.blk.cell] at h3
      rcases off with _ | _ | off
      · simp at h3; exact hu1 h3.symm
      · simp at h3; exact hu2 h3.symm
      · simp at h3
    · rcases hb.map with ⟨e0, _⟩ | ⟨mb, e0, hm2⟩
      · rw [e0] at hm; cases hm
      · rw [e0] at hm
        injection hm with hm
        subst hm
        obtain ⟨D, ⟨es, clock, h4, _⟩, _⟩ := hm2.own
        simp [World.cell?, h4] at h3
  refine ⟨((hin h.rd (fun hn => ?_)).fr k (fun b _ hz e => hz e)).mono (fun _ _ _ => trivial), fun x hx => ⟨((hin (h.ok x hx).1 (fun hn => ?_)).fr k (fun b _ hz e => hz e)).mono (fun _ _ _ => trivial), (h.ok x hx).2⟩, h.len⟩
  · rcases M with _ | ⟨x, M⟩
    · simp at hn
    · exact ⟨.string x.p, rfl, by simp, by simp⟩
  · rcases hl : x.x.l with _ | ⟨y, l⟩
    · rw [hl] at hn; simp at hn
    · exact ⟨bv y, by simp, by simp [bv], by simp [bv]⟩
theorem Ents.esr {w : World} {Z : Nat → Prop} {A : Option Addr} {l : List EV} (h : Ents w Z A l) (hl : l.length ≤ 1000000) : EsR w A l := ⟨h.rd.mono (fun _ _ _ => trivial), fun x hx => (h.ok x hx).x.mono (fun _ _ _ => trivial), hl⟩
theorem lightE_all {l : List EV} (h : lightE l = true) : l.length ≤ 400 ∧ ∀ x ∈ l, x.p.size ≤ 20000 ∧ x.x.l.length ≤ 20000 := by
  unfold lightE at h
  rw [Bool.and_eq_true, decide_eq_true_eq, decide_eq_true_eq] at h
  refine ⟨h.2, fun x hx => ?_⟩
  have : lenE x ≤ lensE l := by
    have h1 := h.1
    clear h h1
    induction l with
    | nil => cases hx
    | cons y l ih =>
      unfold lensE at *
      rw [List.map_cons, List.sum_cons]
      rcases List.mem_cons.1 hx with rfl | hx
      · omega
      · have := ih hx; omega
  unfold lenE at this
  omega

set_option maxRecDepth 100000 in
set_option maxHeartbeats 2000000 in
theorem plays22_any (A : Option Addr) (c : Nat) (l : List EV) (Z : Nat → Prop) (w : World) (h : Ents w Z A l) (hl : l.length ≤ 400 ∧ ∀ x ∈ l, x.p.size ≤ 20000 ∧ x.x.l.length ≤ 20000) :
    Calls Tryz.prog 19 #[.slice A l.length c] w fun e w' => ∃ (bb : Nat) (mo : Option Nat) (L : List (List UInt8 × EV)) (B : Option Addr) (d : Nat) (M : List EV), e = .returned (.tuple #[.pointer (some ⟨bb, 0, none⟩), .agg #[.int .u64 0, .slice B M.length d], .bool true]) ∧ PlayedB w' (playB [] (l.map EV.pl)) bb mo L 0 B M ∧
      w.heap.size ≤ bb ∧ (∀ m, mo = some m → w.heap.size ≤ m) ∧ Below w.heap.size w w' := by
  have hb0 : Below w.heap.size w (w.alloc (.cells #[.int .u64 0, .slice none 0 0] 50)) := (by repeat (first | exact Below.refl _ _ | refine Below.alloc ?_ (by simp) _ | refine Below.setCell ?_ (by simp) _ | refine Below.drew ?_))
  have x0 := Blk.new w 50 #[.int .u64 0, .slice none 0 0]
  have HA := Lib.hid h
  have HL := Lib.hid hl.2
  have hll := hl.1
  clear h hl
  go_enter Tryz.func19, Tryz.ntmps19
  go_wp2_with fail
  generalize w.alloc (.cells #[.int .u64 0, .slice none 0 0] 50) = w0 at *
  refine (bookNew_any w0).mono ?_
  rintro e w1 ⟨bb, rfl, hB1, hbb, hb1⟩
  have hw1 := hb0.trans (hb1.mono hb0.size)
  have x1 := x0.below hb1
  have hba : Below w1.heap.size w1 (w1.alloc (.cells #[.int .u64 0, .slice none 0 0] 50)) := (Below.refl _ _).alloc (Nat.le_refl _) _
  have y2 := Blk.new w1 50 #[.int .u64 0, .slice none 0 0]
  have x2 := x1.below hba
  have hw2 := hw1.trans (hba.mono hw1.size)
  have hB2 := hB1.below hba
  have hbl := hB1.blk.lt
  have HB2 := Lib.hid hB2
  have hsz0 := hb0.size
  obtain ⟨yb, hyb⟩ : ∃ yb, yb = w1.heap.size := ⟨_, rfl⟩
  clear hB1 hB2 x0 x1 hb0 hb1
  go_upto_region 4 with (fail)
  generalize w1.alloc (.cells #[.int .u64 0, .slice none 0 0] 50) = w2 at *
  rw [← hyb] at y2 hbl ⊢
  have hxy : w.heap.size ≠ yb := by have := x2.lt; have := hw1.size; omega
  clear hba hyb
  go_wp2_with fail
  go_loopw [18] (fun iv wr => ∃ (i : Nat) (mo : Option Nat) (L : List (List UInt8 × EV)) (B : Option Addr) (d : Nat) (M : List EV), i ≤ l.length ∧ iv = .int .i64 (i : Int) ∧ Blk wr yb 50 #[.int .u64 0, .slice B M.length d] ∧ Blk wr w.heap.size 50 #[.int .u64 0, .slice none 0 0] ∧ PlayedB wr (playB [] ((l.take i).map EV.pl)) bb mo L 0 B M ∧ (∀ m, mo = some m → w.heap.size ≤ m) ∧ Below w.heap.size w wr) (fun iv _ => l.length - (intOf iv).toNat)
  case atStart => exact ⟨0, none, [], none, 0, [], Nat.zero_le _, rfl, y2, x2, ⟨HB2.out, rfl, ⟨Rd.nil, by simp, by simp⟩, rfl⟩, by simp, hw2⟩
  case round =>
    clear x2 y2 hw2 HB2
    obtain ⟨i, mo, L, B, d, M, hi, rfl, y2, x2, hP, hmo, hb⟩ := hrel
    by_cases hlt : i < l.length
    · have hA := HA.out.below hb
      obtain ⟨b, off, rfl, _, hbb', c0, c1, c2, c3⟩ := ent_at hA.rd hlt
      have hxo := hA.ok _ (List.getElem_mem hlt)
      have hxl := HL.out _ (List.getElem_mem hlt)
      have hps : Hid (playB [] ((l.take (i + 1)).map EV.pl) = (putP (playB [] ((l.take i).map EV.pl)) (tl l[i].p) l[i].ep).1) := Lib.hid (by rw [pl_snoc l i hlt, playB_snoc]; rfl)
      obtain ⟨x, hx⟩ : ∃ x, x = l[i] := ⟨_, rfl⟩
      rw [← hx] at c0 c1 c2 c3 hxo hxl hps
      obtain ⟨T, hT⟩ : ∃ T, T = playB [] ((l.take i).map EV.pl) := ⟨_, rfl⟩
      rw [← hT] at hP hps
      obtain ⟨hx1, hx2⟩ := hxl
      have hba : Below wr.heap.size wr (wr.alloc (.cells #[.string x.p, .int .u64 x.v, .int .i64 x.k, .slice x.x.A x.x.l.length x.x.c] 59)) := (Below.refl _ _).alloc (Nat.le_refl _) _
      have z3 := Blk.new wr 59 #[.string x.p, .int .u64 x.v, .int .i64 x.k, .slice x.x.A x.x.l.length x.x.c]
      have HP3 := Lib.hid (hP.below hba)
      have HX3 := Lib.hid (hxo.x.below hba)
      have hw3 := hb.trans (hba.mono hb.size)
      have hv := hxo.v
      have hyl := y2.lt
      have hxl0 := x2.lt
      replace x2 := x2.below hba
      replace y2 := y2.below hba
      clear hP hA hxo hx hT
      go_upto_region 7 with (fail)
      generalize wr.alloc (.cells #[.string x.p, .int .u64 x.v, .int .i64 x.k, .slice x.x.A x.x.l.length x.x.c] 59) = w3 at *
      have p0 := y2.cell 0
      have p1 := y2.cell 1
      simp only [List.getElem?_toArray, List.getElem?_cons_zero, List.getElem?_cons_succ] at p0 p1
      have q0 := z3.cell 0
      have q1 := z3.cell 1
      have q2 := z3.cell 2
      have q3 := z3.cell 3
      simp only [List.getElem?_toArray, List.getElem?_cons_zero, List.getElem?_cons_succ] at q0 q1 q2 q3
      have HE := Lib.hid (refPut22_any B d M 0 x w3 HP3.out.es (HX3.out.mono (fun _ _ _ => trivial)) (by omega) hv (by omega) (by rw [HP3.out.same.out]; exact HP3.out.ok))
      rw [HP3.out.same.out] at HE
      have HBP := Lib.hid (fun w (hB : BookAt w bb mo L 0) (hy : By w (fun _ => True) x.x.A x.x.l) => bookPut_any bb mo L 0 (tl x.p) x.v x.k x.x.A x.x.c x.x.l _ w hB hy (by rw [tl_len]; omega) hv (by omega))
      rw [HP3.out.plain.out] at HBP
      obtain ⟨R, hR⟩ : ∃ R, R = putP T (tl x.p) x.ep := ⟨_, rfl⟩
      rw [show putP T (tl x.p) (x.v, x.k, x.x.l) = R from hR.symm] at HBP
      rw [← hR] at HE hps
      obtain ⟨T', E⟩ := R
      dsimp only at HE HBP hps
      clear hba hR
      go_wp2_with fail
      refine HE.out.mono ?_
      rintro e w4 ⟨⟨B4, d4, M4, rfl, hM4, hE4⟩, hb4⟩
      have hw4 := hw3.trans (hb4.mono hw3.size)
      have hba : Below w4.heap.size w4 (w4.alloc (.cells #[.int .u64 0, .slice B4 M4.length d4] 50)) := (Below.refl _ _).alloc (Nat.le_refl _) _
      have y5 := Blk.new w4 50 #[.int .u64 0, .slice B4 M4.length d4]
      have hw5 := hw4.trans (hba.mono hw4.size)
      have HB5 := Lib.hid ((HP3.out.book.below hb4).below hba)
      have HX5 := Lib.hid (((HX3.out.below hb4).below hba).1.mono (fun _ _ _ => trivial))
      have HM5 := Lib.hid hM4
      have HE5 := Lib.hid (hE4.below hba)
      replace x2 := (x2.below hb4).below hba
      replace y2 := (y2.below hb4).below hba
      replace z3 := (z3.below hb4).below hba
      have hs4 := hb4.size
      have hs3 := hw3.size
      have hz3l := z3.lt
      clear hM4 hE4 hb4 HE HX3 HP3 p0 p1 q0 q1 q2 q3
      go_upto_region 8 with (fail)
      generalize w4.alloc (.cells #[.int .u64 0, .slice B4 M4.length d4] 50) = w5 at *
      have q0 := z3.cell 0
      have q1 := z3.cell 1
      have q2 := z3.cell 2
      have q3 := z3.cell 3
      simp only [List.getElem?_toArray, List.getElem?_cons_zero, List.getElem?_cons_succ] at q0 q1 q2 q3
      clear hba
      go_wp2_with fail
      refine (HBP.out w5 HB5.out HX5.out).mono ?_
      rintro e w6 ⟨rfl, hto⟩
      obtain ⟨⟨mo', L', hB6, hL6, hmo6⟩, hfr⟩ := hto
      have n1 := HB5.out.notB x2 (by decide)
      have n2 := HB5.out.notB y2 (by decide)
      have n5 := HB5.out.notB y5 (by decide)
      have x6 := x2.fr hfr n1
      have y6 := y2.fr hfr n2
      have y56 := y5.fr hfr n5
      have HE6 := Lib.hid (HE5.out.bookTo HB5.out hfr)
      have HB6 := Lib.hid hB6
      have hL6' := Lib.hid hL6.out
      have hw6 : Below w.heap.size w w6 := hw5.trans (hfr.below hw5.size (fun k hk e => by
        rcases e with e | e
        · omega
        · have := hmo _ e; omega))
      have hmo7 : ∀ m, mo' = some m → w.heap.size ≤ m := fun m e => by
        rcases hmo6 m e with e | e
        · exact hmo m e
        · have := hw5.size; omega
      have hne : (E != E) = false := by simp
      have kR : Fr (fun x => x = yb) w6 ((w6.setCell ⟨yb, 0, none⟩ (.int .u64 0)).setCell ⟨yb, 1, none⟩ (.slice B4 M4.length d4)) := ((Fr.refl (fun x => x = yb) w6).setAt yb _ rfl _).setAt yb _ rfl _
      have yR := (y6.set_ 0 (.int .u64 0)).set_ 1 (.slice B4 M4.length d4)
      simp only [List.setIfInBounds_toArray, List.set_cons_zero, List.set_cons_succ] at yR
      have xR := x6.fr kR (fun e => hxy e)
      have HB7 := Lib.hid (HB6.out.fr_blk y6 (by decide) (by decide) kR)
      have HE7 := Lib.hid (HE6.out.notBook y6 (by simp) (by simp) kR)
      have hw7 := hw6.trans (kR.below (B := w.heap.size) hw6.size (fun k hk e => by omega))
      have r0 := y56.cell 0
      have r1 := y56.cell 1
      simp only [List.getElem?_toArray, List.getElem?_cons_zero, List.getElem?_cons_succ] at r0 r1
      have fr := fun o => y6.frozen o
      have p0 := y6.cell 0
      have p1 := y6.cell 1
      simp only [List.getElem?_toArray, List.getElem?_cons_zero, List.getElem?_cons_succ] at p0 p1
      have hs6 := hw6.size
      clear hfr hB6 hL6 HB5 HX5 HE5 HBP n1 n2 n5 x2 y2 y5 z3 q0 q1 q2 q3 x6 y56 hmo6
      go_wp2_with fail
      generalize (w6.setCell ⟨yb, 0, none⟩ (.int .u64 0)).setCell ⟨yb, 1, none⟩ (.slice B4 M4.length d4) = w7 at *
      go_roundw
      case rel => exact ⟨i + 1, mo', L', B4, d4, M4, hlt, by go_num, yR, xR, ⟨HB7.out, by show _ = _; rw [hL6'.out, hps.out], HE7.out, by show _ = _; rw [HM5.out.out, hps.out]⟩, hmo7, hw7⟩
      case measure => simp [intOf]; omega
    · have e : i = l.length := by omega
      subst e
      rw [List.take_length] at hP
      go_wp2_with fail
      refine wp_region_m [true, true, true] (fun W => Below wr.heap.size wr W) (by kernel_rfl) (by kernel_rfl) ?_
      simp only [List.length_cons, List.length_nil, Nat.zero_add, Nat.reduceAdd, List.take_succ_cons, List.take_zero, List.drop_succ_cons, List.drop_zero]
      refine mx_move _ (by kernel_rfl) rfl ⟨_, (by ((try simp [go_sem]); (try rfl); done)), _, (by (simp only [Act.put, List.setIfInBounds_toArray, List.set_cons_zero, List.set_cons_succ]; rfl)), ?_⟩
      refine mx_val (by kernel_rfl) ⟨_, (by (intro w' hC; (have q0 := (y2.below hC).cell 0; have q1 := (y2.below hC).cell 1; simp only [List.getElem?_toArray, List.getElem?_cons_zero, List.getElem?_cons_succ] at q0 q1); clear hC; (try go_simp); (try with_reducible rfl); done)), _, (by (simp only [Act.put, List.setIfInBounds_toArray, List.set_cons_zero, List.set_cons_succ]; rfl)), ?_⟩
      refine mx_assign _ (by kernel_rfl) rfl ⟨_, (by ((try simp [go_sem]); (try rfl); done)), _, (by (simp only [Act.put, List.setIfInBounds_toArray, List.set_cons_zero, List.set_cons_succ]; rfl)), ?_⟩
      refine mx_end (Below.refl _ _).drew ?_
      have hbd : Below wr.heap.size wr wr.drew := (Below.refl _ _).drew
      replace hP := hP.below hbd
      replace x2 := x2.below hbd
      replace hb := hb.trans (hbd.mono hb.size)
      clear y2 hbd
      generalize wr.drew = wd at *
      have kR : Fr (fun x => x = w.heap.size) wd ((wd.setCell ⟨w.heap.size, 0, none⟩ (.int .u64 0)).setCell ⟨w.heap.size, 1, none⟩ (.slice B M.length d)) := ((Fr.refl (fun x => x = w.heap.size) wd).setAt (w.heap.size) _ rfl _).setAt (w.heap.size) _ rfl _
      have yR := (x2.set_ 0 (.int .u64 0)).set_ 1 (.slice B M.length d)
      simp only [List.setIfInBounds_toArray, List.set_cons_zero, List.set_cons_succ] at yR
      have hwR := hb.trans (kR.below (B := w.heap.size) hb.size (fun k hk e => by omega))
      have HPR := Lib.hid (PlayedB.mk (hP.book.fr_blk x2 (by decide) (by decide) kR) hP.plain (hP.es.notBook x2 (by simp) (by simp) kR) hP.same)
      have fr := fun o => x2.frozen o
      have r0 := x2.cell 0
      have r1 := x2.cell 1
      simp only [List.getElem?_toArray, List.getElem?_cons_zero, List.getElem?_cons_succ] at r0 r1
      clear hP
      go_wp2_with fail
      generalize (wd.setCell ⟨w.heap.size, 0, none⟩ (.int .u64 0)).setCell ⟨w.heap.size, 1, none⟩ (.slice B M.length d) = wR at *
      have s0 := yR.cell 0
      have s1 := yR.cell 1
      simp only [List.getElem?_toArray, List.getElem?_cons_zero, List.getElem?_cons_succ] at s0 s1
      refine bodyPost_ret (v := .tuple #[.pointer (some ⟨bb, 0, none⟩), .agg #[.int .u64 0, .slice B M.length d], .bool true]) (by simp [results, Tryz.results19, go_sem, s0, s1]) rfl ?_
      exact ⟨bb, mo, L, B, d, M, rfl, HPR.out, by omega, hmo, hwR⟩

end Go.Proofs.YtdnljmncdbcgeaaGreat

/- tenderlaw22: lives. -/
namespace Go.Proofs.YtdnljmncdbcgeaaGreat
open Go.RowKit Go.Maps

def exBk : List (List UInt8 × EP) := [([97], (1048577, 2, []))]
theorem exB1 : putP [] [97] (1048577, 2, []) = (exBk, 0) := by decide
theorem exB2 : putP exBk [97] (1048577, 2, []) = (exBk, 31) := by decide
/-- one call of Put of an entry without bytes -/
theorem put_step {w : World} {bb : Nat} {mo : Option Nat} {L : List (List UInt8 × EV)} {T T' : List (List UInt8 × EP)} {m s : Int} (p : List UInt8) (v k : Int) (h : BookAt w bb mo L s) (hT : Hid (plainB L = T)) (hm : putP T p (v, k, []) = (T', m)) (hp : p.length ≤ 1048576) (hv : 0 ≤ v ∧ v < 18446744073709551616) :
    Calls Tryz.prog 26 #[.pointer (some ⟨bb, 0, none⟩), .agg #[.string ⟨⟨p⟩⟩, .int .u64 v, .int .i64 k, .slice none 0 0]] w fun e w' => e = .returned (.int .i64 m) ∧ ∃ mo' L', BookAt w' bb mo' L' s ∧ Hid (plainB L' = T') ∧ (∀ m, mo' = some m → mo = some m ∨ w.heap.size ≤ m) ∧ Fr (fun g => g = bb ∨ mo = some g) w w' := by
  refine (bookPut_any bb mo L s p v k none 0 [] (fun _ => True) w h Rd.nil hp hv (by simp)).mono ?_
  rintro e w' ⟨rfl, hto⟩
  rw [hT.out, hm] at hto ⊢
  obtain ⟨mo', L', h1, h2, h3⟩ := hto.at_
  exact ⟨rfl, mo', L', h1, h2, h3, hto.fr⟩
set_option maxRecDepth 100000 in
set_option maxHeartbeats 1000000 in
theorem lives22_any (w : World) : Calls Tryz.prog 23 #[] w fun e w' => e = .returned (.bool true) ∧ Below w.heap.size w w' := by
  go_enter Tryz.func23, Tryz.ntmps23
  go_wp2_with fail
  refine (bookNew_any w).mono ?_
  rintro e w1 ⟨bb, rfl, hB1, hbb, hb1⟩
  have hba : Below w1.heap.size w1 (w1.alloc (.cells #[.string ⟨#[97]⟩, .int .u64 1048577, .int .i64 2, .slice none 0 0] 59)) := (Below.refl _ _).alloc (Nat.le_refl _) _
  have z2 := Blk.new w1 59 #[.string ⟨#[97]⟩, .int .u64 1048577, .int .i64 2, .slice none 0 0]
  have HB2 := Lib.hid (hB1.below hba)
  have hw2 := hb1.trans (hba.mono hb1.size)
  have hL0 : Hid (plainB ([] : List (List UInt8 × EV)) = []) := rfl
  obtain ⟨xb, hxb⟩ : ∃ xb, xb = w1.heap.size := ⟨_, rfl⟩
  clear hB1 hb1
  go_upto_region 3 with (fail)
  generalize w1.alloc (.cells #[.string ⟨#[97]⟩, .int .u64 1048577, .int .i64 2, .slice none 0 0] 59) = w2 at *
  rw [← hxb] at z2 ⊢
  clear hxb hba
  have q0 := z2.cell 0
  have q1 := z2.cell 1
  have q2 := z2.cell 2
  have q3 := z2.cell 3
  simp only [List.getElem?_toArray, List.getElem?_cons_zero, List.getElem?_cons_succ] at q0 q1 q2 q3
  go_wp2_with fail
  refine (put_step [97] 1048577 2 HB2.out hL0 exB1 (by decide) (by decide)).mono ?_
  rintro e w3 ⟨rfl, mo3, L3, hB3, hL3, hmo3, hfr3⟩
  have z3 := z2.fr hfr3 (HB2.out.notB z2 (by decide))
  have hw3 := hw2.trans (hfr3.below (B := w.heap.size) hw2.size (fun k hk e => by
    rcases e with e | e
    · omega
    · cases e))
  have hmo3' : ∀ m, mo3 = some m → w.heap.size ≤ m := fun m e => by
    rcases hmo3 m e with e | e
    · cases e
    · have := hw2.size; omega
  have HB3 := Lib.hid hB3
  clear q0 q1 q2 q3 z2 hfr3 hB3 hmo3 HB2
  have q0 := z3.cell 0
  have q1 := z3.cell 1
  have q2 := z3.cell 2
  have q3 := z3.cell 3
  simp only [List.getElem?_toArray, List.getElem?_cons_zero, List.getElem?_cons_succ] at q0 q1 q2 q3
  go_wp2_with fail
  refine (put_step [97] 1048577 2 HB3.out hL3 exB2 (by decide) (by decide)).mono ?_
  rintro e w4 ⟨rfl, mo4, L4, hB4, hL4, hmo4, hfr4⟩
  have hw4 := hw3.trans (hfr4.below (B := w.heap.size) hw3.size (fun k hk e => by
    rcases e with e | e
    · omega
    · have := hmo3' _ e; omega))
  have hlen : L4.length = 1 := by rw [← plainB_len, hL4.out]; rfl
  have HG := Lib.hid (bookGet_any bb mo4 L4 0 [98] w4 hB4 (by decide))
  have hgv : Hid ((gotE L4 [98]).v = 0) := Lib.hid (by
    have := get_plainB L4 [98]
    rw [hL4.out] at this
    rcases hg : getR L4 [98] with _ | o
    · unfold gotE; rw [hg]; rfl
    · rw [hg, show getR exBk [98] = none by decide] at this; cases this)
  have HB4 := Lib.hid hB4
  clear q0 q1 q2 q3 z3 hfr4 hB4 hmo4 HB3 hL4
  go_wp2_with fail
  refine (bookLen_any bb mo4 L4 0 w4 HB4.out).mono ?_
  rintro e w5 ⟨rfl, rfl⟩
  rw [hlen]
  go_wp2_with fail
  refine HG.out.mono ?_
  rintro e w6 ⟨q, v, k, A, c, l, rfl, hq, ho, hb6⟩
  obtain rfl : v = 0 := hq.out.2.1.trans hgv.out
  have hfd := fun W => (show (Instr.field 59 (.agg #[.string q, .int .u64 0, .int .i64 k, .slice A l.length c]) 1).run Tryz.prog W = .ok (.int .u64 0) W by kernel_rfl)
  have hw6 := hw4.trans (hb6.mono hw4.size)
  clear hq ho HG hgv
  go_wp2_with fail
  go_ret
  exact ⟨rfl, hw6⟩
end Go.Proofs.YtdnljmncdbcgeaaGreat

/- WatchJudges is true for every input: of which entries of any book nothing was ever common is the document's. No condition beyond the row's own. -/
namespace Go.Proofs.YtdnljmncdbcgeaaGreat
open Go.RowKit Go.Maps

def neverM (MS : List MO) (x : EV) : Bool := !someG (bothM MS x.pl.1 x.pl.2.2) MS.length 0 (MS.length : Int)
theorem never_is {MS : List MO} {PL : List (List (List UInt8 × LP) × List (List UInt8 × LP))} (h : MS.map MO.pl = PL) (x : EV) : neverM MS x = neverE (PL.map (·.1)) (PL.map (·.2)) x := by
  unfold neverM neverE
  rw [common_is h, List.length_map, mos_len h]

set_option maxRecDepth 100000 in
set_option maxHeartbeats 2000000 in
theorem refJudge_any (WA : Option Addr) (wc : Nat) (MS : List MO) (B : Option Addr) (d : Nat) (M : List EV) (w : World) (h : MosR w WA MS) (hn : MS.length ≤ 1000) (he : EsR w B M) (hp : ∀ x ∈ M, x.p.size ≤ 1048576) :
    Calls Tryz.prog 22 #[.slice WA MS.length wc, .slice B M.length d] w fun e w' => TxtOwn w' w.heap.size e ((M.filter (neverM MS)).map (fun x => x.pl.1)) ∧ Below w.heap.size w w' := by
  have HM := Lib.hid h
  have HE := Lib.hid he
  have hMl := he.len
  obtain ⟨J, hJ⟩ : ∃ J, J = (M.filter (neverM MS)).map (fun x => x.pl.1) := ⟨_, rfl⟩
  rw [← hJ]
  have HJ := Lib.hid hJ
  have HP := Lib.hid hp
  clear h he hJ hp
  go_enter Tryz.func22, Tryz.ntmps22
  go_wp2_with fail
  go_loopw [5, 6] (fun ov iv wr => ∃ (i : Nat) (A : Option Addr) (c : Nat) (l' : List (List UInt8)), i ≤ M.length ∧ iv = .int .i64 (i : Int) ∧ ov = .slice A l'.length c ∧ Hid (l' = ((M.take i).filter (neverM MS)).map (fun x => x.pl.1)) ∧ wr.ownsRow w.heap.size 9 1 (.slice A l'.length c) l'.length (l'.map stv) ∧ Below w.heap.size w wr) (fun _ iv _ => M.length - (intOf iv).toNat)
  case atStart => exact ⟨0, none, 0, [], Nat.zero_le _, rfl, rfl, Lib.hid rfl, World.ownsRow_nil _ _ _ _, Below.refl _ _⟩
  case round =>
    obtain ⟨i, A, c, l', hi, rfl, rfl, hl', hown, hb⟩ := hrel
    have hln : l'.length ≤ i := by
      rw [hl'.out, List.length_map]
      have h1 := List.length_filter_le (neverM MS) (M.take i)
      rw [List.length_take] at h1
      omega
    by_cases hlt : i < M.length
    · have hER := HE.out.below hb
      obtain ⟨b, off, rfl, hbb, c0, c1, c2, c3⟩ := hER.at_ hlt
      obtain ⟨x, hx⟩ : ∃ x, x = M[i] := ⟨_, rfl⟩
      have hxm : x ∈ M := by rw [hx]; exact List.getElem_mem hlt
      have hxy := hER.ok x hxm
      have hxp := HP.out x hxm
      have HST : Hid (((M.take (i + 1)).filter (neverM MS)).map (fun x => x.pl.1) = l' ++ (if neverM MS x = true then [x.pl.1] else [])) := Lib.hid (by
        rw [List.take_succ_eq_append_getElem hlt, List.filter_append, List.map_append, ← hl'.out, ← hx, List.filter_cons]
        cases neverM MS x <;> rfl)
      rw [← hx] at c0 c1 c2 c3
      have HC := Lib.hid (fun W (hW : Below wr.heap.size wr W) => refCommon_any WA wc MS (tl x.p) x.k x.x.A x.x.c x.x.l _ 0 (MS.length : Int) W ((HM.out.below hb).below hW) (by rw [tl_len]; exact hxp) hn (hxy.1.below hW))
      obtain ⟨V, hV⟩ : ∃ V, V = someG (bothM MS (tl x.p) (x.k, x.x.l)) MS.length 0 (MS.length : Int) := ⟨_, rfl⟩
      rw [← hV, show (⟨⟨tl x.p⟩⟩ : ByteArray) = x.p from rfl] at HC
      have HNV : Hid (neverM MS x = !V) := Lib.hid (by unfold neverM; rw [hV]; rfl)
      have HO := Lib.hid hown
      clear hx hxm hER hxy hown hl' hV
      go_wp2_with fail
      refine wp_region_b 15 (by kernel_rfl) (by kernel_rfl) ?_
      simp only [List.take_succ_cons, List.take_zero, List.drop_succ_cons, List.drop_zero]
      refine lb_move _ (by kernel_rfl) rfl ⟨_, (by ((try simp [go_sem]); (try rfl); done)), _, (by (simp only [Act.put, List.setIfInBounds_toArray, List.set_cons_zero, List.set_cons_succ]; rfl)), ?_⟩
      refine lb_move _ (by kernel_rfl) rfl ⟨_, (by ((try simp [go_sem]); (try rfl); done)), _, (by (simp only [Act.put, List.setIfInBounds_toArray, List.set_cons_zero, List.set_cons_succ]; rfl)), ?_⟩
      refine lb_move _ (by kernel_rfl) rfl ⟨_, (by ((try simp [go_sem]); (try rfl); done)), _, (by (simp only [Act.put, List.setIfInBounds_toArray, List.set_cons_zero, List.set_cons_succ]; rfl)), ?_⟩
      refine lb_val (by kernel_rfl) ⟨_, (by (intro w' hC; clear hC; (try go_simp); (try with_reducible rfl); done)), _, (by (simp only [Act.put, List.setIfInBounds_toArray, List.set_cons_zero, List.set_cons_succ]; rfl)), ?_⟩
      refine lb_val (by kernel_rfl) ⟨_, (by (intro w' hC; clear hC; (try go_simp); (try with_reducible rfl); done)), _, (by (simp only [Act.put, List.setIfInBounds_toArray, List.set_cons_zero, List.set_cons_succ]; rfl)), ?_⟩
      refine lb_val (by kernel_rfl) ⟨_, (by (intro w' hC; (have x0 := cellAt hC hbb c0; have x2 := cellAt hC hbb c2; have x3 := cellAt hC hbb c3); clear hC; (try go_simp); (try with_reducible rfl); done)), _, (by (simp only [Act.put, List.setIfInBounds_toArray, List.set_cons_zero, List.set_cons_succ]; rfl)), ?_⟩
      refine lb_move _ (by kernel_rfl) rfl ⟨_, (by ((try simp [go_sem]); (try rfl); done)), _, (by (simp only [Act.put, List.setIfInBounds_toArray, List.set_cons_zero, List.set_cons_succ]; rfl)), ?_⟩
      refine lb_move _ (by kernel_rfl) rfl ⟨_, (by ((try simp [go_sem]); (try rfl); done)), _, (by (simp only [Act.put, List.setIfInBounds_toArray, List.set_cons_zero, List.set_cons_succ]; rfl)), ?_⟩
      refine lb_val (by kernel_rfl) ⟨_, (by (intro w' hC; clear hC; (try go_simp); (try with_reducible rfl); done)), _, (by (simp only [Act.put, List.setIfInBounds_toArray, List.set_cons_zero, List.set_cons_succ]; rfl)), ?_⟩
      refine lb_val (by kernel_rfl) ⟨_, (by (intro w' hC; clear hC; (try go_simp); (try with_reducible rfl); done)), _, (by (simp only [Act.put, List.setIfInBounds_toArray, List.set_cons_zero, List.set_cons_succ]; rfl)), ?_⟩
      refine lb_val (by kernel_rfl) ⟨_, (by (intro w' hC; (have x0 := cellAt hC hbb c0; have x2 := cellAt hC hbb c2; have x3 := cellAt hC hbb c3); clear hC; (try go_simp); (try with_reducible rfl); done)), _, (by (simp only [Act.put, List.setIfInBounds_toArray, List.set_cons_zero, List.set_cons_succ]; rfl)), ?_⟩
      refine lb_move _ (by kernel_rfl) rfl ⟨_, (by ((try simp [go_sem]); (try rfl); done)), _, (by (simp only [Act.put, List.setIfInBounds_toArray, List.set_cons_zero, List.set_cons_succ]; rfl)), ?_⟩
      refine lb_val (by kernel_rfl) ⟨_, (by (intro w' hC; clear hC; (try go_simp); (try with_reducible rfl); done)), _, (by (simp only [Act.put, List.setIfInBounds_toArray, List.set_cons_zero, List.set_cons_succ]; rfl)), ?_⟩
      refine lb_call (by kernel_rfl) (fun w' hC => HC.out w' hC) (by (intro w'; go_simp; done)) ⟨_, (by (simp only [Act.put, List.setIfInBounds_toArray, List.set_cons_zero, List.set_cons_succ]; rfl)), ?_⟩
      refine lb_val (by kernel_rfl) ⟨_, (by (intro w' hC; clear hC; (try go_simp); (try with_reducible rfl); done)), _, (by (simp only [Act.put, List.setIfInBounds_toArray, List.set_cons_zero, List.set_cons_succ]; rfl)), ?_⟩
      refine .nil ?_
      intro w3 hb3
      have hr3 := hb.trans (hb3.mono hb.size)
      have HO3 := Lib.hid (own_below HO.out hb3)
      have x0 := cellAt hb3 hbb c0
      rw [HNV.out] at HST
      clear c0 c1 c2 c3 HC HO HNV
      rcases V with _ | _
      · have HO4 := Lib.hid (own_below HO3.out ((Below.refl _ w3).alloc (Nat.le_refl _) (.cells #[.string x.p] 9)))
        have HRD : Hid (Rd (w3.alloc (.cells #[.string x.p] 9)) (fun _ => True) 1 (some ⟨w3.heap.size, 0, none⟩) 1 [stv x.pl.1]) := Lib.hid ((Rd.lit rfl rfl rfl).mono (fun _ _ _ => trivial))
        have hr4 := hr3.alloc hr3.size (.cells #[.string x.p] 9)
        have hsz := hr4.size
        clear HO3
        go_wp2_with (at_builtin; refine wpList_append_txt rfl (.tmp 28) (.tmp 34) (t := 54) rfl rfl rfl HO4.out rfl HRD.out (by omega) hsz ?_; intro A' c' w5 h1 h2)
        have hr5 : Below w.heap.size w w5 := hr4.trans h2
        have HO5 := Lib.hid h1
        clear h1 h2 HO4 HRD
        go_wp2_with fail
        go_roundw
        case rel => exact ⟨i + 1, A', c', l' ++ [x.pl.1], hlt, by go_num, by rw [List.length_append]; rfl, Lib.hid (by rw [HST.out]; simp), HO5.out, hr5⟩
        case measure => simp [intOf]; omega
      · go_wp2_with fail
        go_roundw
        case rel => exact ⟨i + 1, A, c, l', hlt, by go_num, rfl, Lib.hid (by rw [HST.out]; simp), HO3.out, hr3⟩
        case measure => simp [intOf]; omega
    · have e : i = M.length := by omega
      subst e
      have hlJ : Hid (l' = J) := Lib.hid (by rw [hl'.out, List.take_length, HJ.out])
      clear hl'
      go_wp2_with fail
      go_ret
      exact ⟨⟨A, c, l', rfl, hlJ, hown⟩, hb⟩
set_option maxRecDepth 100000 in
set_option maxHeartbeats 4000000 in
theorem watchJudges_any (B : Option Addr) (d : Nat) (L : List SV) (A : Option Addr) (c : Nat) (l : List EV) (w : World) (hst : StA w B L) (h : Ents w (fun b => b < w.heap.size) A l) :
    Calls Tryz.prog 4 #[.slice B L.length d, .slice A l.length c] w fun e w' => e = .returned (.bool true) ∧ Below w.heap.size w w' := by
  have HS := Lib.hid hst
  have HA := Lib.hid h
  have HLI := Lib.hid (lightW_any B d L w hst)
  clear h hst
  rcases hli : lightW L with _ | _
  · rw [hli] at HLI
    go_enter Tryz.func4, Tryz.ntmps4
    go_wp2_with fail
    refine HLI.out.mono ?_
    rintro e w1 ⟨rfl, hw1⟩
    go_wp2_with fail
    refine (lives42_any _).mono ?_
    rintro e w9 ⟨rfl, hb9⟩
    go_wp2_with fail
    go_ret
    exact ⟨rfl, hw1.trans (hb9.mono hw1.size)⟩
  rw [hli] at HLI
  have hla := lightW_all hli
  clear hli
  go_enter Tryz.func4, Tryz.ntmps4
  go_wp2_with fail
  refine HLI.out.mono ?_
  rintro e w1 ⟨rfl, hw1⟩
  have HLE := Lib.hid (lightE_any A c l _ w1 (HA.out.below hw1))
  rcases hle : lightE l with _ | _
  · rw [hle] at HLE
    go_wp2_with fail
    refine HLE.out.mono ?_
    rintro e w2 ⟨rfl, hb2⟩
    have hw2 := hw1.trans (hb2.mono hw1.size)
    go_wp2_with fail
    refine (lives42_any _).mono ?_
    rintro e w9 ⟨rfl, hb9⟩
    go_wp2_with fail
    go_ret
    exact ⟨rfl, hw2.trans (hb9.mono hw2.size)⟩
  rw [hle] at HLE
  have hea := lightE_all hle
  clear hle
  go_wp2_with fail
  refine HLE.out.mono ?_
  rintro e w2 ⟨rfl, hb2⟩
  have hw2 := hw1.trans (hb2.mono hw1.size)
  go_wp2_with fail
  refine (made_any B d L w2 (HS.out.below hw2) hla).mono ?_
  rintro e w3 ⟨gb, col, WA, wc, MS, rfl, hmd, hb3⟩
  have hw3 := hw2.trans (hb3.mono hw2.size)
  have HLG := Lib.hid hmd.log
  have HMR := Lib.hid (show MosR w3 WA MS from ⟨hmd.row, hmd.its⟩)
  obtain ⟨PL, hPL⟩ : ∃ PL, PL = momS L := ⟨_, rfl⟩
  have hpll : PL.length ≤ 60 := by rw [hPL, mom_len]; exact hla.1
  have HPM : Hid (MS.map MO.pl = PL) := Lib.hid (by rw [hPL]; exact hmd.pl.out)
  rw [← hPL] at HLG
  have hmsl : MS.length ≤ 60 := by rw [← mos_len HPM.out]; exact hpll
  have hHl : (PL.map (·.1)).length ≤ 300 := by rw [List.length_map]; omega
  clear hmd HLI HLE
  go_wp2_with fail
  refine (plays22_any A c l _ w3 (HA.out.below hw3) hea).mono ?_
  rintro e w4 ⟨bb, mo, BL, BB, d2, M, rfl, hP, hbb, hmo, hb4⟩
  have hw4 := hw3.trans (hb4.mono hw3.size)
  have hba : Below w4.heap.size w4 (w4.alloc (.cells #[.int .u64 0, .slice BB M.length d2] 50)) := (Below.refl _ _).alloc (Nat.le_refl _) _
  have y6 := Blk.new w4 50 #[.int .u64 0, .slice BB M.length d2]
  have hw6 := hw4.trans (hba.mono hw4.size)
  have HP6 := Lib.hid (hP.below hba)
  have HLG6 := Lib.hid (HLG.out.below (hb4.trans (hba.mono hb4.size)))
  have HMR6 := Lib.hid (HMR.out.below (hb4.trans (hba.mono hb4.size)))
  clear hP hb4 HLG HMR
  go_upto_region 5 with (fail)
  generalize w4.alloc (.cells #[.int .u64 0, .slice BB M.length d2] 50) = w6 at *
  generalize hT : playB [] (l.map EV.pl) = T at *
  have hTk : BookOk T := HP6.out.ok
  obtain ⟨J, hJ⟩ : ∃ J, J = jS (PL.map (·.1)) (PL.map (·.2)) T := ⟨_, rfl⟩
  have HJL : Hid (J.length ≤ 1099511627776) := Lib.hid (by
    rw [hJ]
    unfold jS
    rw [List.length_map]
    have h1 := List.length_filter_le (fun y : List UInt8 × EP => !someG (bothAt (PL.map (·.1)) (PL.map (·.2)) y.1 y.2.2) (PL.map (·.1)).length 0 ((PL.map (·.1)).length : Int)) T
    have h2 := hTk.len
    omega)
  have hps : ∀ y ∈ T, y.1.length ≤ 1048576 := fun y hy => by
    have h1 := (checkP_good (hTk.good y hy)).1
    have h2 := goodB_len (userB_good h1)
    omega
  have hps2 : ∀ x ∈ M, x.p.size ≤ 1048576 := fun x hx => by
    have h1 := hps x.pl (by rw [← HP6.out.same.out]; exact List.mem_map.2 ⟨x, hx, rfl⟩)
    have h2 : x.pl.1.length = x.p.size := tl_len x.p
    omega
  have HJ1 := Lib.hid (fun W (hW : Below w6.heap.size w6 W) => judge_any col gb _ _ bb mo BL 0 W (HLG6.out.below hW) hHl (HP6.out.book.below hW) (by rw [HP6.out.plain.out]; exact hps) (by rw [HP6.out.plain.out]; have := hTk.len; omega))
  rw [HP6.out.plain.out, ← hJ] at HJ1
  have HJ2 := Lib.hid (fun W (hW : Below w6.heap.size w6 W) => refJudge_any WA wc MS BB d2 M W (HMR6.out.below hW) (by omega) (HP6.out.es.below hW) hps2)
  rw [show (M.filter (neverM MS)).map (fun x => x.pl.1) = J by
    rw [hJ, show neverM MS = neverE (PL.map (·.1)) (PL.map (·.2)) from funext (never_is HPM.out), jS_map, HP6.out.same.out]] at HJ2
  clear hJ hps hps2 HPM hPL HP6 HLG6 HMR6 hba hbb hmo hT hTk hea hla
  refine wp_region_p [(0, true), (1, true), (2, true), (3, true), (4, true), (5, true), (6, true), (8, true), (9, true), (10, true), (7, false), (11, false), (12, false), (13, true), (14, true), (15, false), (16, true)] (fun W => Below w6.heap.size w6 W) (by kernel_rfl) (by kernel_rfl) ?_
  simp only [List.map_cons, List.map_nil, List.filterMap_cons, List.filterMap_nil, List.getElem?_cons_zero, List.getElem?_cons_succ, List.length_cons, List.length_nil, Nat.zero_add, Nat.reduceAdd, List.drop_succ_cons, List.drop_zero]
  refine mx_move _ (by kernel_rfl) rfl ⟨_, (by ((try simp [go_sem]); (try rfl); done)), _, (by (simp only [Act.put, List.setIfInBounds_toArray, List.set_cons_zero, List.set_cons_succ]; rfl)), ?_⟩
  refine mx_move _ (by kernel_rfl) rfl ⟨_, (by ((try simp [go_sem]); (try rfl); done)), _, (by (simp only [Act.put, List.setIfInBounds_toArray, List.set_cons_zero, List.set_cons_succ]; rfl)), ?_⟩
  refine mx_move _ (by kernel_rfl) rfl ⟨_, (by ((try simp [go_sem]); (try rfl); done)), _, (by (simp only [Act.put, List.setIfInBounds_toArray, List.set_cons_zero, List.set_cons_succ]; rfl)), ?_⟩
  refine mx_val (by kernel_rfl) ⟨_, (by (intro w' hC; clear hC; (try go_simp); (try with_reducible rfl); done)), _, (by (simp only [Act.put, List.setIfInBounds_toArray, List.set_cons_zero, List.set_cons_succ]; rfl)), ?_⟩
  refine mx_move _ (by kernel_rfl) rfl ⟨_, (by ((try simp [go_sem]); (try rfl); done)), _, (by (simp only [Act.put, List.setIfInBounds_toArray, List.set_cons_zero, List.set_cons_succ]; rfl)), ?_⟩
  refine mx_move _ (by kernel_rfl) rfl ⟨_, (by ((try simp [go_sem]); (try rfl); done)), _, (by (simp only [Act.put, List.setIfInBounds_toArray, List.set_cons_zero, List.set_cons_succ]; rfl)), ?_⟩
  refine mx_move _ (by kernel_rfl) rfl ⟨_, (by ((try simp [go_sem]); (try rfl); done)), _, (by (simp only [Act.put, List.setIfInBounds_toArray, List.set_cons_zero, List.set_cons_succ]; rfl)), ?_⟩
  refine mx_move _ (by kernel_rfl) rfl ⟨_, (by ((try simp [go_sem]); (try rfl); done)), _, (by (simp only [Act.put, List.setIfInBounds_toArray, List.set_cons_zero, List.set_cons_succ]; rfl)), ?_⟩
  refine mx_val (by kernel_rfl) ⟨_, (by (intro w' hC; clear hC; (try go_simp); (try with_reducible rfl); done)), _, (by (simp only [Act.put, List.setIfInBounds_toArray, List.set_cons_zero, List.set_cons_succ]; rfl)), ?_⟩
  refine mx_val (by kernel_rfl) ⟨_, (by (intro w' hC; (have b0 := (y6.below hC).cell 0; have b1 := (y6.below hC).cell 1; simp only [List.getElem?_toArray, List.getElem?_cons_zero, List.getElem?_cons_succ] at b0 b1); clear hC; (try go_simp); (try with_reducible rfl); done)), _, (by (simp only [Act.put, List.setIfInBounds_toArray, List.set_cons_zero, List.set_cons_succ]; rfl)), ?_⟩
  refine mx_call ((Below.refl _ _).drew) (by kernel_rfl) ?_ (HJ1.out w6.drew (Below.refl _ _).drew) ?_
  · (go_simp; done)
  rintro e wa ⟨⟨A7, c7, l7, rfl, hl7, hr7⟩, hba⟩
  have hca : Below w6.heap.size w6 wa := (Below.refl _ _).drew.trans (hba.mono (Below.refl w6.heap.size w6).drew.size)
  refine ⟨_, rfl, _, (by (simp only [Act.put, List.setIfInBounds_toArray, List.set_cons_zero, List.set_cons_succ]; rfl)), ?_⟩
  refine mx_call (hca) (by kernel_rfl) ?_ (HJ2.out wa hca) ?_
  · (go_simp; done)
  rintro e wb ⟨⟨A8, c8, l8, rfl, hl8, hr8⟩, hbb⟩
  have hcb : Below w6.heap.size w6 wb := hca.trans (hbb.mono hca.size)
  obtain rfl : l7 = l8 := by rw [hl7.out, hl8.out]
  have hjl : l7.length ≤ 1099511627776 := by
    rw [hl7.out]; exact HJL.out
  have HSM := Lib.hid (refSame03_any A7 A8 c7 c8 l7 l7 _ _ wb (hr7.below hbb) (Rd.of_own hr8 (fun _ _ _ => trivial)) hjl)
  rw [show (l7 == l7) = true by simp] at HSM
  clear hl7 hl8 hr7 hr8 hjl
  refine ⟨_, rfl, _, (by (simp only [Act.put, List.setIfInBounds_toArray, List.set_cons_zero, List.set_cons_succ]; rfl)), ?_⟩
  refine mx_call (hcb) (by kernel_rfl) ?_ (HSM.out) ?_
  · (go_simp; done)
  rintro e wc ⟨rfl, hqc⟩
  have hcc : Below w6.heap.size w6 wc := hcb.trans ((Qt.below hqc).mono hcb.size)
  clear HSM
  refine ⟨_, rfl, _, (by (simp only [Act.put, List.setIfInBounds_toArray, List.set_cons_zero, List.set_cons_succ]; rfl)), ?_⟩
  refine mx_val (by kernel_rfl) ⟨_, (by (intro w' hC; clear hC; (try go_simp); (try with_reducible rfl); done)), _, (by (simp only [Act.put, List.setIfInBounds_toArray, List.set_cons_zero, List.set_cons_succ]; rfl)), ?_⟩
  refine mx_move _ (by kernel_rfl) rfl ⟨_, (by ((try simp [go_sem]); (try rfl); done)), _, (by (simp only [Act.put, List.setIfInBounds_toArray, List.set_cons_zero, List.set_cons_succ]; rfl)), ?_⟩
  refine mx_call (hcc) (by kernel_rfl) ?_ (lives42_any wc) ?_
  · (go_simp; done)
  rintro e wd ⟨rfl, hbd⟩
  have hcd : Below w6.heap.size w6 wd := hcc.trans (hbd.mono hcc.size)
  refine ⟨_, rfl, _, (by (simp only [Act.put, List.setIfInBounds_toArray, List.set_cons_zero, List.set_cons_succ]; rfl)), ?_⟩
  refine mx_val (by kernel_rfl) ⟨_, (by (intro w' hC; clear hC; (try go_simp); (try with_reducible rfl); done)), _, (by (simp only [Act.put, List.setIfInBounds_toArray, List.set_cons_zero, List.set_cons_succ]; rfl)), ?_⟩
  refine mx_end hcd ?_
  have hw9 := hw6.trans (hcd.mono hw6.size)
  clear hca hcb hcc hcd hba hbb hbd hqc
  go_wp2_with fail
  go_ret
  exact ⟨rfl, hw9⟩

end Go.Proofs.YtdnljmncdbcgeaaGreat

/- api.Entry: as an argument, in slices. -/
namespace Go.Proofs.YtdnljmncdbcgeaaGreat
open Go.RowKit Go.WideShapes Go.ChangeShapes Go.ChangeAt Go.ChangeMaps Go.Deep Go.Joins

section
variable {H : Type} {enc : TypeId × Value → H} {w : World} {spare : Nat → Bool} {held : Bool}
/-- a struct of fields of any number of cells -/
theorem open_stg {t : TypeId} {fs : Array Field} {N : Nat} (hs : Tryz.prog.underlying t = some (.struct fs)) {n : Nat} {cs : List Value} {x : DataW H × List MemPlace} (h : DataW.trod enc Tryz.prog w 0 spare held n t cs = some x) (hC : Tryz.prog.cellsOf t = N) (hw : Within t x) :
    ∃ (ys : List (DataW H × List MemPlace)) (n' : Nat), cs.length = N ∧ ys.length = fs.size ∧
      ∀ (j : Nat) (f : Field) (y : DataW H × List MemPlace), fs[j]? = some f → ys[j]? = some y → DataW.trod enc Tryz.prog w 0 spare held n' f.type ((cs.drop f.offset).take (Tryz.prog.cellsOf f.type)) = some y ∧ Within f.type y := by
  obtain ⟨xs, n', _, hx, hl, hlen, hg⟩ := DataW.trod_struct hs h
  rw [hC] at hl
  refine ⟨xs, n', hl, hlen, fun j f y hj hy => ⟨by rw [hg j f hj, hy], fun k hk => hw k ?_⟩⟩
  rw [hx]
  simp only [DataW.weights, hs]
  refine DataW.weights_mem_each (j := j) (t := f.type) (d := y.1) ?_ ?_ k hk
  · rw [List.getElem?_map]
    have : fs.toList[j]? = some f := by simpa using hj
    rw [this]; rfl
  · rw [List.getElem?_map, hy]; rfl
theorem list3 {α : Type} {l : List α} (h : l.length = 3) : ∃ a0 a1 a2, l = [a0, a1, a2] := by
  match l, h with
  | [a0, a1, a2], _ => exact ⟨_, _, _, rfl⟩
theorem str_within {b : List UInt8} {p : List MemPlace} (hw : Within 9 ((DataW.lit (Lit.string b) : DataW H), p)) : b.length ≤ 140737488355328 := by
  have h1 := hw b.length (by simp [DataW.weights])
  have h2 := reachBytes_lt
  omega
set_option maxRecDepth 100000 in
theorem open_ent {n : Nat} {cs : List Value} {x : DataW H × List MemPlace} (h : DataW.trod enc Tryz.prog w 0 spare held n 59 cs = some x) (hw : Within 59 x) :
    ∃ o : EV, cs = o.cells ∧ o.ok w (fun b => b < w.heap.size) := by
  obtain ⟨ys, n', hcl, hyl, hf⟩ := open_stg (N := 4) Tryz.underlying59 h (by kernel_rfl) hw
  obtain ⟨a0, a1, a2, a3, rfl⟩ := list4 hcl
  obtain ⟨y0, y1, y2, rfl⟩ := list3 hyl
  obtain ⟨f0, w0⟩ := hf 0 _ _ rfl rfl
  obtain ⟨f1, w1⟩ := hf 1 _ _ rfl rfl
  obtain ⟨f2, w2⟩ := hf 2 _ _ rfl rfl
  have c0 : Tryz.prog.cellsOf 9 = 1 := by kernel_rfl
  have c1 : Tryz.prog.cellsOf 48 = 1 := by kernel_rfl
  have c2 : Tryz.prog.cellsOf 25 = 2 := by kernel_rfl
  replace f0 : DataW.trod enc Tryz.prog w 0 spare held n' 9 (([a0, a1, a2, a3].drop 0).take (Tryz.prog.cellsOf 9)) = some y0 := f0
  replace f1 : DataW.trod enc Tryz.prog w 0 spare held n' 48 (([a0, a1, a2, a3].drop 1).take (Tryz.prog.cellsOf 48)) = some y1 := f1
  replace f2 : DataW.trod enc Tryz.prog w 0 spare held n' 25 (([a0, a1, a2, a3].drop 2).take (Tryz.prog.cellsOf 25)) = some y2 := f2
  rw [c0] at f0
  rw [c1] at f1
  rw [c2] at f2
  obtain ⟨p, e, hx0, _⟩ := DataW.trod_string Tryz.underlying9 f0
  obtain ⟨v, e1, _, wv⟩ := DataW.trod_int Tryz.underlying48 f1
  obtain ⟨o, e2, ho⟩ := open_leaf f2 w2
  obtain rfl : a0 = .string p := by simpa using e
  obtain rfl : a1 = .int .u64 v := by simpa using e1
  obtain ⟨k, xx⟩ := o
  obtain ⟨rfl, rfl⟩ : a2 = .int .i64 k ∧ a3 = .slice xx.A xx.l.length xx.c := by simpa [LV.cells] using e2
  rw [hx0] at w0
  refine ⟨⟨p, v, k, xx⟩, rfl, ho.x, ho.len, ?_, u64_bd wv, ho.k⟩
  have h1 := str_within w0
  have h2 : p.data.toList.length = p.size := by simp
  show p.size ≤ _
  omega
set_option maxRecDepth 100000 in
theorem open_entv {r : Reach} {b0 : Nat} {v : Value} {d : DataW H} {p : List MemPlace} (hv : Value.okWide Tryz.prog w r b0 59 v) (h : DataW.Trod enc Tryz.prog w 0 spare held 59 v d p) (hw : Within 59 (d, p)) :
    ∃ o : EV, v = .agg #[.string o.p, .int .u64 o.v, .int .i64 o.k, .slice o.x.A o.x.l.length o.x.c] ∧ o.ok w (fun b => b < w.heap.size) := by
  obtain ⟨cs, rfl, hsz⟩ := okWide_struct Tryz.underlying59 hv
  obtain ⟨l⟩ := cs
  obtain ⟨n, hn⟩ := h
  obtain ⟨o, e, ho⟩ := open_ent (cs := l) hn hw
  subst e
  exact ⟨o, rfl, ho⟩
set_option maxRecDepth 100000 in
theorem open_ents {n : Nat} {v : Value} {x : DataW H × List MemPlace} (h : DataW.trod enc Tryz.prog w 0 spare held n 45 [v] = some x) (hw : Within 45 x) :
    ∃ (A : Option Addr) (c : Nat) (l : List EV), v = .slice A l.length c ∧ Ents w (fun b => b < w.heap.size) A l := by
  obtain ⟨A, c, l, rfl, _, _, h3, h4, h5⟩ := open_sl (w := w) (enc := enc) (spare := spare) (held := held) EV.cells (fun o => o.ok w (fun b => b < w.heap.size)) 4 56 (t := 45) (e := 59) Tryz.underlying45 (by kernel_rfl) (by kernel_rfl) (by omega) (fun n cs x hx hx2 => open_ent hx hx2) h hw
  refine ⟨A, c, l, rfl, h3, h4, ?_⟩
  have := reachBytes_lt
  omega
end
end Go.Proofs.YtdnljmncdbcgeaaGreat
