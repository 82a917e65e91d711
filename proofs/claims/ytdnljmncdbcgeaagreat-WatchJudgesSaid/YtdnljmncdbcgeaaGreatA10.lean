/- watch: side, at. -/
import Derived.Test.YtdnljmncdbcgeaaGreatA09
import Derived.Lib.BitFns

namespace Go.Proofs.YtdnljmncdbcgeaaGreat
open Go.RowKit Go.Maps

def sideP (gb : Nat) (which : Int) : Option Addr := if which = 1 then some ⟨gb, 1, none⟩ else if which = 2 then some ⟨gb, 3, none⟩ else none
set_option maxHeartbeats 400000 in
theorem side_any (gb : Nat) (which : Int) (w : World) : Calls Tryz.prog 42 #[.pointer (some ⟨gb, 0, none⟩), .int .i64 which] w fun e w' => e = .returned (.pointer (sideP gb which)) ∧ Below w.heap.size w w' := by
  by_cases h1 : which = 1
  · subst h1
    go_enter Tryz.func42, Tryz.ntmps42
    go_wp2_with fail
    go_ret
    exact ⟨rfl, Below.refl _ _⟩
  · by_cases h2 : which = 2
    · subst h2
      go_enter Tryz.func42, Tryz.ntmps42
      go_wp2_with fail
      go_ret
      exact ⟨rfl, Below.refl _ _⟩
    · have hs : sideP gb which = none := by unfold sideP; rw [if_neg h1, if_neg h2]
      rw [hs]
      by_cases h3 : which < 1
      · have e1 : decide (which < 1) = true := decide_eq_true h3
        go_enter Tryz.func42, Tryz.ntmps42
        go_wp2_with fail
        go_ret
        exact ⟨rfl, Below.refl _ _⟩
      · have h4 : 2 < which := by omega
        have e1 : decide (which < 1) = false := decide_eq_false h3
        have e2 : decide (2 < which) = true := decide_eq_true h4
        go_enter Tryz.func42, Tryz.ntmps42
        go_wp2_with fail
        go_ret
        exact ⟨rfl, Below.refl _ _⟩
theorem scan_step {m : Int} {l : List TU} {i : Nat} {o : LP} {n : Nat} {X : LP × Nat} (h : scanG m ((l.drop i).map TU.pl) o n = X) (hi : i < l.length) :
    (m < (l[i].n : Int) → X = (o, l[i].n)) ∧ (¬ m < (l[i].n : Int) → scanG m ((l.drop (i + 1)).map TU.pl) l[i].o.p n = X) := by
  rw [List.drop_eq_getElem_cons hi, List.map_cons] at h
  rw [show (l[i]).pl = ((l[i]).n, (l[i]).o.p) from rfl, scanG] at h
  constructor
  · intro h1; rw [if_pos h1] at h; exact h.symm
  · intro h1; rw [if_neg h1] at h; exact h
theorem scan_end {m : Int} {l : List TU} {o : LP} {n : Nat} {X : LP × Nat} (h : scanG m ((l.drop l.length).map TU.pl) o n = X) : X = (o, n) := by
  rw [List.drop_length] at h
  exact h.symm
theorem tu_at {w : World} {base c : Nat} {A : Option Addr} {l : List TU} {i : Nat} (h : Row w base 111 3 A l.length c (l.flatMap TU.cells)) (hi : i < l.length) :
    ∃ b off, A = some ⟨b, off, none⟩ ∧ b < w.heap.size ∧ w.cell? ⟨b, off + i * 3, none⟩ = some (.int .i64 (l[i].n : Int)) ∧ w.cell? ⟨b, off + i * 3 + 1, none⟩ = some (.int .i64 l[i].o.k) ∧ w.cell? ⟨b, off + i * 3 + 2, none⟩ = some (.slice l[i].o.x.A l[i].o.x.l.length l[i].o.x.c) := by
  obtain ⟨b, off, hA, _, hb, hc⟩ := (h.rd.mono (Z' := fun _ => True) (fun _ _ _ => trivial)).2 (by omega)
  have hg : ∀ j, j < 3 → (l.flatMap TU.cells)[i * 3 + j]? = (TU.cells l[i])[j]? := fun j hj => flat_get (k := 3) tu_len l i j hi hj
  refine ⟨b, off, hA, hb, hc _ _ (hg 0 (by omega)), ?_, ?_⟩
  · rw [Nat.add_assoc]; exact hc _ _ (hg 1 (by omega))
  · rw [Nat.add_assoc]; exact hc _ _ (hg 2 (by omega))
theorem side_nil (which : Int) (w : World) : Calls Tryz.prog 42 #[.pointer none, .int .i64 which] w fun e w' => e = .returned (.pointer none) ∧ Below w.heap.size w w' := by
  go_enter Tryz.func42, Tryz.ntmps42
  go_wp2_with fail
  go_ret
  exact ⟨rfl, Below.refl _ _⟩

set_option maxRecDepth 100000 in
set_option maxHeartbeats 1000000 in
theorem watchAt1_any (col : Nat → Nat) (gb : Nat) (H K : List (List (List UInt8 × LP))) (p : List UInt8) (m : Int) (w : World) (h : LogAt w col gb H K) (hp : p.length ≤ 1048576) (hH : H.length ≤ 300) :
    Calls Tryz.prog 43 #[.pointer (some ⟨gb, 0, none⟩), .int .i64 1, .string ⟨⟨p⟩⟩, .int .i64 m] w fun e w' => ∃ (o : LV) (u : Nat), e = .returned (.tuple #[o.v, .int .i64 (u : Int)]) ∧ Hid (scanG m (turnsG 0 ((0, []) : LP) (H.map fun T => at0 T p)) (0, []) H.length = (o.p, u)) ∧ OwB w' 0 (.slice o.x.A o.x.l.length o.x.c) o.x.l ∧ o.x.l.length ≤ 4096 ∧ Below w.heap.size w w' := by

  obtain ⟨v0, m0, v1, m1, L0, R0, L1, R1, h1, h2, h3, h4, h5⟩ := h.at_
  have HT := Lib.hid h2.turns
  have HR : Hid (∀ p, rowsW R0 p = turnsG 0 ((0, []) : LP) (H.map fun T => at0 T p)) := h4.rows
  have hb0 : Below w.heap.size w (w.alloc (.cells #[.int .i64 0, .slice none 0 0] 25)) := (Below.refl _ _).alloc (Nat.le_refl _) _
  obtain ⟨r, hr⟩ : ∃ r, r = rowO R0 p := ⟨_, rfl⟩
  have hrl : r.l.length ≤ 300 := by
    have := h4.rlen p
    rw [rowsW_O, ← hr, List.length_map] at this
    have := h.len
    omega
  have HSC : Hid (turnsG 0 ((0, []) : LP) (H.map fun T => at0 T p) = r.l.map TU.pl) := Lib.hid (by rw [← HR.out p, rowsW_O, hr])
  obtain ⟨G, hG⟩ : ∃ G, G = turnsG 0 ((0, []) : LP) (H.map fun T => at0 T p) := ⟨_, rfl⟩
  rw [← hG] at HSC ⊢
  have hk0 := Blk.new w 25 #[.int .i64 0, .slice none 0 0]
  have hg0 := h1.below hb0
  have q0 := hg0.cell 0
  have q2 := hg0.cell 2
  simp only [List.getElem?_toArray, List.getElem?_cons_zero, List.getElem?_cons_succ] at q0 q2
  have HROW := Lib.hid (fun W (hW : Below w.heap.size w W) => (HT.out.below hW).rowO_row p)
  have HOWN := Lib.hid (fun W (hW : Below w.heap.size w W) => (HT.out.below hW).rowO_own p)
  have HLK := Lib.hid (fun W (hW : Below (w.alloc (.cells #[.int .i64 0, .slice none 0 0] 25)).heap.size (w.alloc (.cells #[.int .i64 0, .slice none 0 0] 25)) W) => (HT.out.below (hb0.trans (hW.mono hb0.size))).look p (by simp only [maxLen]; omega))
  rw [← hr] at HROW HOWN HLK
  have hgl := h1.lt
  obtain ⟨n, hn⟩ : ∃ n, n = H.length := ⟨_, rfl⟩
  rw [← hn] at q0 ⊢
  clear hn
  obtain ⟨lb, hlb⟩ : ∃ lb, lb = w.heap.size := ⟨_, rfl⟩
  rw [← hlb] at hk0
  have hlb2 : w.heap.size ≤ lb := by omega
  obtain ⟨X, hX⟩ : ∃ X, X = scanG m G (0, []) n := ⟨_, rfl⟩
  rw [← hX]
  have HX0 : Hid (scanG m ((r.l.drop 0).map TU.pl) (0, []) n = X) := Lib.hid (by rw [hX, HSC.out]; rfl)
  clear h h1 h2 h3 h4 h5 hr hG HT HR hg0 hX
  go_enter Tryz.func43, Tryz.ntmps43
  go_upto_region 2 with (fail)
  rw [← hlb]
  clear hlb
  generalize w.alloc (.cells #[.int .i64 0, .slice none 0 0] 25) = w0 at *
  go_wp2_with fail
  refine (side_any gb 1 w0).mono ?_
  rintro e w1 ⟨rfl, hb1⟩
  rw [show sideP gb 1 = some ⟨gb, 1, none⟩ from rfl]
  have hw1 := hb0.trans (hb1.mono hb0.size)
  have hq2 := (cellAt hb1 (Nat.lt_of_lt_of_le hgl hb0.size) q2)
  have hk1 := hk0.below hb1
  have hlook1 := HLK.out w1 hb1
  clear q0 q2 hk0
  go_wp2_with fail
  go_loopw [9, 25] (fun uv iv wr => ∃ (i : Nat) (o : LV), i ≤ r.l.length ∧ iv = .int .i64 (i : Int) ∧ uv = .int .i64 (n : Int) ∧ Blk wr lb 25 #[.int .i64 o.k, .slice o.x.A o.x.l.length o.x.c] ∧ Hid (scanG m ((r.l.drop i).map TU.pl) o.p n = X) ∧ OwB wr 0 (.slice o.x.A o.x.l.length o.x.c) o.x.l ∧ o.x.l.length ≤ 4096 ∧ Below w.heap.size w wr) (fun _ iv _ => r.l.length - (intOf iv).toNat)
  case atStart => exact ⟨0, ⟨0, ⟨none, 0, []⟩⟩, Nat.zero_le _, rfl, rfl, hk1, HX0, OwB.nil _ _, by simp, hw1⟩
  case round =>
    obtain ⟨i, o, hi, rfl, rfl, hk, hs, ho, hol, hb⟩ := hrel
    by_cases hlt : i < r.l.length
    · obtain ⟨b, off, hA, hbb, c0, c1, c2⟩ := tu_at (HROW.out wr hb) hlt
      have ht := HOWN.out wr hb _ (List.getElem_mem hlt)
      obtain ⟨s1, s2⟩ := scan_step hs.out hlt
      have S1 := Lib.hid s1
      have S2 := Lib.hid s2
      obtain ⟨t, ht'⟩ : ∃ t, t = r.l[i] := ⟨_, rfl⟩
      rw [← ht'] at c0 c1 c2 ht S1 S2
      have hv : Value.slice r.A r.l.length r.c = .slice (some ⟨b, off, none⟩) r.l.length r.c := by rw [hA]
      have hba : Below wr.heap.size wr (wr.alloc (.cells #[.int .i64 (t.n : Int), .int .i64 t.o.k, .slice t.o.x.A t.o.x.l.length t.o.x.c] 111)) := (Below.refl _ _).alloc (Nat.le_refl _) _
      have hz := Blk.new wr 111 #[.int .i64 (t.n : Int), .int .i64 t.o.k, .slice t.o.x.A t.o.x.l.length t.o.x.c]
      have hk2 := hk.below hba
      have hw2 := hb.trans (hba.mono hb.size)
      have ho2 := ho.below hba
      have ht2 := OwB.below ht.1 hba
      have htl := ht.2
      have hkl := hk.lt
      clear s1 s2 ht' hs ho ht hk
      go_upto_region 5 with (fail)
      obtain ⟨zb, hzb⟩ : ∃ zb, zb = wr.heap.size := ⟨_, rfl⟩
      rw [← hzb] at hz ⊢
      clear hzb
      generalize wr.alloc (.cells #[.int .i64 (t.n : Int), .int .i64 t.o.k, .slice t.o.x.A t.o.x.l.length t.o.x.c] 111) = w2 at *
      have z0 := hz.cell 0
      have z1 := hz.cell 1
      have z2 := hz.cell 2
      have k0 := hk2.cell 0
      have k1 := hk2.cell 1
      simp only [List.getElem?_toArray, List.getElem?_cons_zero, List.getElem?_cons_succ] at z0 z1 z2 k0 k1
      clear c0 c1 c2 hv hba
      by_cases hm : m < (t.n : Int)
      · have hmd : decide (m < (t.n : Int)) = true := decide_eq_true hm
        have HXE := Lib.hid (S1.out hm)
        go_wp2_with fail
        have hne : ¬ zb = lb := hz.ne_ hk2 (by decide)
        have hC0 : Fr (fun x => x = lb) w2 w2.drew := (Fr.refl _ w2).drew
        clear z0 z1 z2 k0 k1
        refine wp_region_line (.tell 1 (.tell 2 (.one 0 (.one 3 .done)))) (fun W => Fr (fun x => x = lb) w2 W) (by kernel_rfl) (by kernel_rfl) ?_
        refine pl_val (by (simp only [List.getElem?_toArray, List.getElem?_cons_succ, List.getElem?_cons_zero]; rfl)) (by kernel_rfl) ⟨_, (by (intro w' hC; clear hC; (try go_simp); (try with_reducible rfl); done)), _, (by (simp only [Act.put, List.setIfInBounds_toArray, List.set_cons_zero, List.set_cons_succ]; rfl)), ?_⟩
        refine pl_val (by (simp only [List.getElem?_toArray, List.getElem?_cons_succ, List.getElem?_cons_zero]; rfl)) (by kernel_rfl) ⟨_, (by (intro w' hC; have z0 := (hz.fr hC hne).cell 0; simp only [List.getElem?_toArray, List.getElem?_cons_zero] at z0; clear hC; (try go_simp); (try with_reducible rfl); done)), _, (by (simp only [Act.put, List.setIfInBounds_toArray, List.set_cons_zero, List.set_cons_succ]; rfl)), ?_⟩
        have kd := hk2.drew
        have hw3 := hw2.trans ((Below.refl w2.heap.size w2).drew.mono hw2.size)
        have hod : OwB w2.drew 0 (.slice o.x.A o.x.l.length o.x.c) o.x.l := OwB.below ho2 (Below.refl _ _).drew
        generalize w2.drew = wd at *
        have d0 := kd.cell 0
        have d1 := kd.cell 1
        simp only [List.getElem?_toArray, List.getElem?_cons_zero, List.getElem?_cons_succ] at d0 d1
        have fz := fun j => kd.frozen j
        refine pl_one (by (simp only [List.getElem?_toArray, List.getElem?_cons_zero]; rfl)) hC0 ?_
        refine al_val (by kernel_rfl) ⟨_, _, (by (go_simp; first | done | exact ⟨rfl, rfl⟩)), _, (by (simp only [Act.put, List.setIfInBounds_toArray, List.set_cons_zero, List.set_cons_succ]; rfl)), ?_⟩
        refine pl_one (by (simp only [List.getElem?_toArray, List.getElem?_cons_succ, List.getElem?_cons_zero]; rfl)) hC0 ?_
        refine al_skip (by kernel_rfl) ⟨_, (by (go_simp; first | done | rfl)), _, (by (simp only [Act.put]; rfl)), ?_⟩
        refine pl_end ((hC0.setAt lb _ rfl _).setAt lb _ rfl _) ?_
        simp only [Plan.count, Nat.reduceAdd, List.drop_succ_cons, List.drop_zero]
        have kE := (kd.set_ 0 (.int .i64 o.k)).set_ 1 (.slice o.x.A o.x.l.length o.x.c)
        simp only [List.setIfInBounds_toArray, List.set_cons_zero, List.set_cons_succ] at kE
        have kF : Fr (fun x => x = lb) wd ((wd.setCell ⟨lb, 0, none⟩ (.int .i64 o.k)).setCell ⟨lb, 1, none⟩ (.slice o.x.A o.x.l.length o.x.c)) := ((Fr.refl (fun x => x = lb) wd).setAt lb _ rfl _).setAt lb _ rfl _
        have hwE : Below w.heap.size w ((wd.setCell ⟨lb, 0, none⟩ (.int .i64 o.k)).setCell ⟨lb, 1, none⟩ (.slice o.x.A o.x.l.length o.x.c)) := hw3.trans (kF.below (B := w.heap.size) hw3.size (fun k hk e => by omega))
        have hoE := own_fr hod kF (fun g hg e => kd.own_ne hod (by decide) (e ▸ hg))
        go_wp2_with fail
        generalize (wd.setCell ⟨lb, 0, none⟩ (.int .i64 o.k)).setCell ⟨lb, 1, none⟩ (.slice o.x.A o.x.l.length o.x.c) = wE at *
        have e0 := kE.cell 0
        have e1 := kE.cell 1
        simp only [List.getElem?_toArray, List.getElem?_cons_zero, List.getElem?_cons_succ] at e0 e1
        refine bodyPost_ret (v := .tuple #[.agg #[.int .i64 o.k, .slice o.x.A o.x.l.length o.x.c], .int .i64 (t.n : Int)]) (by simp [results, Tryz.results43, go_sem, e0, e1]) rfl ?_
        exact ⟨o, t.n, rfl, HXE, hoE, hol, hwE⟩
      · have hmd : decide (m < (t.n : Int)) = false := decide_eq_false hm
        have HXE := Lib.hid (S2.out hm)
        have fz := fun j => hk2.frozen j
        have kE := (hk2.set_ 0 (.int .i64 t.o.k)).set_ 1 (.slice t.o.x.A t.o.x.l.length t.o.x.c)
        simp only [List.setIfInBounds_toArray, List.set_cons_zero, List.set_cons_succ] at kE
        have kF : Fr (fun x => x = lb) w2 ((w2.setCell ⟨lb, 0, none⟩ (.int .i64 t.o.k)).setCell ⟨lb, 1, none⟩ (.slice t.o.x.A t.o.x.l.length t.o.x.c)) := ((Fr.refl (fun x => x = lb) w2).setAt lb _ rfl _).setAt lb _ rfl _
        have hwE : Below w.heap.size w ((w2.setCell ⟨lb, 0, none⟩ (.int .i64 t.o.k)).setCell ⟨lb, 1, none⟩ (.slice t.o.x.A t.o.x.l.length t.o.x.c)) := hw2.trans (kF.below (B := w.heap.size) hw2.size (fun k hk e => by omega))
        have hoE := own_fr ht2 kF (fun g hg e => hk2.own_ne ht2 (by decide) (e ▸ hg))
        clear S1 S2 hz ho2 ht2 hk2
        go_wp2_with fail
        go_roundw
        case rel => exact ⟨i + 1, t.o, hlt, by go_num, rfl, kE, HXE, hoE, htl, hwE⟩
        case measure => simp [intOf]; omega
    · have e : i = r.l.length := by omega
      subst e
      have HXE := Lib.hid (scan_end hs.out)
      have k0 := hk.cell 0
      have k1 := hk.cell 1
      simp only [List.getElem?_toArray, List.getElem?_cons_zero, List.getElem?_cons_succ] at k0 k1
      have fz := fun j => hk.frozen j
      have kE := (hk.set_ 0 (.int .i64 o.k)).set_ 1 (.slice o.x.A o.x.l.length o.x.c)
      simp only [List.setIfInBounds_toArray, List.set_cons_zero, List.set_cons_succ] at kE
      have kF : Fr (fun x => x = lb) wr ((wr.setCell ⟨lb, 0, none⟩ (.int .i64 o.k)).setCell ⟨lb, 1, none⟩ (.slice o.x.A o.x.l.length o.x.c)) := ((Fr.refl (fun x => x = lb) wr).setAt lb _ rfl _).setAt lb _ rfl _
      have hwE : Below w.heap.size w ((wr.setCell ⟨lb, 0, none⟩ (.int .i64 o.k)).setCell ⟨lb, 1, none⟩ (.slice o.x.A o.x.l.length o.x.c)) := hb.trans (kF.below (B := w.heap.size) hb.size (fun k hk e => by omega))
      have hoE := own_fr ho kF (fun g hg e => hk.own_ne ho (by decide) (e ▸ hg))
      go_wp2_with fail
      generalize (wr.setCell ⟨lb, 0, none⟩ (.int .i64 o.k)).setCell ⟨lb, 1, none⟩ (.slice o.x.A o.x.l.length o.x.c) = wE at *
      have e0 := kE.cell 0
      have e1 := kE.cell 1
      simp only [List.getElem?_toArray, List.getElem?_cons_zero, List.getElem?_cons_succ] at e0 e1
      refine bodyPost_ret (v := .tuple #[.agg #[.int .i64 o.k, .slice o.x.A o.x.l.length o.x.c], .int .i64 (n : Int)]) (by simp [results, Tryz.results43, go_sem, e0, e1]) rfl ?_
      exact ⟨o, n, rfl, HXE, hoE, hol, hwE⟩


set_option maxRecDepth 100000 in
set_option maxHeartbeats 1000000 in
theorem watchAt2_any (col : Nat → Nat) (gb : Nat) (H K : List (List (List UInt8 × LP))) (p : List UInt8) (m : Int) (w : World) (h : LogAt w col gb H K) (hp : p.length ≤ 1048576) (hH : H.length ≤ 300) :
    Calls Tryz.prog 43 #[.pointer (some ⟨gb, 0, none⟩), .int .i64 2, .string ⟨⟨p⟩⟩, .int .i64 m] w fun e w' => ∃ (o : LV) (u : Nat), e = .returned (.tuple #[o.v, .int .i64 (u : Int)]) ∧ Hid (scanG m (turnsG 0 ((0, []) : LP) (K.map fun T => at0 T p)) (0, []) H.length = (o.p, u)) ∧ OwB w' 0 (.slice o.x.A o.x.l.length o.x.c) o.x.l ∧ o.x.l.length ≤ 4096 ∧ Below w.heap.size w w' := by

  obtain ⟨v0, m0, v1, m1, L0, R0, L1, R1, h1, h2, h3, h4, h5⟩ := h.at_
  have HT := Lib.hid h3.turns
  have HR : Hid (∀ p, rowsW R1 p = turnsG 0 ((0, []) : LP) (K.map fun T => at0 T p)) := h5.rows
  have hb0 : Below w.heap.size w (w.alloc (.cells #[.int .i64 0, .slice none 0 0] 25)) := (Below.refl _ _).alloc (Nat.le_refl _) _
  obtain ⟨r, hr⟩ : ∃ r, r = rowO R1 p := ⟨_, rfl⟩
  have hrl : r.l.length ≤ 300 := by
    have := h5.rlen p
    rw [rowsW_O, ← hr, List.length_map] at this
    have := h.len
    omega
  have HSC : Hid (turnsG 0 ((0, []) : LP) (K.map fun T => at0 T p) = r.l.map TU.pl) := Lib.hid (by rw [← HR.out p, rowsW_O, hr])
  obtain ⟨G, hG⟩ : ∃ G, G = turnsG 0 ((0, []) : LP) (K.map fun T => at0 T p) := ⟨_, rfl⟩
  rw [← hG] at HSC ⊢
  have hk0 := Blk.new w 25 #[.int .i64 0, .slice none 0 0]
  have hg0 := h1.below hb0
  have q0 := hg0.cell 0
  have q2 := hg0.cell 4
  simp only [List.getElem?_toArray, List.getElem?_cons_zero, List.getElem?_cons_succ] at q0 q2
  have HROW := Lib.hid (fun W (hW : Below w.heap.size w W) => (HT.out.below hW).rowO_row p)
  have HOWN := Lib.hid (fun W (hW : Below w.heap.size w W) => (HT.out.below hW).rowO_own p)
  have HLK := Lib.hid (fun W (hW : Below (w.alloc (.cells #[.int .i64 0, .slice none 0 0] 25)).heap.size (w.alloc (.cells #[.int .i64 0, .slice none 0 0] 25)) W) => (HT.out.below (hb0.trans (hW.mono hb0.size))).look p (by simp only [maxLen]; omega))
  rw [← hr] at HROW HOWN HLK
  have hgl := h1.lt
  obtain ⟨n, hn⟩ : ∃ n, n = H.length := ⟨_, rfl⟩
  rw [← hn] at q0 ⊢
  clear hn
  obtain ⟨lb, hlb⟩ : ∃ lb, lb = w.heap.size := ⟨_, rfl⟩
  rw [← hlb] at hk0
  have hlb2 : w.heap.size ≤ lb := by omega
  obtain ⟨X, hX⟩ : ∃ X, X = scanG m G (0, []) n := ⟨_, rfl⟩
  rw [← hX]
  have HX0 : Hid (scanG m ((r.l.drop 0).map TU.pl) (0, []) n = X) := Lib.hid (by rw [hX, HSC.out]; rfl)
  clear h h1 h2 h3 h4 h5 hr hG HT HR hg0 hX
  go_enter Tryz.func43, Tryz.ntmps43
  go_upto_region 2 with (fail)
  rw [← hlb]
  clear hlb
  generalize w.alloc (.cells #[.int .i64 0, .slice none 0 0] 25) = w0 at *
  go_wp2_with fail
  refine (side_any gb 2 w0).mono ?_
  rintro e w1 ⟨rfl, hb1⟩
  rw [show sideP gb 2 = some ⟨gb, 3, none⟩ from rfl]
  have hw1 := hb0.trans (hb1.mono hb0.size)
  have hq2 := (cellAt hb1 (Nat.lt_of_lt_of_le hgl hb0.size) q2)
  have hk1 := hk0.below hb1
  have hlook1 := HLK.out w1 hb1
  clear q0 q2 hk0
  go_wp2_with fail
  go_loopw [9, 25] (fun uv iv wr => ∃ (i : Nat) (o : LV), i ≤ r.l.length ∧ iv = .int .i64 (i : Int) ∧ uv = .int .i64 (n : Int) ∧ Blk wr lb 25 #[.int .i64 o.k, .slice o.x.A o.x.l.length o.x.c] ∧ Hid (scanG m ((r.l.drop i).map TU.pl) o.p n = X) ∧ OwB wr 0 (.slice o.x.A o.x.l.length o.x.c) o.x.l ∧ o.x.l.length ≤ 4096 ∧ Below w.heap.size w wr) (fun _ iv _ => r.l.length - (intOf iv).toNat)
  case atStart => exact ⟨0, ⟨0, ⟨none, 0, []⟩⟩, Nat.zero_le _, rfl, rfl, hk1, HX0, OwB.nil _ _, by simp, hw1⟩
  case round =>
    obtain ⟨i, o, hi, rfl, rfl, hk, hs, ho, hol, hb⟩ := hrel
    by_cases hlt : i < r.l.length
    · obtain ⟨b, off, hA, hbb, c0, c1, c2⟩ := tu_at (HROW.out wr hb) hlt
      have ht := HOWN.out wr hb _ (List.getElem_mem hlt)
      obtain ⟨s1, s2⟩ := scan_step hs.out hlt
      have S1 := Lib.hid s1
      have S2 := Lib.hid s2
      obtain ⟨t, ht'⟩ : ∃ t, t = r.l[i] := ⟨_, rfl⟩
      rw [← ht'] at c0 c1 c2 ht S1 S2
      have hv : Value.slice r.A r.l.length r.c = .slice (some ⟨b, off, none⟩) r.l.length r.c := by rw [hA]
      have hba : Below wr.heap.size wr (wr.alloc (.cells #[.int .i64 (t.n : Int), .int .i64 t.o.k, .slice t.o.x.A t.o.x.l.length t.o.x.c] 111)) := (Below.refl _ _).alloc (Nat.le_refl _) _
      have hz := Blk.new wr 111 #[.int .i64 (t.n : Int), .int .i64 t.o.k, .slice t.o.x.A t.o.x.l.length t.o.x.c]
      have hk2 := hk.below hba
      have hw2 := hb.trans (hba.mono hb.size)
      have ho2 := ho.below hba
      have ht2 := OwB.below ht.1 hba
      have htl := ht.2
      have hkl := hk.lt
      clear s1 s2 ht' hs ho ht hk
      go_upto_region 5 with (fail)
      obtain ⟨zb, hzb⟩ : ∃ zb, zb = wr.heap.size := ⟨_, rfl⟩
      rw [← hzb] at hz ⊢
      clear hzb
      generalize wr.alloc (.cells #[.int .i64 (t.n : Int), .int .i64 t.o.k, .slice t.o.x.A t.o.x.l.length t.o.x.c] 111) = w2 at *
      have z0 := hz.cell 0
      have z1 := hz.cell 1
      have z2 := hz.cell 2
      have k0 := hk2.cell 0
      have k1 := hk2.cell 1
      simp only [List.getElem?_toArray, List.getElem?_cons_zero, List.getElem?_cons_succ] at z0 z1 z2 k0 k1
      clear c0 c1 c2 hv hba
      by_cases hm : m < (t.n : Int)
      · have hmd : decide (m < (t.n : Int)) = true := decide_eq_true hm
        have HXE := Lib.hid (S1.out hm)
        go_wp2_with fail
        have hne : ¬ zb = lb := hz.ne_ hk2 (by decide)
        have hC0 : Fr (fun x => x = lb) w2 w2.drew := (Fr.refl _ w2).drew
        clear z0 z1 z2 k0 k1
        refine wp_region_line (.tell 1 (.tell 2 (.one 0 (.one 3 .done)))) (fun W => Fr (fun x => x = lb) w2 W) (by kernel_rfl) (by kernel_rfl) ?_
        refine pl_val (by (simp only [List.getElem?_toArray, List.getElem?_cons_succ, List.getElem?_cons_zero]; rfl)) (by kernel_rfl) ⟨_, (by (intro w' hC; clear hC; (try go_simp); (try with_reducible rfl); done)), _, (by (simp only [Act.put, List.setIfInBounds_toArray, List.set_cons_zero, List.set_cons_succ]; rfl)), ?_⟩
        refine pl_val (by (simp only [List.getElem?_toArray, List.getElem?_cons_succ, List.getElem?_cons_zero]; rfl)) (by kernel_rfl) ⟨_, (by (intro w' hC; have z0 := (hz.fr hC hne).cell 0; simp only [List.getElem?_toArray, List.getElem?_cons_zero] at z0; clear hC; (try go_simp); (try with_reducible rfl); done)), _, (by (simp only [Act.put, List.setIfInBounds_toArray, List.set_cons_zero, List.set_cons_succ]; rfl)), ?_⟩
        have kd := hk2.drew
        have hw3 := hw2.trans ((Below.refl w2.heap.size w2).drew.mono hw2.size)
        have hod : OwB w2.drew 0 (.slice o.x.A o.x.l.length o.x.c) o.x.l := OwB.below ho2 (Below.refl _ _).drew
        generalize w2.drew = wd at *
        have d0 := kd.cell 0
        have d1 := kd.cell 1
        simp only [List.getElem?_toArray, List.getElem?_cons_zero, List.getElem?_cons_succ] at d0 d1
        have fz := fun j => kd.frozen j
        refine pl_one (by (simp only [List.getElem?_toArray, List.getElem?_cons_zero]; rfl)) hC0 ?_
        refine al_val (by kernel_rfl) ⟨_, _, (by (go_simp; first | done | exact ⟨rfl, rfl⟩)), _, (by (simp only [Act.put, List.setIfInBounds_toArray, List.set_cons_zero, List.set_cons_succ]; rfl)), ?_⟩
        refine pl_one (by (simp only [List.getElem?_toArray, List.getElem?_cons_succ, List.getElem?_cons_zero]; rfl)) hC0 ?_
        refine al_skip (by kernel_rfl) ⟨_, (by (go_simp; first | done | rfl)), _, (by (simp only [Act.put]; rfl)), ?_⟩
        refine pl_end ((hC0.setAt lb _ rfl _).setAt lb _ rfl _) ?_
        simp only [Plan.count, Nat.reduceAdd, List.drop_succ_cons, List.drop_zero]
        have kE := (kd.set_ 0 (.int .i64 o.k)).set_ 1 (.slice o.x.A o.x.l.length o.x.c)
        simp only [List.setIfInBounds_toArray, List.set_cons_zero, List.set_cons_succ] at kE
        have kF : Fr (fun x => x = lb) wd ((wd.setCell ⟨lb, 0, none⟩ (.int .i64 o.k)).setCell ⟨lb, 1, none⟩ (.slice o.x.A o.x.l.length o.x.c)) := ((Fr.refl (fun x => x = lb) wd).setAt lb _ rfl _).setAt lb _ rfl _
        have hwE : Below w.heap.size w ((wd.setCell ⟨lb, 0, none⟩ (.int .i64 o.k)).setCell ⟨lb, 1, none⟩ (.slice o.x.A o.x.l.length o.x.c)) := hw3.trans (kF.below (B := w.heap.size) hw3.size (fun k hk e => by omega))
        have hoE := own_fr hod kF (fun g hg e => kd.own_ne hod (by decide) (e ▸ hg))
        go_wp2_with fail
        generalize (wd.setCell ⟨lb, 0, none⟩ (.int .i64 o.k)).setCell ⟨lb, 1, none⟩ (.slice o.x.A o.x.l.length o.x.c) = wE at *
        have e0 := kE.cell 0
        have e1 := kE.cell 1
        simp only [List.getElem?_toArray, List.getElem?_cons_zero, List.getElem?_cons_succ] at e0 e1
        refine bodyPost_ret (v := .tuple #[.agg #[.int .i64 o.k, .slice o.x.A o.x.l.length o.x.c], .int .i64 (t.n : Int)]) (by simp [results, Tryz.results43, go_sem, e0, e1]) rfl ?_
        exact ⟨o, t.n, rfl, HXE, hoE, hol, hwE⟩
      · have hmd : decide (m < (t.n : Int)) = false := decide_eq_false hm
        have HXE := Lib.hid (S2.out hm)
        have fz := fun j => hk2.frozen j
        have kE := (hk2.set_ 0 (.int .i64 t.o.k)).set_ 1 (.slice t.o.x.A t.o.x.l.length t.o.x.c)
        simp only [List.setIfInBounds_toArray, List.set_cons_zero, List.set_cons_succ] at kE
        have kF : Fr (fun x => x = lb) w2 ((w2.setCell ⟨lb, 0, none⟩ (.int .i64 t.o.k)).setCell ⟨lb, 1, none⟩ (.slice t.o.x.A t.o.x.l.length t.o.x.c)) := ((Fr.refl (fun x => x = lb) w2).setAt lb _ rfl _).setAt lb _ rfl _
        have hwE : Below w.heap.size w ((w2.setCell ⟨lb, 0, none⟩ (.int .i64 t.o.k)).setCell ⟨lb, 1, none⟩ (.slice t.o.x.A t.o.x.l.length t.o.x.c)) := hw2.trans (kF.below (B := w.heap.size) hw2.size (fun k hk e => by omega))
        have hoE := own_fr ht2 kF (fun g hg e => hk2.own_ne ht2 (by decide) (e ▸ hg))
        clear S1 S2 hz ho2 ht2 hk2
        go_wp2_with fail
        go_roundw
        case rel => exact ⟨i + 1, t.o, hlt, by go_num, rfl, kE, HXE, hoE, htl, hwE⟩
        case measure => simp [intOf]; omega
    · have e : i = r.l.length := by omega
      subst e
      have HXE := Lib.hid (scan_end hs.out)
      have k0 := hk.cell 0
      have k1 := hk.cell 1
      simp only [List.getElem?_toArray, List.getElem?_cons_zero, List.getElem?_cons_succ] at k0 k1
      have fz := fun j => hk.frozen j
      have kE := (hk.set_ 0 (.int .i64 o.k)).set_ 1 (.slice o.x.A o.x.l.length o.x.c)
      simp only [List.setIfInBounds_toArray, List.set_cons_zero, List.set_cons_succ] at kE
      have kF : Fr (fun x => x = lb) wr ((wr.setCell ⟨lb, 0, none⟩ (.int .i64 o.k)).setCell ⟨lb, 1, none⟩ (.slice o.x.A o.x.l.length o.x.c)) := ((Fr.refl (fun x => x = lb) wr).setAt lb _ rfl _).setAt lb _ rfl _
      have hwE : Below w.heap.size w ((wr.setCell ⟨lb, 0, none⟩ (.int .i64 o.k)).setCell ⟨lb, 1, none⟩ (.slice o.x.A o.x.l.length o.x.c)) := hb.trans (kF.below (B := w.heap.size) hb.size (fun k hk e => by omega))
      have hoE := own_fr ho kF (fun g hg e => hk.own_ne ho (by decide) (e ▸ hg))
      go_wp2_with fail
      generalize (wr.setCell ⟨lb, 0, none⟩ (.int .i64 o.k)).setCell ⟨lb, 1, none⟩ (.slice o.x.A o.x.l.length o.x.c) = wE at *
      have e0 := kE.cell 0
      have e1 := kE.cell 1
      simp only [List.getElem?_toArray, List.getElem?_cons_zero, List.getElem?_cons_succ] at e0 e1
      refine bodyPost_ret (v := .tuple #[.agg #[.int .i64 o.k, .slice o.x.A o.x.l.length o.x.c], .int .i64 (n : Int)]) (by simp [results, Tryz.results43, go_sem, e0, e1]) rfl ?_
      exact ⟨o, n, rfl, HXE, hoE, hol, hwE⟩

end Go.Proofs.YtdnljmncdbcgeaaGreat

/- watch: At, some, Held, Common, Turns. -/
namespace Go.Proofs.YtdnljmncdbcgeaaGreat
open Go.RowKit Go.Maps

def sideS (H K : List (List (List UInt8 × LP))) (which : Int) : List (List (List UInt8 × LP)) := if which = 1 then H else if which = 2 then K else []
/-- what stood at a path at a moment -/
def atS (H : List (List (List UInt8 × LP))) (p : List UInt8) (m : Int) : LP := if 0 ≤ m ∧ m < (H.length : Int) then at0 (H[m.toNat]?.getD []) p else (0, [])
theorem scan_at {H : List (List (List UInt8 × LP))} {p : List UInt8} {k u : Nat} {x : LP} (h : scanG (k : Int) (turnsG 0 ((0, []) : LP) (H.map fun T => at0 T p)) (0, []) H.length = (x, u)) (hk : k < H.length) :
    x = at0 (H[k]?.getD []) p ∧ k < u ∧ u ≤ H.length ∧ ∀ j, k ≤ j → j < u → at0 (H[j]?.getD []) p = x := by
  obtain ⟨_, h2⟩ := scan_turns (H.map fun T => at0 T p) 0 ((0, []) : LP) (k : Int)
  rw [List.length_map, Nat.zero_add, h] at h2
  obtain ⟨a, b, c, d⟩ := h2 k rfl (Nat.zero_le _) hk
  have hg : ∀ j (y : LP), (H.map fun T => at0 T p)[j - 0]? = some y → at0 (H[j]?.getD []) p = y := by
    intro j y e
    rw [Nat.sub_zero, List.getElem?_map] at e
    rcases hj : H[j]? with _ | T
    · rw [hj] at e; cases e
    · rw [hj] at e; injection e
  exact ⟨(hg k x a).symm, b, c, fun j h1 h2 => hg j x (d j h1 h2)⟩
theorem atS_nat {H : List (List (List UInt8 × LP))} {p : List UInt8} {k : Nat} (h : k < H.length) : atS H p (k : Int) = at0 (H[k]?.getD []) p := by
  unfold atS
  rw [if_pos ⟨by omega, by omega⟩]
  rfl
theorem log_len {w : World} {col : Nat → Nat} {gb : Nat} {H K : List (List (List UInt8 × LP))} (h : LogAt w col gb H K) {which : Int} (hw : which = 1 ∨ which = 2) : (sideS H K which).length = H.length := by
  unfold sideS
  rcases hw with rfl | rfl
  · rfl
  · exact h.len.symm
theorem watchAt_any (col : Nat → Nat) (gb : Nat) (H K : List (List (List UInt8 × LP))) (which : Int) (p : List UInt8) (m : Int) (w : World) (h : LogAt w col gb H K) (hp : p.length ≤ 1048576) (hH : H.length ≤ 300) (hw : which = 1 ∨ which = 2) :
    Calls Tryz.prog 43 #[.pointer (some ⟨gb, 0, none⟩), .int .i64 which, .string ⟨⟨p⟩⟩, .int .i64 m] w fun e w' => ∃ (o : LV) (u : Nat), e = .returned (.tuple #[o.v, .int .i64 (u : Int)]) ∧ Hid (scanG m (turnsG 0 ((0, []) : LP) ((sideS H K which).map fun T => at0 T p)) (0, []) (sideS H K which).length = (o.p, u)) ∧ OwB w' 0 (.slice o.x.A o.x.l.length o.x.c) o.x.l ∧ o.x.l.length ≤ 4096 ∧ Below w.heap.size w w' := by
  rw [log_len h hw]
  rcases hw with rfl | rfl
  · exact watchAt1_any col gb H K p m w h hp hH
  · exact watchAt2_any col gb H K p m w h hp hH
theorem sideP_none {gb : Nat} {which : Int} (h : ¬ (which = 1 ∨ which = 2)) : sideP gb which = none := by
  unfold sideP
  rw [if_neg (fun e => h (.inl e)), if_neg (fun e => h (.inr e))]
theorem sideP_some {gb : Nat} {which : Int} (h : which = 1 ∨ which = 2) : ∃ o, sideP gb which = some ⟨gb, o, none⟩ := by
  rcases h with rfl | rfl
  · exact ⟨1, rfl⟩
  · exact ⟨3, rfl⟩
theorem sideS_none {H K : List (List (List UInt8 × LP))} {which : Int} (h : ¬ (which = 1 ∨ which = 2)) : sideS H K which = [] := by
  unfold sideS
  rw [if_neg (fun e => h (.inl e)), if_neg (fun e => h (.inr e))]
/-- a leaf told: its bytes are the caller's own -/
def LeafTold (w : World) (base : Nat) (e : Ending) (x : LP) : Prop :=
  ∃ (k : Int) (A : Option Addr) (c : Nat) (l : List UInt8), e = .returned (.agg #[.int .i64 k, .slice A l.length c]) ∧ Hid ((k, l) = x) ∧ OwB w base (.slice A l.length c) l ∧ l.length ≤ 4096

set_option maxRecDepth 100000 in
set_option maxHeartbeats 1000000 in
theorem logAt_any (col : Nat → Nat) (gb : Nat) (H K : List (List (List UInt8 × LP))) (which : Int) (p : List UInt8) (m : Int) (w : World) (h : LogAt w col gb H K) (hp : p.length ≤ 1048576) (hH : H.length ≤ 300) :
    Calls Tryz.prog 10 #[.pointer (some ⟨gb, 0, none⟩), .int .i64 which, .string ⟨⟨p⟩⟩, .int .i64 m] w fun e w' => LeafTold w' w.heap.size e (atS (sideS H K which) p m) ∧ Below w.heap.size w w' := by
  obtain ⟨v0, m0, v1, m1, L0, R0, L1, R1, h1, _⟩ := h.at_
  have hb0 : Below w.heap.size w (w.alloc (.cells #[.int .i64 0, .slice none 0 0] 25)) := (Below.refl _ _).alloc (Nat.le_refl _) _
  have hk0 := Blk.new w 25 #[.int .i64 0, .slice none 0 0]
  have hg0 := h1.below hb0
  have HL := Lib.hid h
  obtain ⟨X, hX⟩ : ∃ X, X = atS (sideS H K which) p m := ⟨_, rfl⟩
  rw [← hX]
  have HX := Lib.hid hX
  obtain ⟨lb, hlb⟩ : ∃ lb, lb = w.heap.size := ⟨_, rfl⟩
  rw [← hlb] at hk0
  have hlb2 : w.heap.size ≤ lb := by omega
  clear h h1 hX
  go_enter Tryz.func10, Tryz.ntmps10
  go_upto_region 1 with (fail)
  rw [← hlb]
  clear hlb
  generalize w.alloc (.cells #[.int .i64 0, .slice none 0 0] 25) = w0 at *
  go_wp2_with fail
  refine (side_any gb which w0).mono ?_
  rintro e w1 ⟨rfl, hb1⟩
  have hw1 := hb0.trans (hb1.mono hb0.size)
  have hk := hk0.below hb1
  have q0 := (hg0.below hb1).cell 0
  simp only [List.getElem?_toArray, List.getElem?_cons_zero] at q0
  have HL1 := Lib.hid (HL.out.below hw1)
  clear hk0 hg0 hb1 hb0
  by_cases hw : which = 1 ∨ which = 2
  · have hlen := log_len HL.out hw
    obtain ⟨o, ho⟩ := sideP_some (gb := gb) hw
    rw [ho]
    clear ho
    by_cases hm0 : m < 0
    · have hd0 : decide (m < 0) = true := decide_eq_true hm0
      have HZ : Hid ((0, []) = X) := Lib.hid (by rw [HX.out]; unfold atS; rw [if_neg (by omega)])
      clear hlen
      have e0 := hk.cell 0
      have e1 := hk.cell 1
      simp only [List.getElem?_toArray, List.getElem?_cons_zero, List.getElem?_cons_succ] at e0 e1
      have kE := (hk.set_ 0 (.int .i64 0)).set_ 1 (.slice none 0 0)
      simp only [List.setIfInBounds_toArray, List.set_cons_zero, List.set_cons_succ] at kE
      have fz := fun j => hk.frozen j
      have kF : Fr (fun x => x = lb) w1 ((w1.setCell ⟨lb, 0, none⟩ (.int .i64 0)).setCell ⟨lb, 1, none⟩ (.slice none 0 0)) := ((Fr.refl (fun x => x = lb) w1).setAt lb _ rfl _).setAt lb _ rfl _
      have hwE : Below w.heap.size w ((w1.setCell ⟨lb, 0, none⟩ (.int .i64 0)).setCell ⟨lb, 1, none⟩ (.slice none 0 0)) := hw1.trans (kF.below (B := w.heap.size) hw1.size (fun k hk e => by omega))
      clear kF
      go_wp2_with fail
      clear e0 e1
      generalize (w1.setCell ⟨lb, 0, none⟩ (.int .i64 0)).setCell ⟨lb, 1, none⟩ (.slice none 0 0) = wE at *
      have e0 := kE.cell 0
      have e1 := kE.cell 1
      simp only [List.getElem?_toArray, List.getElem?_cons_zero, List.getElem?_cons_succ] at e0 e1
      refine bodyPost_ret (v := .agg #[.int .i64 0, .slice none 0 0]) (by simp [results, Tryz.results10, go_sem, e0, e1]) rfl ?_
      exact ⟨⟨0, none, 0, [], rfl, HZ, OwB.nil _ _, by simp⟩, hwE⟩
    · have hd0 : decide (m < 0) = false := decide_eq_false hm0
      by_cases hmn : (H.length : Int) ≤ m
      · have hd1 : decide ((H.length : Int) ≤ m) = true := decide_eq_true hmn
        have HZ : Hid ((0, []) = X) := Lib.hid (by rw [HX.out]; unfold atS; rw [if_neg (by rw [hlen]; omega)])
        clear hlen
        have e0 := hk.cell 0
        have e1 := hk.cell 1
        simp only [List.getElem?_toArray, List.getElem?_cons_zero, List.getElem?_cons_succ] at e0 e1
        have kE := (hk.set_ 0 (.int .i64 0)).set_ 1 (.slice none 0 0)
        simp only [List.setIfInBounds_toArray, List.set_cons_zero, List.set_cons_succ] at kE
        have fz := fun j => hk.frozen j
        have kF : Fr (fun x => x = lb) w1 ((w1.setCell ⟨lb, 0, none⟩ (.int .i64 0)).setCell ⟨lb, 1, none⟩ (.slice none 0 0)) := ((Fr.refl (fun x => x = lb) w1).setAt lb _ rfl _).setAt lb _ rfl _
        have hwE : Below w.heap.size w ((w1.setCell ⟨lb, 0, none⟩ (.int .i64 0)).setCell ⟨lb, 1, none⟩ (.slice none 0 0)) := hw1.trans (kF.below (B := w.heap.size) hw1.size (fun k hk e => by omega))
        clear kF
        go_wp2_with fail
        clear e0 e1
        generalize (w1.setCell ⟨lb, 0, none⟩ (.int .i64 0)).setCell ⟨lb, 1, none⟩ (.slice none 0 0) = wE at *
        have e0 := kE.cell 0
        have e1 := kE.cell 1
        simp only [List.getElem?_toArray, List.getElem?_cons_zero, List.getElem?_cons_succ] at e0 e1
        refine bodyPost_ret (v := .agg #[.int .i64 0, .slice none 0 0]) (by simp [results, Tryz.results10, go_sem, e0, e1]) rfl ?_
        exact ⟨⟨0, none, 0, [], rfl, HZ, OwB.nil _ _, by simp⟩, hwE⟩
      · have hd1 : decide ((H.length : Int) ≤ m) = false := decide_eq_false hmn
        obtain ⟨k, rfl⟩ : ∃ k : Nat, m = (k : Int) := ⟨m.toNat, by omega⟩
        have HW := Lib.hid hw
        have HLN := Lib.hid hlen
        clear hw hlen
        go_wp2_with fail
        refine (watchAt_any col gb H K which p (k : Int) w1 HL1.out hp hH HW.out).mono ?_
        rintro e w2 ⟨x, u, rfl, hs, ho, hol, hb2⟩
        have hkl : k < (sideS H K which).length := by rw [HLN.out]; omega
        have HXX : Hid (x.p = X) := Lib.hid (by rw [HX.out, atS_nat hkl]; exact (scan_at hs.out hkl).1)
        have hk2 := hk.below hb2
        have hw2 := hw1.trans (hb2.mono hw1.size)
        obtain ⟨x, A, c, l⟩ := x
        have hba : Below w2.heap.size w2 (w2.alloc (.cells #[.int .i64 x, .slice A l.length c] 25)) := (Below.refl _ _).alloc (Nat.le_refl _) _
        have hz := Blk.new w2 25 #[.int .i64 x, .slice A l.length c]
        have hk3 := hk2.below hba
        have hw3 := hw2.trans (hba.mono hw2.size)
        have ho3 := OwB.below ho hba
        clear hs ho hk hk2 q0
        go_upto_region 4 with (fail)
        obtain ⟨zb, hzb⟩ : ∃ zb, zb = w2.heap.size := ⟨_, rfl⟩
        rw [← hzb] at hz ⊢
        clear hzb hba
        generalize w2.alloc (.cells #[.int .i64 x, .slice A l.length c] 25) = w3 at *
        have z0 := hz.cell 0
        have z1 := hz.cell 1
        simp only [List.getElem?_toArray, List.getElem?_cons_zero, List.getElem?_cons_succ] at z0 z1
        go_wp2_with fail
        refine (leafClone_any x A c l _ w3 (ho3.rd) (by omega)).mono ?_
        rintro e w4 ⟨A4, c4, l4, rfl, hl4, ho4, hb4⟩
        have hk4 := hk3.below hb4
        have hw4 := hw3.trans (hb4.mono hw3.size)
        have ho4' : OwB w4 w.heap.size (.slice A4 l4.length c4) l4 := own_base ho4 (fun g hg => Nat.le_trans hw3.size (own_lt ho4 g hg).1)
        have HL4 : Hid ((x, l4) = X) := Lib.hid (by rw [hl4.out]; exact HXX.out)
        have hl4n : l4.length ≤ 4096 := by rw [hl4.out]; exact hol
        have fz := fun j => hk4.frozen j
        have kE := (hk4.set_ 0 (.int .i64 x)).set_ 1 (.slice A4 l4.length c4)
        simp only [List.setIfInBounds_toArray, List.set_cons_zero, List.set_cons_succ] at kE
        have kF : Fr (fun x => x = lb) w4 ((w4.setCell ⟨lb, 0, none⟩ (.int .i64 x)).setCell ⟨lb, 1, none⟩ (.slice A4 l4.length c4)) := ((Fr.refl (fun x => x = lb) w4).setAt lb _ rfl _).setAt lb _ rfl _
        have hwE : Below w.heap.size w ((w4.setCell ⟨lb, 0, none⟩ (.int .i64 x)).setCell ⟨lb, 1, none⟩ (.slice A4 l4.length c4)) := hw4.trans (kF.below (B := w.heap.size) hw4.size (fun k hk e => by omega))
        have hoE := own_fr ho4' kF (fun g hg e => hk4.own_ne ho4' (by decide) (e ▸ hg))
        have e0 := hk4.cell 0
        have e1 := hk4.cell 1
        simp only [List.getElem?_toArray, List.getElem?_cons_zero, List.getElem?_cons_succ] at e0 e1
        clear hz z0 z1 hk3 ho3 hk4 ho4 ho4' kF hl4
        go_wp2_with fail
        clear e0 e1
        generalize (w4.setCell ⟨lb, 0, none⟩ (.int .i64 x)).setCell ⟨lb, 1, none⟩ (.slice A4 l4.length c4) = wE at *
        have e0 := kE.cell 0
        have e1 := kE.cell 1
        simp only [List.getElem?_toArray, List.getElem?_cons_zero, List.getElem?_cons_succ] at e0 e1
        refine bodyPost_ret (v := .agg #[.int .i64 x, .slice A4 l4.length c4]) (by simp [results, Tryz.results10, go_sem, e0, e1]) rfl ?_
        exact ⟨⟨x, A4, c4, l4, rfl, HL4, hoE, hl4n⟩, hwE⟩
  · rw [sideP_none hw]
    have HZ : Hid ((0, []) = X) := Lib.hid (by rw [HX.out, sideS_none hw]; unfold atS; rw [if_neg (by simp <;> omega)])
    have e0 := hk.cell 0
    have e1 := hk.cell 1
    simp only [List.getElem?_toArray, List.getElem?_cons_zero, List.getElem?_cons_succ] at e0 e1
    have kE := (hk.set_ 0 (.int .i64 0)).set_ 1 (.slice none 0 0)
    simp only [List.setIfInBounds_toArray, List.set_cons_zero, List.set_cons_succ] at kE
    have fz := fun j => hk.frozen j
    have kF : Fr (fun x => x = lb) w1 ((w1.setCell ⟨lb, 0, none⟩ (.int .i64 0)).setCell ⟨lb, 1, none⟩ (.slice none 0 0)) := ((Fr.refl (fun x => x = lb) w1).setAt lb _ rfl _).setAt lb _ rfl _
    have hwE : Below w.heap.size w ((w1.setCell ⟨lb, 0, none⟩ (.int .i64 0)).setCell ⟨lb, 1, none⟩ (.slice none 0 0)) := hw1.trans (kF.below (B := w.heap.size) hw1.size (fun k hk e => by omega))
    clear kF
    go_wp2_with fail
    clear e0 e1
    generalize (w1.setCell ⟨lb, 0, none⟩ (.int .i64 0)).setCell ⟨lb, 1, none⟩ (.slice none 0 0) = wE at *
    have e0 := kE.cell 0
    have e1 := kE.cell 1
    simp only [List.getElem?_toArray, List.getElem?_cons_zero, List.getElem?_cons_succ] at e0 e1
    refine bodyPost_ret (v := .agg #[.int .i64 0, .slice none 0 0]) (by simp [results, Tryz.results10, go_sem, e0, e1]) rfl ?_
    exact ⟨⟨0, none, 0, [], rfl, HZ, OwB.nil _ _, by simp⟩, hwE⟩

end Go.Proofs.YtdnljmncdbcgeaaGreat

/- The bytes of numbers and texts, as plain lists. -/
namespace Go.Proofs.YtdnljmncdbcgeaaGreat
open Go.RowKit

def dg : Nat → Nat → List UInt8 → List UInt8
  | 0, _, acc => acc
  | f + 1, n, acc => if n = 0 then acc else dg f (n / 256) (UInt8.ofNat (n % 256) :: acc)
def digs (n : Nat) : List UInt8 := dg 8 n []
def numB (n : Nat) : List UInt8 := UInt8.ofNat (digs n).length :: digs n
def textB (l : List UInt8) : List UInt8 := numB l.length ++ l

theorem bv_ofNat {m : Nat} (h : m < 256) : bv (UInt8.ofNat m) = .int .u8 (m : Int) := by
  unfold bv
  rw [UInt8.toNat_ofNat']
  rw [Nat.mod_eq_of_lt h]

theorem dg_zero (f : Nat) (acc : List UInt8) : dg f 0 acc = acc := by cases f <;> simp [dg]
theorem dg_len : ∀ (f n : Nat) (acc : List UInt8), (dg f n acc).length ≤ f + acc.length
  | 0, _, acc => by simp [dg]
  | f + 1, n, acc => by
    unfold dg
    split
    · omega
    · have := dg_len f (n / 256) (UInt8.ofNat (n % 256) :: acc)
      simp only [List.length_cons] at this
      omega
theorem digs_len (n : Nat) : (digs n).length ≤ 8 := by have := dg_len 8 n []; simpa [digs] using this
theorem numB_len (n : Nat) : (numB n).length ≤ 9 := by simp only [numB, List.length_cons]; have := digs_len n; omega

theorem dg_app : ∀ (f n : Nat) (acc : List UInt8), dg f n acc = dg f n [] ++ acc
  | 0, _, acc => by simp [dg]
  | f + 1, n, acc => by
    unfold dg
    split
    · simp
    · rw [dg_app f (n / 256) (_ :: acc), dg_app f (n / 256) [_], List.append_assoc]
      rfl
/-- one digit more -/
theorem dg_fuel : ∀ (f n : Nat), n < 256 ^ f → ∀ k, dg (f + k) n [] = dg f n []
  | 0, n, h, k => by
    have : n = 0 := by simpa using h
    subst this
    rw [dg_zero, dg_zero]
  | f + 1, n, h, k => by
    rw [show f + 1 + k = (f + k) + 1 by omega]
    unfold dg
    split
    · rfl
    · have h' : n / 256 < 256 ^ f := by
        rw [Nat.div_lt_iff_lt_mul (by omega)]
        rw [Nat.pow_succ] at h
        exact h
      rw [dg_app (f + k), dg_app f, dg_fuel f _ h' k]
theorem digs_step {n : Nat} (h0 : 0 < n) (h : n < 18446744073709551616) : digs n = digs (n / 256) ++ [UInt8.ofNat (n % 256)] := by
  have e : dg 8 n [] = dg 7 (n / 256) [UInt8.ofNat (n % 256)] := by
    conv => lhs; unfold dg
    rw [if_neg (by omega)]
  have h' : n / 256 < 256 ^ 7 := by omega
  unfold digs
  rw [e, dg_app, dg_fuel 7 (n / 256) h' 1]
theorem digs_zero : digs 0 = [] := dg_zero 8 []
theorem digs_lt {n : Nat} (k : Nat) (hk : k ≤ 8) (h : n < 256 ^ k) : (digs n).length ≤ k := by
  unfold digs
  have := dg_fuel k n h (8 - k)
  rw [show k + (8 - k) = 8 by omega] at this
  rw [this]
  simpa using dg_len k n []

theorem pow_le8 {f : Nat} (h : f ≤ 8) : 256 ^ f ≤ 18446744073709551616 := Nat.le_trans (Nat.pow_le_pow_right (by decide) h) (by decide)
theorem dg_cons {f m : Nat} (h0 : 0 < m) (acc : List UInt8) : dg (f + 1) m acc = dg f (m / 256) (UInt8.ofNat (m % 256) :: acc) := by
  conv => lhs; unfold dg
  rw [if_neg (by omega)]

theorem digs_range : ∀ (k n : Nat), k ≤ 8 → n < 256 ^ k → n < 256 ^ (digs n).length ∧ (0 < n → 256 ^ ((digs n).length - 1) ≤ n ∧ 0 < (digs n).length)
  | 0, n, _, h => by
    have : n = 0 := by simpa using h
    subst this
    rw [digs_zero]
    simp
  | k + 1, n, hk, h => by
    rcases Nat.eq_zero_or_pos n with h0 | h0
    · subst h0
      rw [digs_zero]
      simp
    · have h64 : n < 18446744073709551616 := Nat.lt_of_lt_of_le h (pow_le8 hk)
      have h' : n / 256 < 256 ^ k := by
        rw [Nat.div_lt_iff_lt_mul (by omega)]
        rw [Nat.pow_succ] at h
        exact h
      obtain ⟨i1, i2⟩ := digs_range k (n / 256) (by omega) h'
      rw [digs_step h0 h64, List.length_append, List.length_singleton, Nat.add_sub_cancel]
      refine ⟨?_, fun _ => ⟨?_, by omega⟩⟩
      · rw [Nat.pow_succ]; omega
      · rcases Nat.eq_zero_or_pos (n / 256) with h1 | h1
        · rw [h1, digs_zero]; simp; omega
        · obtain ⟨j1, j2⟩ := i2 h1
          obtain ⟨m, hm⟩ : ∃ m, (digs (n / 256)).length = m + 1 := ⟨_, (Nat.succ_pred_eq_of_pos j2).symm⟩
          rw [hm] at j1 ⊢
          rw [Nat.add_sub_cancel] at j1
          rw [Nat.pow_succ]
          omega

theorem bitAux_range : ∀ (f n : Nat), n < 2 ^ f → n < 2 ^ Lib.bitLenAux f n ∧ (0 < n → 2 ^ (Lib.bitLenAux f n - 1) ≤ n) ∧ Lib.bitLenAux f n ≤ f
  | 0, n, h => by
    have : n = 0 := by simpa using h
    subst this
    simp [Lib.bitLenAux]
  | f + 1, n, h => by
    unfold Lib.bitLenAux
    split
    · rename_i h0; subst h0; simp
    · rename_i h0
      have h' : n / 2 < 2 ^ f := by rw [Nat.pow_succ] at h; omega
      obtain ⟨i1, i2, i3⟩ := bitAux_range f (n / 2) h'
      refine ⟨by rw [Nat.add_comm, Nat.pow_succ]; omega, fun _ => ?_, by omega⟩
      rw [Nat.add_sub_cancel_left]
      rcases Nat.eq_zero_or_pos (n / 2) with h1 | h1
      · rw [h1]
        have : Lib.bitLenAux f 0 = 0 := by cases f <;> simp [Lib.bitLenAux]
        rw [this]
        simp; omega
      · have j := i2 h1
        have hb : 0 < Lib.bitLenAux f (n / 2) := by
          rcases Nat.eq_zero_or_pos (Lib.bitLenAux f (n / 2)) with hz | hz
          · rw [hz] at i1; simp at i1; omega
          · exact hz
        obtain ⟨m, hm⟩ : ∃ m, Lib.bitLenAux f (n / 2) = m + 1 := ⟨_, (Nat.succ_pred_eq_of_pos hb).symm⟩
        rw [hm] at j ⊢
        rw [Nat.add_sub_cancel] at j
        rw [Nat.pow_succ]
        omega

theorem bitLen_le {n : Nat} (h : n < 18446744073709551616) : Lib.bitLen n ≤ 64 := (bitAux_range 64 n h).2.2
theorem bitLen_wd {n : Nat} (h : n < 18446744073709551616) : (Lib.bitLen n + 7) / 8 = (digs n).length := by
  obtain ⟨a1, a2, a3⟩ := bitAux_range 64 n h
  obtain ⟨b1, b2⟩ := digs_range 8 n (by omega) h
  rcases Nat.eq_zero_or_pos n with h0 | h0
  · subst h0
    rw [digs_zero]
    decide
  · have a4 := a2 h0
    obtain ⟨b3, b4⟩ := b2 h0
    have p1 : ∀ k : Nat, 256 ^ k = 2 ^ (8 * k) := fun k => by rw [Nat.pow_mul]
    rw [p1] at b1 b3
    unfold Lib.bitLen
    generalize Lib.bitLenAux 64 n = b at *
    generalize (digs n).length = d at *
    have c1 : 8 * (d - 1) < b := (Nat.pow_lt_pow_iff_right (by decide : 1 < 2)).1 (Nat.lt_of_le_of_lt b3 a1)
    have c2 : b - 1 < 8 * d := (Nat.pow_lt_pow_iff_right (by decide : 1 < 2)).1 (Nat.lt_of_le_of_lt a4 b1)
    omega

theorem digs_get : ∀ (k n i : Nat), n < 18446744073709551616 → k + 1 + i = (digs n).length → (digs n).getD i 0 = UInt8.ofNat (n / 256 ^ k % 256)
  | k, n, i, h, hk => by
    have h0 : 0 < n := by
      rcases Nat.eq_zero_or_pos n with h0 | h0
      · subst h0; rw [digs_zero] at hk; simp at hk
      · exact h0
    rw [digs_step h0 h, List.length_append, List.length_singleton] at hk
    rw [digs_step h0 h]
    rcases k with _ | k
    · rw [List.getD_eq_getElem?_getD, List.getElem?_append_right (by omega), show i - (digs (n / 256)).length = 0 by omega]
      simp
    · rw [List.getD_eq_getElem?_getD, List.getElem?_append_left (by omega), ← List.getD_eq_getElem?_getD, digs_get k (n / 256) i (by omega) (by omega), Nat.div_div_eq_div_mul, Nat.pow_succ', ]

theorem bv_digit {n k i : Nat} (hn : n < 18446744073709551616) (hk : k + 1 + i = (digs n).length) :
    bv ((digs n).getD i 0) = .int .u8 (IntKind.u8.wrap ((n : Int) / 2 ^ min (8 * (k : Int)).toNat 64)) := by
  have h8 := digs_len n
  rw [digs_get k n i hn hk, bv_ofNat (by omega), IntKind.wrap_u8]
  have e : min (8 * (k : Int)).toNat 64 = 8 * k := by omega
  rw [e]
  have : ((n / 256 ^ k % 256 : Nat) : Int) = (n : Int) / (2 : Int) ^ (8 * k) % 256 := by
    rw [show (256 : Nat) ^ k = 2 ^ (8 * k) by rw [Nat.pow_mul]]
    simp
  rw [← this]
end Go.Proofs.YtdnljmncdbcgeaaGreat

/- A leaf's bytes, plainly. -/
namespace Go.Proofs.YtdnljmncdbcgeaaGreat
open Go.RowKit

/-- a leaf's bytes -/
def leafB (k : Int) (l : List UInt8) : List UInt8 := if checkN k l.length ≠ 0 then numB 0 else if k = 1 then numB 1 ++ textB l else numB k.toNat
theorem leafB_bad {k : Int} {l : List UInt8} (h : checkN k l.length ≠ 0) : leafB k l = numB 0 := by unfold leafB; rw [if_pos h]
theorem leafB_file {k : Int} {l : List UInt8} (h : checkN k l.length = 0) (hk : k = 1) : leafB k l = numB 1 ++ textB l := by unfold leafB; rw [if_neg (by simpa using h), if_pos hk]
theorem leafB_other {k : Int} {l : List UInt8} (h : checkN k l.length = 0) (hk : k ≠ 1) : leafB k l = numB k.toNat := by unfold leafB; rw [if_neg (by simpa using h), if_neg hk]
theorem leafB_len (k : Int) (l : List UInt8) : (leafB k l).length ≤ 18 + l.length := by
  have h0 := numB_len 0
  have h1 := numB_len 1
  have h2 := numB_len k.toNat
  have h3 := numB_len l.length
  unfold leafB textB
  split
  · omega
  · split
    · simp only [List.length_append]; omega
    · omega
theorem checkN_ok {k : Int} {n : Nat} (h : checkN k n = 0) : (k = 0 ∨ k = 1 ∨ k = 2) ∧ (k ≠ 1 → n = 0) ∧ n ≤ 4096 := by
  unfold checkN at h
  split at h
  · rename_i h1
    split at h
    · exact ⟨.inr (.inl h1), fun h2 => absurd h1 h2, by assumption⟩
    · simp at h
  · split at h
    · rename_i h1 h2
      split at h
      · rename_i h3
        exact ⟨h2.elim .inl (fun h => .inr (.inr h)), fun _ => h3, by omega⟩
      · simp at h
    · simp at h
/-- bytes that leaves take at most -/
def wideL (ls : List LV) : Nat := (ls.map fun o => 18 + o.x.l.length).sum
theorem wideL_take (ls : List LV) (i : Nat) (hi : i < ls.length) : (ls.take i |>.flatMap fun o => leafB o.k o.x.l).length + (18 + ls[i].x.l.length) ≤ wideL ls := by
  have h1 : ∀ cs : List LV, (cs.flatMap fun o => leafB o.k o.x.l).length ≤ wideL cs := by
    intro cs
    induction cs with
    | nil => simp [wideL]
    | cons x cs ih =>
      have := leafB_len x.k x.x.l
      simp only [wideL, List.flatMap_cons, List.length_append, List.map_cons, List.sum_cons] at ih ⊢
      omega
  have h2 := h1 (ls.take i)
  have h3 : wideL (ls.take i) + (18 + ls[i].x.l.length) ≤ wideL ls := by
    have e : ls = ls.take i ++ ls[i] :: ls.drop (i + 1) := by simp
    have e2 : wideL ls = wideL (ls.take i ++ ls[i] :: ls.drop (i + 1)) := congrArg wideL e
    rw [e2]
    simp only [wideL, List.map_append, List.map_cons, List.sum_append, List.sum_cons]
    omega
  omega
theorem wideL_len : ∀ ls : List LV, ls.length ≤ wideL ls
  | [] => by simp
  | x :: ls => by
    have := wideL_len ls
    simp only [wideL, List.map_cons, List.sum_cons, List.length_cons] at this ⊢
    omega
end Go.Proofs.YtdnljmncdbcgeaaGreat

/- watch: some, Held, Common, Turns. -/
namespace Go.Proofs.YtdnljmncdbcgeaaGreat
open Go.RowKit Go.Maps

/-- what a closure that is asked of moments answers -/
def AskedTo (n : Nat) (P : Nat → Bool) (k : Nat) (W : World) (e : Ending) (w' : World) : Prop :=
  (∃ u : Nat, e = .returned (.tuple #[.bool (P k), .int .i64 (u : Int)]) ∧ Hid (k < u ∧ u ≤ n ∧ ∀ j, k ≤ j → j < u → P j = P k)) ∧ Below W.heap.size W w'

set_option maxRecDepth 100000 in
set_option maxHeartbeats 1000000 in
theorem someHeld_any (gv : Option Addr) (n : Nat) (P : Nat → Bool) (a b : Int) (x0 x1 x2 x3 : Nat) (w : World) (hn : n ≤ 1000)
    (hM : ∀ W, Below w.heap.size w W → Calls Tryz.prog 39 #[.pointer gv] W fun e w' => e = .returned (.int .i64 (n : Int)) ∧ Below W.heap.size W w')
    (hC : ∀ W, Below w.heap.size w W → ∀ k : Nat, k < n → Calls Tryz.prog 47 #[.int .i64 (k : Int), .pointer (some ⟨x0, 0, none⟩), .pointer (some ⟨x1, 0, none⟩), .pointer (some ⟨x2, 0, none⟩), .pointer (some ⟨x3, 0, none⟩)] W fun e w' => AskedTo n P k W e w') :
    Calls Tryz.prog 46 #[.pointer gv, .int .i64 a, .int .i64 b, .func (.func 47) #[] #[.pointer (some ⟨x0, 0, none⟩), .pointer (some ⟨x1, 0, none⟩), .pointer (some ⟨x2, 0, none⟩), .pointer (some ⟨x3, 0, none⟩)]] w fun e w' => e = .returned (.bool (someG P n a b)) ∧ Below w.heap.size w w' := by
  have HM := Lib.hid hM
  have HC := Lib.hid hC
  obtain ⟨V, hV⟩ : ∃ V, V = someG P n a b := ⟨_, rfl⟩
  rw [← hV]
  have HV := Lib.hid hV
  clear hM hC hV
  go_enter Tryz.func46, Tryz.ntmps46
  go_wp2_with fail
  refine (HM.out w (Below.refl _ _)).mono ?_
  rintro e w1 ⟨rfl, hb1⟩
  go_upto_region 3 with (fail)
  obtain ⟨tb, htb⟩ : ∃ tb, tb = min b (n : Int) := ⟨_, rfl⟩
  rw [← htb]
  obtain ⟨m0, hm0⟩ : ∃ m0, m0 = max a 0 := ⟨_, rfl⟩
  rw [← hm0]
  have HTB : Hid (tb ≤ b ∧ tb ≤ (n : Int) ∧ (tb = b ∨ tb = (n : Int))) := Lib.hid (by omega)
  have HM0 : Hid (0 ≤ m0 ∧ a ≤ m0 ∧ (m0 = a ∨ m0 = 0)) := Lib.hid (by omega)
  clear htb hm0
  go_loopw [9] (fun mv wr => ∃ mm : Int, mv = .int .i64 mm ∧ m0 ≤ mm ∧ Hid (∀ j : Nat, j < n → a ≤ (j : Int) → (j : Int) < mm → P j = false) ∧ Below w.heap.size w wr) (fun mv _ => (tb - intOf mv).toNat)
  case atStart =>
    exact ⟨m0, rfl, Int.le_refl _, Lib.hid (fun j hj h1 h2 => by have := HM0.out; omega), hb1⟩
  case round =>
    obtain ⟨mm, rfl, hm, hp, hb⟩ := hrel
    have hm00 := HM0.out.1
    by_cases hlt : mm < tb
    · have hd : decide (mm < tb) = true := decide_eq_true hlt
      obtain ⟨k, rfl⟩ : ∃ k : Nat, mm = (k : Int) := ⟨mm.toNat, by omega⟩
      have hkn : k < n := by have := HTB.out; omega
      go_wp2_with fail
      refine (HC.out wr hb k hkn).mono ?_
      rintro e w2 ⟨⟨u, rfl, hu⟩, hb2⟩
      have hw2 := hb.trans (hb2.mono hb.size)
      obtain ⟨pk, hpk⟩ : ∃ pk, pk = P k := ⟨_, rfl⟩
      rw [← hpk]
      have HPK := Lib.hid hpk
      clear hpk
      cases pk
      · have hu1 := hu.out.1
        have HN : Hid (∀ j : Nat, j < n → a ≤ (j : Int) → (j : Int) < (u : Int) → P j = false) := Lib.hid (fun j hj h1 h2 => by
          by_cases hjk : j < k
          · exact hp.out j hj h1 (by omega)
          · rw [hu.out.2.2 j (by omega) (by omega), ← HPK.out])
        go_wp2_with fail
        go_roundw
        case rel => exact ⟨(u : Int), rfl, by omega, HN, hw2⟩
        case measure => simp [intOf]; omega
      · have hVV : V = true := by
          rw [HV.out]
          exact some_true hkn (by have := HM0.out; omega) (by have := HTB.out; omega) HPK.out.symm
        subst hVV
        go_wp2_with fail
        go_ret
        exact ⟨rfl, hw2⟩
    · have hd : decide (mm < tb) = false := decide_eq_false hlt
      have hVV : V = false := by
        rw [HV.out]
        refine some_false fun j hj h1 h2 => hp.out j hj h1 ?_
        have := HTB.out
        omega
      subst hVV
      go_wp2_with fail
      go_ret
      exact ⟨rfl, hb⟩


set_option maxRecDepth 100000 in
set_option maxHeartbeats 1000000 in
theorem someCommon_any (gv : Option Addr) (n : Nat) (P : Nat → Bool) (a b : Int) (x0 x1 x2 : Nat) (w : World) (hn : n ≤ 1000)
    (hM : ∀ W, Below w.heap.size w W → Calls Tryz.prog 39 #[.pointer gv] W fun e w' => e = .returned (.int .i64 (n : Int)) ∧ Below W.heap.size W w')
    (hC : ∀ W, Below w.heap.size w W → ∀ k : Nat, k < n → Calls Tryz.prog 49 #[.int .i64 (k : Int), .pointer (some ⟨x0, 0, none⟩), .pointer (some ⟨x1, 0, none⟩), .pointer (some ⟨x2, 0, none⟩)] W fun e w' => AskedTo n P k W e w') :
    Calls Tryz.prog 46 #[.pointer gv, .int .i64 a, .int .i64 b, .func (.func 49) #[] #[.pointer (some ⟨x0, 0, none⟩), .pointer (some ⟨x1, 0, none⟩), .pointer (some ⟨x2, 0, none⟩)]] w fun e w' => e = .returned (.bool (someG P n a b)) ∧ Below w.heap.size w w' := by
  have HM := Lib.hid hM
  have HC := Lib.hid hC
  obtain ⟨V, hV⟩ : ∃ V, V = someG P n a b := ⟨_, rfl⟩
  rw [← hV]
  have HV := Lib.hid hV
  clear hM hC hV
  go_enter Tryz.func46, Tryz.ntmps46
  go_wp2_with fail
  refine (HM.out w (Below.refl _ _)).mono ?_
  rintro e w1 ⟨rfl, hb1⟩
  go_upto_region 3 with (fail)
  obtain ⟨tb, htb⟩ : ∃ tb, tb = min b (n : Int) := ⟨_, rfl⟩
  rw [← htb]
  obtain ⟨m0, hm0⟩ : ∃ m0, m0 = max a 0 := ⟨_, rfl⟩
  rw [← hm0]
  have HTB : Hid (tb ≤ b ∧ tb ≤ (n : Int) ∧ (tb = b ∨ tb = (n : Int))) := Lib.hid (by omega)
  have HM0 : Hid (0 ≤ m0 ∧ a ≤ m0 ∧ (m0 = a ∨ m0 = 0)) := Lib.hid (by omega)
  clear htb hm0
  go_loopw [9] (fun mv wr => ∃ mm : Int, mv = .int .i64 mm ∧ m0 ≤ mm ∧ Hid (∀ j : Nat, j < n → a ≤ (j : Int) → (j : Int) < mm → P j = false) ∧ Below w.heap.size w wr) (fun mv _ => (tb - intOf mv).toNat)
  case atStart =>
    exact ⟨m0, rfl, Int.le_refl _, Lib.hid (fun j hj h1 h2 => by have := HM0.out; omega), hb1⟩
  case round =>
    obtain ⟨mm, rfl, hm, hp, hb⟩ := hrel
    have hm00 := HM0.out.1
    by_cases hlt : mm < tb
    · have hd : decide (mm < tb) = true := decide_eq_true hlt
      obtain ⟨k, rfl⟩ : ∃ k : Nat, mm = (k : Int) := ⟨mm.toNat, by omega⟩
      have hkn : k < n := by have := HTB.out; omega
      go_wp2_with fail
      refine (HC.out wr hb k hkn).mono ?_
      rintro e w2 ⟨⟨u, rfl, hu⟩, hb2⟩
      have hw2 := hb.trans (hb2.mono hb.size)
      obtain ⟨pk, hpk⟩ : ∃ pk, pk = P k := ⟨_, rfl⟩
      rw [← hpk]
      have HPK := Lib.hid hpk
      clear hpk
      cases pk
      · have hu1 := hu.out.1
        have HN : Hid (∀ j : Nat, j < n → a ≤ (j : Int) → (j : Int) < (u : Int) → P j = false) := Lib.hid (fun j hj h1 h2 => by
          by_cases hjk : j < k
          · exact hp.out j hj h1 (by omega)
          · rw [hu.out.2.2 j (by omega) (by omega), ← HPK.out])
        go_wp2_with fail
        go_roundw
        case rel => exact ⟨(u : Int), rfl, by omega, HN, hw2⟩
        case measure => simp [intOf]; omega
      · have hVV : V = true := by
          rw [HV.out]
          exact some_true hkn (by have := HM0.out; omega) (by have := HTB.out; omega) HPK.out.symm
        subst hVV
        go_wp2_with fail
        go_ret
        exact ⟨rfl, hw2⟩
    · have hd : decide (mm < tb) = false := decide_eq_false hlt
      have hVV : V = false := by
        rw [HV.out]
        refine some_false fun j hj h1 h2 => hp.out j hj h1 ?_
        have := HTB.out
        omega
      subst hVV
      go_wp2_with fail
      go_ret
      exact ⟨rfl, hb⟩


/-- is this leaf at the path, at a moment? -/
def isAt (H : List (List (List UInt8 × LP))) (p : List UInt8) (x : LP) (j : Nat) : Bool := at0 (H[j]?.getD []) p == x
theorem isAt_to {H : List (List (List UInt8 × LP))} {p : List UInt8} {x y : LP} {k u : Nat} (h : scanG (k : Int) (turnsG 0 ((0, []) : LP) (H.map fun T => at0 T p)) (0, []) H.length = (y, u)) (hk : k < H.length) :
    (y == x) = isAt H p x k ∧ k < u ∧ u ≤ H.length ∧ ∀ j, k ≤ j → j < u → isAt H p x j = isAt H p x k := by
  obtain ⟨a, b, c, d⟩ := scan_at h hk
  refine ⟨by unfold isAt; rw [← a], b, c, fun j h1 h2 => ?_⟩
  unfold isAt
  rw [d j h1 h2, ← a]
theorem lp_eq (k j : Int) (l m : List UInt8) : (k == j && l == m) = (((k, l) : LP) == (j, m)) := rfl
set_option maxRecDepth 100000 in
set_option maxHeartbeats 1000000 in
theorem heldC_any (col : Nat → Nat) (gb : Nat) (H K : List (List (List UInt8 × LP))) (which : Int) (p : List UInt8) (k2 : Int) (A2 : Option Addr) (c2 : Nat) (l2 : List UInt8) (x0 x1 x2 x3 : Nat) (Z : Nat → Prop) (w : World) (k : Nat) (h : LogAt w col gb H K) (hp : p.length ≤ 1048576) (hH : H.length ≤ 300) (hw : which = 1 ∨ which = 2)
    (hx0 : Blk w x0 30 #[.pointer (some ⟨gb, 0, none⟩)]) (hx1 : Blk w x1 3 #[.int .i64 which]) (hx2 : Blk w x2 9 #[.string ⟨⟨p⟩⟩]) (hx3 : Blk w x3 25 #[.int .i64 k2, .slice A2 l2.length c2]) (hy : By w Z A2 l2) (hk : k < (sideS H K which).length) :
    Calls Tryz.prog 47 #[.int .i64 (k : Int), .pointer (some ⟨x0, 0, none⟩), .pointer (some ⟨x1, 0, none⟩), .pointer (some ⟨x2, 0, none⟩), .pointer (some ⟨x3, 0, none⟩)] w fun e w' => AskedTo (sideS H K which).length (isAt (sideS H K which) p (k2, l2)) k w e w' := by
  have q0 := hx0.cell 0
  have q1 := hx1.cell 0
  have q2 := hx2.cell 0
  simp only [List.getElem?_toArray, List.getElem?_cons_zero] at q0 q1 q2
  have HK := Lib.hid hk
  have HW := Lib.hid hw
  clear hx0 hx1 hx2 hw hk
  go_enter Tryz.func47, Tryz.ntmps47
  go_wp2_with fail
  refine (watchAt_any col gb H K which p (k : Int) w h hp hH HW.out).mono ?_
  rintro e w1 ⟨x, u, rfl, hs, ho, hol, hb1⟩
  obtain ⟨t1, t2⟩ := isAt_to (x := (k2, l2)) hs.out HK.out
  obtain ⟨xk, A, c, l⟩ := x
  have hx31 := hx3.below hb1
  have hy1 := hy.below hb1
  have hba : Below w1.heap.size w1 (w1.alloc (.cells #[.int .i64 xk, .slice A l.length c] 25)) := (Below.refl _ _).alloc (Nat.le_refl _) _
  have hz := Blk.new w1 25 #[.int .i64 xk, .slice A l.length c]
  have hw2 := hb1.trans (hba.mono hb1.size)
  have hx32 := hx31.below hba
  have hy2 := hy1.below hba
  have ho2 := OwB.below ho hba
  clear hs ho hx31 hy1 q0 q1 q2 hx3 hy
  go_upto_region 2 with (fail)
  obtain ⟨zb, hzb⟩ : ∃ zb, zb = w1.heap.size := ⟨_, rfl⟩
  rw [← hzb] at hz ⊢
  clear hzb hba
  generalize w1.alloc (.cells #[.int .i64 xk, .slice A l.length c] 25) = w2 at *
  have z0 := hz.cell 0
  have z1 := hz.cell 1
  have y0 := hx32.cell 0
  have y1 := hx32.cell 1
  simp only [List.getElem?_toArray, List.getElem?_cons_zero, List.getElem?_cons_succ] at z0 z1 y0 y1
  have T1 : Hid ((xk == k2 && l == l2) = isAt (sideS H K which) p (k2, l2) k) := Lib.hid t1
  have T2 := Lib.hid t2
  clear t1 t2
  go_wp2_with fail
  refine (leafSame_any xk k2 A A2 c c2 l l2 _ _ w2 ho2.rd hy2).mono ?_
  rintro e w3 ⟨rfl, hb3⟩
  rw [T1.out]
  have hw3 := hw2.trans (hb3.mono hw2.size)
  clear z0 z1 y0 y1 hz hx32 hy2 ho2 T1
  go_wp2_with fail
  go_ret2
  exact ⟨⟨u, rfl, T2⟩, hw3⟩

end Go.Proofs.YtdnljmncdbcgeaaGreat

/- watch: Held, Common. -/
namespace Go.Proofs.YtdnljmncdbcgeaaGreat
open Go.RowKit Go.Maps

def bothAt (H K : List (List (List UInt8 × LP))) (p : List UInt8) (x : LP) (j : Nat) : Bool := isAt H p x j && isAt K p x j

set_option maxRecDepth 100000 in
set_option maxHeartbeats 2000000 in
theorem commonC_any (col : Nat → Nat) (gb : Nat) (H K : List (List (List UInt8 × LP))) (p : List UInt8) (k2 : Int) (A2 : Option Addr) (c2 : Nat) (l2 : List UInt8) (x0 x1 x2 : Nat) (Z : Nat → Prop) (w : World) (k : Nat) (h : LogAt w col gb H K) (hp : p.length ≤ 1048576) (hH : H.length ≤ 300)
    (hx0 : Blk w x0 30 #[.pointer (some ⟨gb, 0, none⟩)]) (hx1 : Blk w x1 9 #[.string ⟨⟨p⟩⟩]) (hx2 : Blk w x2 25 #[.int .i64 k2, .slice A2 l2.length c2]) (hy : By w Z A2 l2) (hk : k < H.length) :
    Calls Tryz.prog 49 #[.int .i64 (k : Int), .pointer (some ⟨x0, 0, none⟩), .pointer (some ⟨x1, 0, none⟩), .pointer (some ⟨x2, 0, none⟩)] w fun e w' => AskedTo H.length (bothAt H K p (k2, l2)) k w e w' := by
  have q0 := hx0.cell 0
  have q1 := hx1.cell 0
  simp only [List.getElem?_toArray, List.getElem?_cons_zero] at q0 q1
  have HL := Lib.hid h
  have HLN := Lib.hid h.len
  have HK1 : Hid (k < (sideS H K 1).length) := Lib.hid hk
  have HK2 : Hid (k < (sideS H K 2).length) := Lib.hid (by show k < K.length; rw [← h.len]; exact hk)
  clear hk
  go_enter Tryz.func49, Tryz.ntmps49
  go_wp2_with fail
  refine (watchAt_any col gb H K 1 p (k : Int) w h hp hH (.inl rfl)).mono ?_
  rintro e w1a ⟨x1, u1, rfl, hs1, ho1, hol1, hb1⟩
  obtain ⟨t11, t12⟩ := isAt_to (x := (k2, l2)) hs1.out HK1.out
  obtain ⟨xk1, A1, c1, m1⟩ := x1
  have hw1 : Below w.heap.size w w1a := hb1
  have hba1 : Below w1a.heap.size w1a (w1a.alloc (.cells #[.int .i64 xk1, .slice A1 m1.length c1] 25)) := (Below.refl _ _).alloc (Nat.le_refl _) _
  have hz1 := Blk.new w1a 25 #[.int .i64 xk1, .slice A1 m1.length c1]
  have ho1' := OwB.below ho1 hba1
  have T11 : Hid ((xk1 == k2 && m1 == l2) = isAt (sideS H K 1) p (k2, l2) k) := Lib.hid t11
  have T12 := Lib.hid t12
  clear hs1 ho1 t11 t12
  go_upto_region 2 with (fail)
  obtain ⟨z1, hz1e⟩ : ∃ z1, z1 = w1a.heap.size := ⟨_, rfl⟩
  rw [← hz1e] at hz1 ⊢
  clear hz1e
  replace hw1 := hw1.trans (hba1.mono hw1.size)
  generalize w1a.alloc (.cells #[.int .i64 xk1, .slice A1 m1.length c1] 25) = w2 at *
  have q0' := (hx0.below hw1).cell 0
  have q1' := (hx1.below hw1).cell 0
  simp only [List.getElem?_toArray, List.getElem?_cons_zero] at q0' q1'
  clear q0 q1 hba1
  go_wp2_with fail
  refine (watchAt_any col gb H K 2 p (k : Int) w2 (HL.out.below hw1) hp hH (.inr rfl)).mono ?_
  rintro e w2a ⟨x2, u2, rfl, hs2, ho2, hol2, hb2⟩
  obtain ⟨t21, t22⟩ := isAt_to (x := (k2, l2)) hs2.out HK2.out
  obtain ⟨xk2, AA, cc, m2⟩ := x2
  have hw2 : Below w.heap.size w w2a := hw1.trans (hb2.mono hw1.size)
  have hba2 : Below w2a.heap.size w2a (w2a.alloc (.cells #[.int .i64 xk2, .slice AA m2.length cc] 25)) := (Below.refl _ _).alloc (Nat.le_refl _) _
  have hz2 := Blk.new w2a 25 #[.int .i64 xk2, .slice AA m2.length cc]
  have ho2' := OwB.below ho2 hba2
  have T21 : Hid ((xk2 == k2 && m2 == l2) = isAt (sideS H K 2) p (k2, l2) k) := Lib.hid t21
  have T22 := Lib.hid t22
  clear hs2 ho2 t21 t22
  go_upto_region 3 with (fail)
  obtain ⟨z2, hz2e⟩ : ∃ z2, z2 = w2a.heap.size := ⟨_, rfl⟩
  rw [← hz2e] at hz2 ⊢
  clear hz2e
  replace hw2 := hw2.trans (hba2.mono hw2.size)
  have hz1' := (hz1.below hb2).below hba2
  have ho1'' := OwB.below (OwB.below ho1' hb2) hba2
  have hx2' := hx2.below hw2
  have hy' := hy.below hw2
  generalize w2a.alloc (.cells #[.int .i64 xk2, .slice AA m2.length cc] 25) = w4 at *
  have r0 := hz1'.cell 0
  have r1 := hz1'.cell 1
  have s0 := hz2.cell 0
  have s1 := hz2.cell 1
  have y0 := hx2'.cell 0
  have y1 := hx2'.cell 1
  simp only [List.getElem?_toArray, List.getElem?_cons_zero, List.getElem?_cons_succ] at r0 r1 s0 s1 y0 y1
  clear q0' q1' hba2 hz1 ho1' h HL
  have humin : min (u1 : Int) (u2 : Int) = ((min u1 u2 : Nat) : Int) := by omega
  have HU : Hid (k < min u1 u2 ∧ min u1 u2 ≤ H.length ∧ ∀ j, k ≤ j → j < min u1 u2 → bothAt H K p (k2, l2) j = bothAt H K p (k2, l2) k) := Lib.hid (by
    obtain ⟨a1, b1, d1⟩ := T12.out
    obtain ⟨a2, b2, d2⟩ := T22.out
    have b1' : u1 ≤ H.length := b1
    refine ⟨by omega, by omega, fun j h1 h2 => ?_⟩
    unfold bothAt
    have e1 : isAt H p (k2, l2) j = isAt H p (k2, l2) k := d1 j h1 (by omega)
    have e2 : isAt K p (k2, l2) j = isAt K p (k2, l2) k := d2 j h1 (by omega)
    rw [e1, e2])
  have HB : Hid (bothAt H K p (k2, l2) k = (isAt (sideS H K 1) p (k2, l2) k && isAt (sideS H K 2) p (k2, l2) k)) := Lib.hid rfl
  have HMIN := Lib.hid humin
  have HFR := Lib.hid (fun W (hW : Below w4.heap.size w4 W) => leafSame_any xk2 k2 AA A2 cc c2 m2 l2 _ _ W (ho2'.rd.below hW) (hy'.below hW))
  rw [T21.out] at HFR
  clear humin T12 T22
  go_wp2_with fail
  refine (leafSame_any xk1 k2 A1 A2 c1 c2 m1 l2 _ _ w4 ho1''.rd hy').mono ?_
  rintro e w5 ⟨rfl, hb5⟩
  rw [T11.out]
  have hw5 := hw2.trans (hb5.mono hw2.size)
  have fc : ∀ b o (u : Value), w4.cell? ⟨b, o, none⟩ = some u → b < w4.heap.size → w5.cell? ⟨b, o, none⟩ = some u := fun b o u e hb => cellAt hb5 hb e
  replace r0 := fc _ _ _ r0 hz1'.lt
  replace r1 := fc _ _ _ r1 hz1'.lt
  replace s0 := fc _ _ _ s0 hz2.lt
  replace s1 := fc _ _ _ s1 hz2.lt
  replace y0 := fc _ _ _ y0 hx2'.lt
  replace y1 := fc _ _ _ y1 hx2'.lt
  obtain ⟨V1, hV1⟩ : ∃ V1, V1 = isAt (sideS H K 1) p (k2, l2) k := ⟨_, rfl⟩
  obtain ⟨V2, hV2⟩ : ∃ V2, V2 = isAt (sideS H K 2) p (k2, l2) k := ⟨_, rfl⟩
  rw [← hV1] at HB ⊢
  rw [← hV2] at HB HFR
  have HFR5 := Lib.hid (HFR.out w5 hb5)
  clear hV1 hV2 fc HFR hx2' hz2 hz1' hy' ho1'' ho2' T11 T21 hx0 hx1 hx2 hy
  cases V1
  · go_wp2_with fail
    go_ret2
    exact ⟨⟨min u1 u2, by rw [HB.out, ← HMIN.out]; rfl, HU⟩, hw5⟩
  · go_wp2_with fail
    refine HFR5.out.mono ?_
    rintro e w6 ⟨rfl, hb6⟩
    have hw6 := hw5.trans (hb6.mono hw5.size)
    go_wp2_with fail
    go_ret2
    exact ⟨⟨min u1 u2, by rw [HB.out, ← HMIN.out]; rfl, HU⟩, hw6⟩

end Go.Proofs.YtdnljmncdbcgeaaGreat
