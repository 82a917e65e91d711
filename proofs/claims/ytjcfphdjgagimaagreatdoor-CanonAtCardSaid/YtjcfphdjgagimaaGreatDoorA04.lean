/- sha.Hash.mix: a block is taken. -/
import Derived.Test.YtjcfphdjgagimaaGreatDoorA03
import Derived.Laws.CopyOwn
import Derived.Lib.BitFns
import Derived.Deep.RegionLaw
import Derived.Outline
import Derived.IntWalk
import Derived.OwnWalk

namespace Go.Proofs.YtjcfphdjgagimaaGreatDoor
open Go.RowKit

theorem turn6 (x : Nat) (hx : x < W32) (w : World) : Calls Tryz.prog 90 #[.int .u32 (x : Int), .int .i64 6, .int .i64 11, .int .i64 25] w fun e w' => e = .returned (.int .u32 ((bigS1 x : Nat) : Int)) ∧ w = w' := turn_any x 6 11 25 hx (by omega) (by omega) (by omega) w
theorem turn2 (x : Nat) (hx : x < W32) (w : World) : Calls Tryz.prog 90 #[.int .u32 (x : Int), .int .i64 2, .int .i64 13, .int .i64 22] w fun e w' => e = .returned (.int .u32 ((bigS0 x : Nat) : Int)) ∧ w = w' := turn_any x 2 13 22 hx (by omega) (by omega) (by omega) w
theorem not_u32 (e : Nat) (he : e < W32) : bits .xor .u32 IntKind.u32.max (e : Int) = ((4294967295 - e : Nat) : Int) := by
  have h1 : IntKind.u32.max = ((4294967295 : Nat) : Int) := by simp [IntKind.max, IntKind.bits, IntKind.signed]
  rw [h1, u32_xor_nat 4294967295 e (by decide) he]
  congr 1
  apply Nat.eq_of_testBit_eq
  intro i
  rw [not_bit he, Nat.testBit_xor]
  have : (4294967295 : Nat).testBit i = decide (i < 32) := by
    have := Nat.testBit_two_pow_sub_one 32 i
    exact this
  rw [this]
  by_cases hi : i < 32
  · simp [hi]
  · have h0 : e.testBit i = false := Nat.testBit_lt_two_pow (Nat.lt_of_lt_of_le (show e < 2 ^ 32 from he) (Nat.pow_le_pow_right (by decide) (by omega)))
    simp [hi, h0]
theorem and_u32 {a b : Nat} (ha : a < W32) (hb : b < W32) : bits .and .u32 (a : Int) (b : Int) = ((a &&& b : Nat) : Int) := u32_and_nat a b ha hb
theorem add_u32 (a b : Nat) : IntKind.u32.wrap ((a : Int) + (b : Int)) = (((a + b) % W32 : Nat) : Int) := by rw [← wrap_u32]; rfl
theorem index8 (v : V8) (i : Nat) (hi : i < 8) (W : World) : (Instr.index 77 (.agg #[u32v v.a, u32v v.b, u32v v.c, u32v v.d, u32v v.e, u32v v.f, u32v v.g, u32v v.h]) (.int .i64 (i : Int))).run Tryz.prog W = .ok (.int .u32 ((v.l.getD i 0 : Nat) : Int)) W := by
  obtain rfl | rfl | rfl | rfl | rfl | rfl | rfl | rfl : i = 0 ∨ i = 1 ∨ i = 2 ∨ i = 3 ∨ i = 4 ∨ i = 5 ∨ i = 6 ∨ i = 7 := by omega
  all_goals kernel_rfl

set_option maxRecDepth 100000 in
set_option maxHeartbeats 4000000 in
theorem mix_any (hb : Nat) (s : V8) (P : List UInt8) (n : Int) (w : World) (h : HashAt w hb s.l P n) (hG : Globs w) (h2 : 2 ≤ hb) :
    Calls Tryz.prog 67 #[.pointer (some ⟨hb, 0, none⟩), .slice (some ⟨hb, 8, none⟩) 64 64] w fun e w' => e = .returned (.tuple #[]) ∧ HashAt w' hb (add8 s (rounds P (add8 s first8) 64)).l P n ∧ Fr (fun x => x = hb) w w' := by
  have hlt0 := h.blk.lt
  have HS := Lib.hid (spread_any (some ⟨hb, 8, none⟩) 64 P _ w h.by_ h.lp (by omega) (by simp [maxLen]))
  obtain ⟨X, hX⟩ : ∃ X, X = add8 s first8 := ⟨_, rfl⟩
  have HX := Lib.hid hX
  have hXok : X.ok := by rw [hX]; exact add8_ok _ _
  rw [← hX]
  have HH := Lib.hid h
  have HGG := Lib.hid hG
  clear h hG hX
  go_enter Tryz.func67, Tryz.ntmps67
  go_wp2_with fail
  refine HS.out.mono ?_
  rintro e w1 ⟨rfl, hb1⟩
  obtain ⟨WL, hWL⟩ : ∃ WL, WL = schedW P := ⟨_, rfl⟩
  rw [← hWL]
  have hWLl : WL.length = 64 := by rw [hWL]; exact schedI_len P 64
  have HWL := Lib.hid hWLl
  have HWS := Lib.hid hWL
  have hsz : (WL.map u32v).toArray.size = 64 := by simp [hWLl]
  have hsi : (Tryz.prog.info? 127).map (·.size) = some (WL.map u32v).toArray.size := by rw [hsz]; kernel_rfl
  have HSI := Lib.hid hsi
  have HO := Lib.hid (words_one WL)
  have hsz2 : (#[.int .u32 0, .int .u32 0, .int .u32 0, .int .u32 0, .int .u32 0, .int .u32 0, .int .u32 0, .int .u32 0, .int .u32 0, .int .u32 0, .int .u32 0, .int .u32 0, .int .u32 0, .int .u32 0, .int .u32 0, .int .u32 0, .int .u32 0, .int .u32 0, .int .u32 0, .int .u32 0, .int .u32 0, .int .u32 0, .int .u32 0, .int .u32 0, .int .u32 0, .int .u32 0, .int .u32 0, .int .u32 0, .int .u32 0, .int .u32 0, .int .u32 0, .int .u32 0, .int .u32 0, .int .u32 0, .int .u32 0, .int .u32 0, .int .u32 0, .int .u32 0, .int .u32 0, .int .u32 0, .int .u32 0, .int .u32 0, .int .u32 0, .int .u32 0, .int .u32 0, .int .u32 0, .int .u32 0, .int .u32 0, .int .u32 0, .int .u32 0, .int .u32 0, .int .u32 0, .int .u32 0, .int .u32 0, .int .u32 0, .int .u32 0, .int .u32 0, .int .u32 0, .int .u32 0, .int .u32 0, .int .u32 0, .int .u32 0, .int .u32 0, .int .u32 0] : Array Value).size = (WL.map u32v).toArray.size := by rw [hsz]; rfl
  have HSZ := Lib.hid hsz2
  clear hWL hWLl hsz hsi hsz2 HS
  go_upto_region 2 with (first | (refine wpList_store_row rfl 127 _ _ rfl w1.heap.size _ rfl rfl 127 _ (heap_alloc_last w1 _) HSI.out HSZ.out HO.out ?_))
  rw [World.setRow_alloc_new]
  have y0 : Blk ((w1.alloc (.cells (WL.map u32v).toArray 127)).alloc (.cells #[.int .u32 0, .int .u32 0, .int .u32 0, .int .u32 0, .int .u32 0, .int .u32 0, .int .u32 0, .int .u32 0] 77)) w1.heap.size 127 (WL.map u32v).toArray := (Blk.new w1 127 _).below ((Below.refl _ _).alloc (Nat.le_refl _) _)
  have y1 : Blk ((w1.alloc (.cells (WL.map u32v).toArray 127)).alloc (.cells #[.int .u32 0, .int .u32 0, .int .u32 0, .int .u32 0, .int .u32 0, .int .u32 0, .int .u32 0, .int .u32 0] 77)) (w1.heap.size + 1) 77 (((List.replicate 8 0).map u32v).toArray) := by
    have := Blk.new (w1.alloc (.cells (WL.map u32v).toArray 127)) 77 #[.int .u32 0, .int .u32 0, .int .u32 0, .int .u32 0, .int .u32 0, .int .u32 0, .int .u32 0, .int .u32 0]
    rwa [show (w1.alloc (.cells (WL.map u32v).toArray 127)).heap.size = w1.heap.size + 1 by simp] at this
  have hb2 : Below w1.heap.size w1 ((w1.alloc (.cells (WL.map u32v).toArray 127)).alloc (.cells #[.int .u32 0, .int .u32 0, .int .u32 0, .int .u32 0, .int .u32 0, .int .u32 0, .int .u32 0, .int .u32 0] 77)) := ((Below.refl _ _).alloc (Nat.le_refl _) _).alloc (by simp) _
  have hw2 := hb1.trans (hb2.mono hb1.size)
  have HH2 := Lib.hid (HH.out.below hw2)
  have HG2 := Lib.hid (HGG.out.below hw2)
  have l1 := hb1.size
  have hl2 := HGG.out.lt
  obtain ⟨gw, hgw⟩ : ∃ gw, gw = w1.heap.size := ⟨_, rfl⟩
  rw [← hgw] at y0 y1 l1 ⊢
  generalize ((w1.alloc (.cells (WL.map u32v).toArray 127)).alloc (.cells #[.int .u32 0, .int .u32 0, .int .u32 0, .int .u32 0, .int .u32 0, .int .u32 0, .int .u32 0, .int .u32 0] 77)) = w2 at *
  obtain ⟨vb, hvb⟩ : ∃ vb, vb = gw + 1 := ⟨_, rfl⟩
  rw [← hvb] at y1 ⊢
  have hv2 : 2 ≤ vb := by omega
  have hvh : vb ≠ hb := by omega
  have hvg : gw ≠ vb := by omega
  have hvw : w.heap.size ≤ vb := by omega
  have hgw2 : w.heap.size ≤ gw := by omega
  have HBW0 := Lib.hid y0
  clear hb2 hgw hvb hb1 y0 l1 HSI HO HSZ
  go_wp2_with fail
  go_loopw [16] (fun iv wr => ∃ (i : Nat) (V : List Nat), i ≤ 8 ∧ iv = .int .i64 (i : Int) ∧ Blk wr vb 77 (V.map u32v).toArray ∧ V.length = 8 ∧ Hid (V.take i = X.l.take i) ∧ Fr (fun x => x = vb) w2 wr) (fun iv _ => 8 - (intOf iv).toNat)
  case atStart => exact ⟨0, List.replicate 8 0, Nat.zero_le _, rfl, y1, rfl, Lib.hid rfl, Fr.refl _ _⟩
  case round =>
    obtain ⟨i, V, hi, rfl, hB, hV, hT, hf⟩ := hrel
    by_cases hlt : i < 8
    · have hlti : (i : Int) < 8 := by omega
      have HHA := Lib.hid (HH2.out.fr hf (fun e => hvh e.symm))
      have HG := Lib.hid (HG2.out.fr hf (by omega) (by omega))
      have hgl := HG.out.lt
      have hhl := HHA.out.blk.lt
      obtain ⟨p1, hp1⟩ : ∃ p, p = s.l.getD i 0 := ⟨_, rfl⟩
      obtain ⟨p2, hp2⟩ : ∃ p, p = first8.l.getD i 0 := ⟨_, rfl⟩
      obtain ⟨p3, hp3⟩ : ∃ p, p = X.l.getD i 0 := ⟨_, rfl⟩
      have hadd : IntKind.u32.wrap ((p1 : Int) + (p2 : Int)) = (p3 : Int) := by rw [add_u32, hp1, hp2, hp3, HX.out, add8_get s first8 hlt]
      have HP1 : Hid (s.l.getD i 0 = p1) := Lib.hid hp1.symm
      have HP2 : Hid (first8.l.getD i 0 = p2) := Lib.hid hp2.symm
      have HTT : Hid ((V.set i p3).take (i + 1) = X.l.take (i + 1)) := Lib.hid (by rw [hp3]; exact take_next hT.out (by omega) hlt)
      have HVL : Hid ((V.set i p3).length = 8) := Lib.hid (by rw [List.length_set, hV])
      have hst := words_set hB i p3
      have fz := hB.frozen i
      have cw := words_cell hB (i := i) (by omega)
      have hf3 := hf.trans ((Fr.refl (fun x => x = vb) wr).setAt vb i rfl (.int .u32 (p3 : Int))) (fun _ _ e => e)
      have HB := Lib.hid hB
      have hbv := hB.lt
      clear hp1 hp2 hp3 hT hV hst hf3 hB cw fz
      go_wp2_with fail
      refine wp_region_line (.tell 0 (.tell 1 (.tell 2 (.tell 3 (.tell 4 (.tell 5 (.tell 6 (.tell 7 (.tell 8 (.tell 9 (.tell 10 (.tell 11 .done)))))))))))) (fun W => Below wr.heap.size wr W) (by kernel_rfl) (by kernel_rfl) ?_
      refine pl_val (by (simp only [List.getElem?_toArray, List.getElem?_cons_zero]; rfl)) (by kernel_rfl) ⟨_, (by (intro w' hC; clear hC; (try go_simp); (try with_reducible rfl); done)), _, (by (simp only [Act.put, List.setIfInBounds_toArray, List.set_cons_zero, List.set_cons_succ]; rfl)), ?_⟩
      refine pl_val (by (simp only [List.getElem?_toArray, List.getElem?_cons_succ, List.getElem?_cons_zero]; rfl)) (by kernel_rfl) ⟨_, (by (intro w' hC; clear hC; (try go_simp); (try with_reducible rfl); done)), _, (by (simp only [Act.put, List.setIfInBounds_toArray, List.set_cons_zero, List.set_cons_succ]; rfl)), ?_⟩
      refine pl_val (by (simp only [List.getElem?_toArray, List.getElem?_cons_succ, List.getElem?_cons_zero]; rfl)) (by kernel_rfl) ⟨_, (by (intro w' hC; clear hC; (try go_simp); (try with_reducible rfl); done)), _, (by (simp only [Act.put, List.setIfInBounds_toArray, List.set_cons_zero, List.set_cons_succ]; rfl)), ?_⟩
      refine pl_val (by (simp only [List.getElem?_toArray, List.getElem?_cons_succ, List.getElem?_cons_zero]; rfl)) (by kernel_rfl) ⟨_, (by (intro w' hC; clear hC; (try go_simp); (try with_reducible rfl); done)), _, (by (simp only [Act.put, List.setIfInBounds_toArray, List.set_cons_zero, List.set_cons_succ]; rfl)), ?_⟩
      refine pl_val (by (simp only [List.getElem?_toArray, List.getElem?_cons_succ, List.getElem?_cons_zero]; rfl)) (by kernel_rfl) ⟨_, (by (intro w' hC; clear hC; (try go_simp); (try with_reducible rfl); done)), _, (by (simp only [Act.put, List.setIfInBounds_toArray, List.set_cons_zero, List.set_cons_succ]; rfl)), ?_⟩
      refine pl_val (by (simp only [List.getElem?_toArray, List.getElem?_cons_succ, List.getElem?_cons_zero]; rfl)) (by kernel_rfl) ⟨_, (by (intro w' hC; clear hC; (try go_simp); (try with_reducible rfl); done)), _, (by (simp only [Act.put, List.setIfInBounds_toArray, List.set_cons_zero, List.set_cons_succ]; rfl)), ?_⟩
      refine pl_val (by (simp only [List.getElem?_toArray, List.getElem?_cons_succ, List.getElem?_cons_zero]; rfl)) (by kernel_rfl) ⟨_, (by (intro w' hC; have q := (HHA.out.below hC).st (i := i) hlt; rw [HP1.out] at q; clear hC; (try go_simp); (try with_reducible rfl); done)), _, (by (simp only [Act.put, List.setIfInBounds_toArray, List.set_cons_zero, List.set_cons_succ]; rfl)), ?_⟩
      refine pl_val (by (simp only [List.getElem?_toArray, List.getElem?_cons_succ, List.getElem?_cons_zero]; rfl)) (by kernel_rfl) ⟨_, (by (intro w' hC; clear hC; (try go_simp); (try with_reducible rfl); done)), _, (by (simp only [Act.put, List.setIfInBounds_toArray, List.set_cons_zero, List.set_cons_succ]; rfl)), ?_⟩
      refine pl_val (by (simp only [List.getElem?_toArray, List.getElem?_cons_succ, List.getElem?_cons_zero]; rfl)) (by kernel_rfl) ⟨_, (by (intro w' hC; clear hC; (try go_simp); (try with_reducible rfl); done)), _, (by (simp only [Act.put, List.setIfInBounds_toArray, List.set_cons_zero, List.set_cons_succ]; rfl)), ?_⟩
      refine pl_val (by (simp only [List.getElem?_toArray, List.getElem?_cons_succ, List.getElem?_cons_zero]; rfl)) (by kernel_rfl) ⟨_, (by (intro w' hC; have q := (HG.out.below hC).f i hlt; rw [HP2.out] at q; clear hC; (try go_simp); (try with_reducible rfl); done)), _, (by (simp only [Act.put, List.setIfInBounds_toArray, List.set_cons_zero, List.set_cons_succ]; rfl)), ?_⟩
      refine pl_val (by (simp only [List.getElem?_toArray, List.getElem?_cons_succ, List.getElem?_cons_zero]; rfl)) (by kernel_rfl) ⟨_, (by (intro w' hC; clear hC; (try go_simp); (try with_reducible rfl); done)), _, (by (simp only [Act.put, List.setIfInBounds_toArray, List.set_cons_zero, List.set_cons_succ]; rfl)), ?_⟩
      refine pl_val (by (simp only [List.getElem?_toArray, List.getElem?_cons_succ, List.getElem?_cons_zero]; rfl)) (by kernel_rfl) ⟨_, (by (intro w' hC; clear hC; (try go_simp); (try with_reducible rfl); done)), _, (by (simp only [Act.put, List.setIfInBounds_toArray, List.set_cons_zero, List.set_cons_succ]; rfl)), ?_⟩
      have hBD : Below wr.heap.size wr wr.drew := (Below.refl _ _).drew
      refine pl_end hBD ?_
      simp only [Plan.count, Nat.reduceAdd, List.drop_succ_cons, List.drop_zero]
      have hB6 := HB.out.below hBD
      have hf6 := hf.then_below hBD
      generalize wr.drew = w6 at *
      have fz := hB6.frozen i
      have cw := words_cell hB6 (i := i) (by have := HVL.out; rw [List.length_set] at this; omega)
      have HST := Lib.hid (words_set hB6 i p3)
      have HF3 := Lib.hid (hf6.trans ((Fr.refl (fun x => x = vb) w6).setAt vb i rfl (.int .u32 (p3 : Int))) (fun _ _ e => e))
      clear hB6 hf6 hBD HB hf
      go_wp2_with fail
      go_roundw
      case rel => exact ⟨i + 1, V.set i p3, hlt, by go_num, HST.out, HVL.out, HTT, HF3.out⟩
      case measure => simp [intOf]; omega
    · have hi8 : i = 8 := by omega
      have hge8 : ¬ (i : Int) < 8 := by omega
      have hVX : V = X.l := by
        have h := hT.out
        rw [hi8] at h
        rw [List.take_of_length_le (by omega)] at h
        exact h
      subst hVX
      have HB0 : Hid (Blk wr vb 77 #[.int .u32 (X.a : Int), .int .u32 (X.b : Int), .int .u32 (X.c : Int), .int .u32 (X.d : Int), .int .u32 (X.e : Int), .int .u32 (X.f : Int), .int .u32 (X.g : Int), .int .u32 (X.h : Int)]) := Lib.hid hB
      have HF0 := Lib.hid hf
      clear hB hV hT hlt hi hf hi8
      go_wp2_with fail
      rename World => wo
      go_loopw [32] (fun iv wr => ∃ (i : Nat) (v : V8), i ≤ 64 ∧ iv = .int .i64 (i : Int) ∧ Blk wr vb 77 #[.int .u32 (v.a : Int), .int .u32 (v.b : Int), .int .u32 (v.c : Int), .int .u32 (v.d : Int), .int .u32 (v.e : Int), .int .u32 (v.f : Int), .int .u32 (v.g : Int), .int .u32 (v.h : Int)] ∧ v.ok ∧ Hid (v = rounds P X i) ∧ Fr (fun x => x = vb) w2 wr) (fun iv _ => 64 - (intOf iv).toNat)
      case atStart => exact ⟨0, X, Nat.zero_le _, rfl, HB0.out, hXok, Lib.hid rfl, HF0.out⟩
      case round =>
        obtain ⟨i, v, hi, rfl, bv_, hok, hv, hf⟩ := hrel
        by_cases hlt : i < 64
        · have hlti : (i : Int) < 64 := by omega
          have HG := Lib.hid (HG2.out.fr hf (by omega) (by omega))
          have hgl := HG.out.lt
          have HBW := Lib.hid (HBW0.out.fr hf hvg)
          have hgwl := HBW.out.lt
          have hvbl := bv_.lt
          obtain ⟨kk, hkk⟩ : ∃ kk, kk = rootsK.getD i 0 := ⟨_, rfl⟩
          obtain ⟨wi, hwi⟩ : ∃ wi, wi = WL.getD i 0 := ⟨_, rfl⟩
          have HWI : Hid (WL.getD i 0 = wi) := Lib.hid hwi.symm
          have HKK : Hid (rootsK.getD i 0 = kk) := Lib.hid hkk.symm
          obtain ⟨va, vbb, vc, vd, ve, vf, vg, vh⟩ := v
          obtain ⟨oa, ob, oc, od, oe, of_, og, oh⟩ := hok
          dsimp only at *
          obtain ⟨e1, he1⟩ : ∃ x, x = ve &&& vf := ⟨_, rfl⟩
          obtain ⟨ne, hne⟩ : ∃ x, x = 4294967295 - ve := ⟨_, rfl⟩
          obtain ⟨e2, he2⟩ : ∃ x, x = ne &&& vg := ⟨_, rfl⟩
          obtain ⟨ch, hch⟩ : ∃ x, x = e1 ^^^ e2 := ⟨_, rfl⟩
          obtain ⟨m1, hm1⟩ : ∃ x, x = va &&& vbb := ⟨_, rfl⟩
          obtain ⟨m2, hm2⟩ : ∃ x, x = va &&& vc := ⟨_, rfl⟩
          obtain ⟨m12, hm12⟩ : ∃ x, x = m1 ^^^ m2 := ⟨_, rfl⟩
          obtain ⟨m3, hm3⟩ : ∃ x, x = vbb &&& vc := ⟨_, rfl⟩
          obtain ⟨mj, hmj⟩ : ∃ x, x = m12 ^^^ m3 := ⟨_, rfl⟩
          have lne : ne < W32 := by rw [hne]; unfold W32; omega
          have le1 : e1 < W32 := by rw [he1]; exact and_lt oe
          have le2 : e2 < W32 := by rw [he2]; exact and_lt lne
          have lm1 : m1 < W32 := by rw [hm1]; exact and_lt oa
          have lm2 : m2 < W32 := by rw [hm2]; exact and_lt oa
          have lm12 : m12 < W32 := by rw [hm12]; exact xor_lt lm1 lm2
          have lm3 : m3 < W32 := by rw [hm3]; exact and_lt ob
          have a1 : bits .and .u32 (ve : Int) (vf : Int) = (e1 : Int) := by rw [and_u32 oe of_, he1]
          have a2 : bits .xor .u32 IntKind.u32.max (ve : Int) = (ne : Int) := by rw [not_u32 ve oe, hne]
          have a3 : bits .and .u32 (ne : Int) (vg : Int) = (e2 : Int) := by rw [and_u32 lne og, he2]
          have a4 : bits .xor .u32 (e1 : Int) (e2 : Int) = (ch : Int) := by rw [xor_u32 le1 le2, hch]
          have a5 : bits .and .u32 (va : Int) (vbb : Int) = (m1 : Int) := by rw [and_u32 oa ob, hm1]
          have a6 : bits .and .u32 (va : Int) (vc : Int) = (m2 : Int) := by rw [and_u32 oa oc, hm2]
          have a7 : bits .xor .u32 (m1 : Int) (m2 : Int) = (m12 : Int) := by rw [xor_u32 lm1 lm2, hm12]
          have a8 : bits .and .u32 (vbb : Int) (vc : Int) = (m3 : Int) := by rw [and_u32 ob oc, hm3]
          have a9 : bits .xor .u32 (m12 : Int) (m3 : Int) = (mj : Int) := by rw [xor_u32 lm12 lm3, hmj]
          have hchF : ch = chF ve vf vg := by rw [hch, he1, he2, hne]; rfl
          have hmjF : mj = majF va vbb vc := by rw [hmj, hm12, hm1, hm2, hm3]; rfl
          obtain ⟨t6, ht6⟩ : ∃ x, x = bigS1 ve := ⟨_, rfl⟩
          obtain ⟨t2, ht2⟩ : ∃ x, x = bigS0 va := ⟨_, rfl⟩
          have HT6 := Lib.hid (fun W => turn6 ve oe W)
          have HT2 := Lib.hid (fun W => turn2 va oa W)
          rw [← ht6] at HT6
          rw [← ht2] at HT2
          obtain ⟨s1, hs1⟩ : ∃ x, x = (vh + t6) % W32 := ⟨_, rfl⟩
          obtain ⟨s2, hs2⟩ : ∃ x, x = (s1 + ch) % W32 := ⟨_, rfl⟩
          obtain ⟨s3, hs3⟩ : ∃ x, x = (s2 + kk) % W32 := ⟨_, rfl⟩
          obtain ⟨s4, hs4⟩ : ∃ x, x = (s3 + wi) % W32 := ⟨_, rfl⟩
          obtain ⟨s6, hs6⟩ : ∃ x, x = (t2 + mj) % W32 := ⟨_, rfl⟩
          obtain ⟨s7, hs7⟩ : ∃ x, x = (s4 + s6) % W32 := ⟨_, rfl⟩
          obtain ⟨s8, hs8⟩ : ∃ x, x = (vd + s4) % W32 := ⟨_, rfl⟩
          have b1 : IntKind.u32.wrap ((vh : Int) + (t6 : Int)) = (s1 : Int) := by rw [add_u32, hs1]
          have b2 : IntKind.u32.wrap ((s1 : Int) + (ch : Int)) = (s2 : Int) := by rw [add_u32, hs2]
          have b3 : IntKind.u32.wrap ((s2 : Int) + (kk : Int)) = (s3 : Int) := by rw [add_u32, hs3]
          have b4 : IntKind.u32.wrap ((s3 : Int) + (wi : Int)) = (s4 : Int) := by rw [add_u32, hs4]
          have b6 : IntKind.u32.wrap ((t2 : Int) + (mj : Int)) = (s6 : Int) := by rw [add_u32, hs6]
          have b7 : IntKind.u32.wrap ((s4 : Int) + (s6 : Int)) = (s7 : Int) := by rw [add_u32, hs7]
          have b8 : IntKind.u32.wrap ((vd : Int) + (s4 : Int)) = (s8 : Int) := by rw [add_u32, hs8]
          have HNV : Hid ((⟨s7, va, vbb, vc, s8, ve, vf, vg⟩ : V8) = rounds P X (i + 1)) := Lib.hid (by
            rw [rounds, ← hv.out, ← HWS.out, ← hwi, ← hkk]
            unfold rnd
            dsimp only
            rw [← ht6, ← ht2, ← hchF, ← hmjF, hs7, hs8, hs6, hs4, hs3, hs2, hs1]
            unfold W32
            simp only [V8.mk.injEq, and_true, true_and]
            constructor <;> omega)
          have hok2 : (⟨s7, va, vbb, vc, s8, ve, vf, vg⟩ : V8).ok := by rw [HNV.out]; exact rounds_ok hXok _
          have HF := Lib.hid hf
          have HBV := Lib.hid bv_
          clear he1 hne he2 hch hm1 hm2 hm12 hm3 hmj lne le1 le2 lm1 lm2 lm12 lm3 hchF hmjF ht6 ht2 hs1 hs2 hs3 hs4 hs6 hs7 hs8 hkk hwi hv oa ob oc od oe of_ og oh
          have bv_ := HBV.out
          have c0 := bv_.cell 0
          have c1 := bv_.cell 1
          have c2 := bv_.cell 2
          have c3 := bv_.cell 3
          have c4 := bv_.cell 4
          have c5 := bv_.cell 5
          have c6 := bv_.cell 6
          have c7 := bv_.cell 7
          simp only [List.getElem?_toArray, List.getElem?_cons_zero, List.getElem?_cons_succ] at c0 c1 c2 c3 c4 c5 c6 c7
          go_wp2_with fail
          refine wp_region_p [(0, true), (1, true), (2, true), (3, true), (6, true), (8, true), (9, true), (10, true), (12, true), (13, true), (14, true), (4, false), (5, true), (7, true), (11, true), (15, true)] (fun W => Below wr.heap.size wr W) (by kernel_rfl) (by kernel_rfl) ?_
          simp only [List.map_cons, List.map_nil, List.filterMap_cons, List.filterMap_nil, List.getElem?_cons_zero, List.getElem?_cons_succ, List.length_cons, List.length_nil, Nat.zero_add, Nat.reduceAdd, List.drop_succ_cons, List.drop_zero]
          refine mx_val (by kernel_rfl) ⟨_, (by (intro w' hC; clear hC; (try go_simp); (try with_reducible rfl); done)), _, (by (simp only [Act.put, List.setIfInBounds_toArray, List.set_cons_zero, List.set_cons_succ]; rfl)), ?_⟩
          refine mx_val (by kernel_rfl) ⟨_, (by (intro w' hC; (have q := (bv_.below hC).cell 7; simp only [List.getElem?_toArray, List.getElem?_cons_zero, List.getElem?_cons_succ] at q; skip); clear hC; (try go_simp); (try with_reducible rfl); done)), _, (by (simp only [Act.put, List.setIfInBounds_toArray, List.set_cons_zero, List.set_cons_succ]; rfl)), ?_⟩
          refine mx_val (by kernel_rfl) ⟨_, (by (intro w' hC; clear hC; (try go_simp); (try with_reducible rfl); done)), _, (by (simp only [Act.put, List.setIfInBounds_toArray, List.set_cons_zero, List.set_cons_succ]; rfl)), ?_⟩
          refine mx_val (by kernel_rfl) ⟨_, (by (intro w' hC; (have q := (bv_.below hC).cell 4; simp only [List.getElem?_toArray, List.getElem?_cons_zero, List.getElem?_cons_succ] at q; skip); clear hC; (try go_simp); (try with_reducible rfl); done)), _, (by (simp only [Act.put, List.setIfInBounds_toArray, List.set_cons_zero, List.set_cons_succ]; rfl)), ?_⟩
          refine mx_move _ (by kernel_rfl) rfl ⟨_, (by ((try simp [go_sem]); (try rfl); done)), _, (by (simp only [Act.put, List.setIfInBounds_toArray, List.set_cons_zero, List.set_cons_succ]; rfl)), ?_⟩
          refine mx_move _ (by kernel_rfl) rfl ⟨_, (by ((try simp [go_sem]); (try rfl); done)), _, (by (simp only [Act.put, List.setIfInBounds_toArray, List.set_cons_zero, List.set_cons_succ]; rfl)), ?_⟩
          refine mx_val (by kernel_rfl) ⟨_, (by (intro w' hC; clear hC; (try go_simp); (try with_reducible rfl); done)), _, (by (simp only [Act.put, List.setIfInBounds_toArray, List.set_cons_zero, List.set_cons_succ]; rfl)), ?_⟩
          refine mx_val (by kernel_rfl) ⟨_, (by (intro w' hC; (have q := (HG.out.below hC).r i hlt; rw [HKK.out] at q); clear hC; (try go_simp); (try with_reducible rfl); done)), _, (by (simp only [Act.put, List.setIfInBounds_toArray, List.set_cons_zero, List.set_cons_succ]; rfl)), ?_⟩
          refine mx_move _ (by kernel_rfl) rfl ⟨_, (by ((try simp [go_sem]); (try rfl); done)), _, (by (simp only [Act.put, List.setIfInBounds_toArray, List.set_cons_zero, List.set_cons_succ]; rfl)), ?_⟩
          refine mx_val (by kernel_rfl) ⟨_, (by (intro w' hC; clear hC; (try go_simp); (try with_reducible rfl); done)), _, (by (simp only [Act.put, List.setIfInBounds_toArray, List.set_cons_zero, List.set_cons_succ]; rfl)), ?_⟩
          refine mx_val (by kernel_rfl) ⟨_, (by (intro w' hC; (have q := words_cell (HBW.out.below hC) (i := i) (by rw [HWL.out]; exact hlt); rw [HWI.out] at q); clear hC; (try go_simp); (try with_reducible rfl); done)), _, (by (simp only [Act.put, List.setIfInBounds_toArray, List.set_cons_zero, List.set_cons_succ]; rfl)), ?_⟩
          refine mx_call ((Below.refl _ _).drew) (by kernel_rfl) ?_ (HT6.out _) ?_
          · (go_simp; done)
          rintro e w2 ⟨rfl, rfl⟩
          refine ⟨_, rfl, _, (by (simp only [Act.put, List.setIfInBounds_toArray, List.set_cons_zero, List.set_cons_succ]; rfl)), ?_⟩
          refine mx_val (by kernel_rfl) ⟨_, (by (intro w' hC; clear hC; (try go_simp); (try with_reducible rfl); done)), _, (by (simp only [Act.put, List.setIfInBounds_toArray, List.set_cons_zero, List.set_cons_succ]; rfl)), ?_⟩
          refine mx_val (by kernel_rfl) ⟨_, (by (intro w' hC; clear hC; (try go_simp); (try with_reducible rfl); done)), _, (by (simp only [Act.put, List.setIfInBounds_toArray, List.set_cons_zero, List.set_cons_succ]; rfl)), ?_⟩
          refine mx_val (by kernel_rfl) ⟨_, (by (intro w' hC; clear hC; (try go_simp); (try with_reducible rfl); done)), _, (by (simp only [Act.put, List.setIfInBounds_toArray, List.set_cons_zero, List.set_cons_succ]; rfl)), ?_⟩
          refine mx_val (by kernel_rfl) ⟨_, (by (intro w' hC; clear hC; (try go_simp); (try with_reducible rfl); done)), _, (by (simp only [Act.put, List.setIfInBounds_toArray, List.set_cons_zero, List.set_cons_succ]; rfl)), ?_⟩
          refine mx_end ((Below.refl _ _).drew) ?_
          have hBD : Below wr.heap.size wr wr.drew := (Below.refl _ _).drew
          replace bv_ := HBV.out.below hBD
          have hf6 := HF.out.then_below hBD
          clear c0 c1 c2 c3 c4 c5 c6 c7
          generalize wr.drew = w2' at *
          have c0 := bv_.cell 0
          have c1 := bv_.cell 1
          have c2 := bv_.cell 2
          have c3 := bv_.cell 3
          have c4 := bv_.cell 4
          have c5 := bv_.cell 5
          have c6 := bv_.cell 6
          have c7 := bv_.cell 7
          simp only [List.getElem?_toArray, List.getElem?_cons_zero, List.getElem?_cons_succ] at c0 c1 c2 c3 c4 c5 c6 c7
          clear HT6 HBV HF hf hBD HG HBW hgl hgwl
          have hvbl2 := bv_.lt
          go_wp2_with fail
          refine (HT2.out _).mono ?_
          rintro e w3 ⟨rfl, rfl⟩
          have kf : Fr (fun x => x = vb) w2' ((((((((w2'.setCell ⟨vb, 0, none⟩ (.int .u32 (s7 : Int))).setCell ⟨vb, 1, none⟩ (.int .u32 (va : Int))).setCell ⟨vb, 2, none⟩ (.int .u32 (vbb : Int))).setCell ⟨vb, 3, none⟩ (.int .u32 (vc : Int))).setCell ⟨vb, 4, none⟩ (.int .u32 (s8 : Int))).setCell ⟨vb, 5, none⟩ (.int .u32 (ve : Int))).setCell ⟨vb, 6, none⟩ (.int .u32 (vf : Int))).setCell ⟨vb, 7, none⟩ (.int .u32 (vg : Int))) := (((((((((Fr.refl (fun x => x = vb) w2').setAt vb 0 rfl _).setAt vb 1 rfl _).setAt vb 2 rfl _).setAt vb 3 rfl _).setAt vb 4 rfl _).setAt vb 5 rfl _).setAt vb 6 rfl _).setAt vb 7 rfl _)
          have bv8 := ((((((((bv_.set_ 0 (.int .u32 (s7 : Int))).set_ 1 (.int .u32 (va : Int))).set_ 2 (.int .u32 (vbb : Int))).set_ 3 (.int .u32 (vc : Int))).set_ 4 (.int .u32 (s8 : Int))).set_ 5 (.int .u32 (ve : Int))).set_ 6 (.int .u32 (vf : Int))).set_ 7 (.int .u32 (vg : Int)))
          simp only [List.setIfInBounds_toArray, List.set_cons_zero, List.set_cons_succ] at bv8
          have HB8 := Lib.hid bv8
          have HF8 := Lib.hid (hf6.trans kf (fun _ _ e => e))
          have fz := fun o => bv_.frozen o
          clear bv8 kf hf6 HT2
          go_wp2_with fail
          go_roundw
          case rel => exact ⟨i + 1, ⟨s7, va, vbb, vc, s8, ve, vf, vg⟩, hlt, by go_num, HB8.out, hok2, HNV, HF8.out⟩
          case measure => simp [intOf]; omega
        · have hi64 : i = 64 := by omega
          have hge64 : ¬ (i : Int) < 64 := by omega
          have HV : Hid (v = rounds P X 64) := Lib.hid (by rw [hv.out, hi64])
          obtain ⟨Y, hY⟩ : ∃ Y, Y = add8 s v := ⟨_, rfl⟩
          have HY := Lib.hid hY
          have HH4 := Lib.hid (HH2.out.fr hf (fun e => hvh e.symm))
          have HFW := Lib.hid (hw2.trans (hf.below (B := w.heap.size) hw2.size (fun k hk e => by omega)))
          have hix := fun (i : Nat) (hi : i < 8) (W : World) => index8 v i hi W
          have HIX := Lib.hid hix
          have hvbl := bv_.lt
          have c0 := bv_.cell 0
          have c1 := bv_.cell 1
          have c2 := bv_.cell 2
          have c3 := bv_.cell 3
          have c4 := bv_.cell 4
          have c5 := bv_.cell 5
          have c6 := bv_.cell 6
          have c7 := bv_.cell 7
          simp only [List.getElem?_toArray, List.getElem?_cons_zero, List.getElem?_cons_succ] at c0 c1 c2 c3 c4 c5 c6 c7
          clear hix hY hv hi64 hlt hi
          go_wp2_with fail
          rename World => wq
          clear c0 c1 c2 c3 c4 c5 c6 c7 bv_ hf
          go_loopw [107] (fun iv wr => ∃ (i : Nat) (T : List Nat), i ≤ 8 ∧ iv = .int .i64 (i : Int) ∧ HashAt wr hb T P n ∧ Hid (T.take i = Y.l.take i) ∧ Hid (∀ j, i ≤ j → T.getD j 0 = s.l.getD j 0) ∧ Fr (fun x => x = hb) wq wr) (fun iv _ => 8 - (intOf iv).toNat)
          case atStart => exact ⟨0, s.l, Nat.zero_le _, rfl, HH4.out, Lib.hid rfl, Lib.hid (fun _ _ => rfl), Fr.refl _ _⟩
          case round =>
            obtain ⟨i, T, hi, rfl, hH, hT, hD, hf⟩ := hrel
            by_cases hlt : i < 8
            · have hlti : (i : Int) < 8 := by omega
              have HHA := Lib.hid hH
              have hhl := hH.blk.lt
              obtain ⟨p1, hp1⟩ : ∃ p, p = T.getD i 0 := ⟨_, rfl⟩
              obtain ⟨p2, hp2⟩ : ∃ p, p = v.l.getD i 0 := ⟨_, rfl⟩
              obtain ⟨p3, hp3⟩ : ∃ p, p = Y.l.getD i 0 := ⟨_, rfl⟩
              have hadd : IntKind.u32.wrap ((p1 : Int) + (p2 : Int)) = (p3 : Int) := by rw [add_u32, hp1, hp2, hp3, HY.out, add8_get s v hlt, hD.out i (Nat.le_refl _)]
              have HP1 : Hid (T.getD i 0 = p1) := Lib.hid hp1.symm
              have hxi := fun W => HIX.out i hlt W
              rw [← hp2] at hxi
              have HTT : Hid ((T.set i p3).take (i + 1) = Y.l.take (i + 1)) := Lib.hid (by rw [hp3]; exact take_next hT.out (by rw [hH.ls]; omega) hlt)
              have HDD : Hid (∀ j, i + 1 ≤ j → (T.set i p3).getD j 0 = s.l.getD j 0) := Lib.hid (fun j hj => by
                rw [List.getD_eq_getElem?_getD, List.getElem?_set_ne (by omega), ← List.getD_eq_getElem?_getD]
                exact hD.out j (by omega))
              unfold u32v at hxi
              clear hp1 hp2 hp3 hT hD hH
              go_wp2_with fail
              refine wp_region_line (.tell 0 (.tell 1 (.tell 2 (.tell 3 (.tell 4 (.tell 5 (.tell 6 (.tell 7 (.tell 8 (.tell 9 (.tell 10 .done))))))))))) (fun W => Below wr.heap.size wr W) (by kernel_rfl) (by kernel_rfl) ?_
              refine pl_val (by (simp only [List.getElem?_toArray, List.getElem?_cons_zero]; rfl)) (by kernel_rfl) ⟨_, (by (intro w' hC; clear hC; (try go_simp); (try with_reducible rfl); done)), _, (by (simp only [Act.put, List.setIfInBounds_toArray, List.set_cons_zero, List.set_cons_succ]; rfl)), ?_⟩
              refine pl_val (by (simp only [List.getElem?_toArray, List.getElem?_cons_succ, List.getElem?_cons_zero]; rfl)) (by kernel_rfl) ⟨_, (by (intro w' hC; clear hC; (try go_simp); (try with_reducible rfl); done)), _, (by (simp only [Act.put, List.setIfInBounds_toArray, List.set_cons_zero, List.set_cons_succ]; rfl)), ?_⟩
              refine pl_val (by (simp only [List.getElem?_toArray, List.getElem?_cons_succ, List.getElem?_cons_zero]; rfl)) (by kernel_rfl) ⟨_, (by (intro w' hC; clear hC; (try go_simp); (try with_reducible rfl); done)), _, (by (simp only [Act.put, List.setIfInBounds_toArray, List.set_cons_zero, List.set_cons_succ]; rfl)), ?_⟩
              refine pl_val (by (simp only [List.getElem?_toArray, List.getElem?_cons_succ, List.getElem?_cons_zero]; rfl)) (by kernel_rfl) ⟨_, (by (intro w' hC; clear hC; (try go_simp); (try with_reducible rfl); done)), _, (by (simp only [Act.put, List.setIfInBounds_toArray, List.set_cons_zero, List.set_cons_succ]; rfl)), ?_⟩
              refine pl_val (by (simp only [List.getElem?_toArray, List.getElem?_cons_succ, List.getElem?_cons_zero]; rfl)) (by kernel_rfl) ⟨_, (by (intro w' hC; clear hC; (try go_simp); (try with_reducible rfl); done)), _, (by (simp only [Act.put, List.setIfInBounds_toArray, List.set_cons_zero, List.set_cons_succ]; rfl)), ?_⟩
              refine pl_val (by (simp only [List.getElem?_toArray, List.getElem?_cons_succ, List.getElem?_cons_zero]; rfl)) (by kernel_rfl) ⟨_, (by (intro w' hC; have q := (HHA.out.below hC).st (i := i) hlt; rw [HP1.out] at q; clear hC; (try go_simp); (try with_reducible rfl); done)), _, (by (simp only [Act.put, List.setIfInBounds_toArray, List.set_cons_zero, List.set_cons_succ]; rfl)), ?_⟩
              refine pl_val (by (simp only [List.getElem?_toArray, List.getElem?_cons_succ, List.getElem?_cons_zero]; rfl)) (by kernel_rfl) ⟨_, (by (intro w' hC; clear hC; (try go_simp); (try with_reducible rfl); done)), _, (by (simp only [Act.put, List.setIfInBounds_toArray, List.set_cons_zero, List.set_cons_succ]; rfl)), ?_⟩
              refine pl_val (by (simp only [List.getElem?_toArray, List.getElem?_cons_succ, List.getElem?_cons_zero]; rfl)) (by kernel_rfl) ⟨_, (by (intro w' hC; clear hC; (try go_simp); (try with_reducible rfl); done)), _, (by (simp only [Act.put, List.setIfInBounds_toArray, List.set_cons_zero, List.set_cons_succ]; rfl)), ?_⟩
              refine pl_val (by (simp only [List.getElem?_toArray, List.getElem?_cons_succ, List.getElem?_cons_zero]; rfl)) (by kernel_rfl) ⟨_, (by (intro w' hC; clear hC; (try go_simp); (try with_reducible rfl); done)), _, (by (simp only [Act.put, List.setIfInBounds_toArray, List.set_cons_zero, List.set_cons_succ]; rfl)), ?_⟩
              refine pl_val (by (simp only [List.getElem?_toArray, List.getElem?_cons_succ, List.getElem?_cons_zero]; rfl)) (by kernel_rfl) ⟨_, (by (intro w' hC; clear hC; (try go_simp); (try with_reducible rfl); done)), _, (by (simp only [Act.put, List.setIfInBounds_toArray, List.set_cons_zero, List.set_cons_succ]; rfl)), ?_⟩
              refine pl_val (by (simp only [List.getElem?_toArray, List.getElem?_cons_succ, List.getElem?_cons_zero]; rfl)) (by kernel_rfl) ⟨_, (by (intro w' hC; clear hC; (try go_simp); (try with_reducible rfl); done)), _, (by (simp only [Act.put, List.setIfInBounds_toArray, List.set_cons_zero, List.set_cons_succ]; rfl)), ?_⟩
              have hBD : Below wr.heap.size wr wr.drew := (Below.refl _ _).drew
              refine pl_end hBD ?_
              simp only [Plan.count, Nat.reduceAdd, List.drop_succ_cons, List.drop_zero]
              have h6 := HHA.out.below hBD
              have hf6 := hf.then_below hBD
              generalize wr.drew = w6 at *
              have fz := h6.blk.frozen i
              have cw := h6.st hlt
              have HST := Lib.hid (h6.set i p3 hlt)
              have HF3 := Lib.hid (hf6.trans ((Fr.refl (fun x => x = hb) w6).setAt hb i rfl (.int .u32 (p3 : Int))) (fun _ _ e => e))
              clear h6 hf6 hBD HHA hf hxi
              go_wp2_with fail
              go_roundw
              case rel => exact ⟨i + 1, T.set i p3, hlt, by go_num, HST.out, HTT, HDD, HF3.out⟩
              case measure => simp [intOf]; omega
            · obtain rfl : i = 8 := by omega
              have hTY : T = Y.l := by
                have h := hT.out
                rw [List.take_of_length_le (by rw [hH.ls]; exact Nat.le_refl _)] at h
                exact h
              subst hTY
              have HHE := Lib.hid hH
              have hwl := HFW.out
              clear hH hT hD
              go_wp2_with fail
              go_end0
              refine ⟨rfl, by rw [← HV.out, ← HY.out]; exact HHE.out, ?_⟩
              exact (Fr.of_below hwl (fun x => x = hb)).trans hf (fun _ _ e => e)

end Go.Proofs.YtjcfphdjgagimaaGreatDoor

/- sha.Hash.Write. -/
namespace Go.Proofs.YtjcfphdjgagimaaGreatDoor
open Go.RowKit

theorem hash_splice (S : List Nat) (P X : List UInt8) (n : Int) (at_ : Nat) (hS : S.length = 8) (hP : P.length = 64) (h : at_ + X.length ≤ 64) :
    (hashCells S P n).take (8 + at_) ++ (X.map bv ++ (hashCells S P n).drop (8 + at_ + X.length)) = hashCells S (P.take at_ ++ (X ++ P.drop (at_ + X.length))) n := by
  unfold hashCells
  have hs : (S.map u32v).length = 8 := by rw [List.length_map, hS]
  have hp : (P.map bv).length = 64 := by rw [List.length_map, hP]
  rw [List.take_append, List.drop_append, hs, List.take_of_length_le (by rw [hs]; omega), show 8 + at_ - 8 = at_ by omega, List.drop_of_length_le (l := S.map u32v) (by rw [hs]; omega), List.nil_append, show 8 + at_ + X.length - 8 = at_ + X.length by omega,
    List.take_append_of_le_length (by rw [hp]; omega), List.drop_append_of_le_length (by rw [hp]; omega), List.append_assoc]
  simp only [List.map_append, List.map_take, List.map_drop, List.append_assoc]
theorem HashAt.copy {w : World} {hb : Nat} {S : List Nat} {P : List UInt8} {n : Int} (h : HashAt w hb S P n) (X : List UInt8) (at_ : Nat) (hX : at_ + X.length ≤ 64) :
    HashAt (w.setRow hb (((hashCells S P n).toArray.toList.take (8 + at_)) ++ (X.map bv ++ (hashCells S P n).toArray.toList.drop (8 + at_ + (X.map bv).length))).toArray) hb S (P.take at_ ++ (X ++ P.drop (at_ + X.length))) n := by
  refine ⟨?_, h.ls, ?_⟩
  · have := h.blk.setRow (((hashCells S P n).toArray.toList.take (8 + at_)) ++ (X.map bv ++ (hashCells S P n).toArray.toList.drop (8 + at_ + (X.map bv).length))).toArray
    rw [List.length_map] at this ⊢
    rw [hash_splice S P X n at_ h.ls h.lp hX] at this ⊢
    exact this
  · rw [List.length_append, List.length_append, List.length_take, List.length_drop, h.lp]
    omega
theorem part_slice (hb a : Nat) (h : a < 64) (W : World) : (Instr.sliceAt 78 (.pointer (some ⟨hb, 8, none⟩)) (some (.int .i64 (a : Int))) none none).run Tryz.prog W = .ok (.slice (some ⟨hb, 8 + a, none⟩) (64 - a) (64 - a)) W := by
  have hl : Tryz.prog.arrayLen 78 = 64 := by kernel_rfl
  rw [run_sliceAt_array_l W 78 ⟨hb, 8, none⟩ (by kernel_rfl) .i64 (a : Int) (by omega) (by rw [hl]; omega)]
  rw [show (sizeOf (Tryz.prog.elem 78)).run Tryz.prog W = .ok 1 W by kernel_rfl, hl]
  simp only [Result.andThen, slicedAt, Int.toNat_natCast]
  rw [if_neg (by omega), add_none, Nat.mul_one]
theorem part_all (hb : Nat) (W : World) : (Instr.sliceAt 78 (.pointer (some ⟨hb, 8, none⟩)) none none none).run Tryz.prog W = .ok (.slice (some ⟨hb, 8, none⟩) 64 64) W := by
  have hl : Tryz.prog.arrayLen 78 = 64 := by kernel_rfl
  rw [run_sliceAt_array_all W 78 ⟨hb, 8, none⟩ (by kernel_rfl)]
  rw [show (sizeOf (Tryz.prog.elem 78)).run Tryz.prog W = .ok 1 W by kernel_rfl, hl]
  simp only [Result.andThen, slicedAt]
  rw [if_neg (by omega), Nat.zero_mul, add_none, Nat.add_zero]
theorem bytes_tail (A : Option Addr) (n c k : Nat) (hk : k ≤ n) (W : World) : (Instr.slice 29 (.slice A n c) (some (.int .i64 (k : Int))) none none).run Tryz.prog W = .ok (.slice (if c = k then A else A.map (·.add (k * 1))) (n - k) (c - k)) W := by
  rw [run_slice_l W 29 A n c (by kernel_rfl) .i64 (k : Int) (by omega) (by omega)]
  rw [show (sizeOf (Tryz.prog.elem 29)).run Tryz.prog W = .ok 1 W by kernel_rfl]
  simp only [Result.andThen, sliced, Int.toNat_natCast]
def lenW : Value → Nat | .slice _ n _ => n | _ => 0
/-- what the rounds of Write keep -/
structure WrR (w : World) (hb : Nat) (M b : List UInt8) (Z : Nat → Prop) (n : Int) (bv_ av : Value) (wr : World) : Prop where
  at_ : ∃ (M1 b1 : List UInt8) (A1 : Option Addr) (c1 a1 : Nat) (s1 : V8) (P1 : List UInt8), Hid (M ++ b = M1 ++ b1) ∧ bv_ = .slice A1 b1.length c1 ∧ av = .int .i64 (a1 : Int) ∧ Hid (a1 = M1.length % 64) ∧ HashAt wr hb s1.l P1 n ∧ HashOf M1 s1 P1 ∧ By wr Z A1 b1 ∧ b1.length ≤ c1 ∧ c1 ≤ maxLen
  fr : Fr (fun x => x = hb) w wr

set_option maxRecDepth 100000 in
set_option maxHeartbeats 4000000 in
theorem write_any (hb : Nat) (s : V8) (P M : List UInt8) (A : Option Addr) (c : Nat) (b : List UInt8) (Z : Nat → Prop) (w : World) (h : HashAt w hb s.l P (M.length : Int)) (hM : HashOf M s P) (hG : Globs w) (hy : BV.ok w Z ⟨A, c, b⟩) (hZ : ∀ x, Z x → x ≠ hb) (h2 : 2 ≤ hb) (hl : M.length + b.length ≤ 4611686018427387904) :
    Calls Tryz.prog 37 #[.pointer (some ⟨hb, 0, none⟩), .slice A b.length c] w fun e w' => e = .returned (.tuple #[]) ∧ (∃ (s' : V8) (P' : List UInt8), HashAt w' hb s'.l P' ((M.length + b.length : Nat) : Int) ∧ HashOf (M ++ b) s' P') ∧ Fr (fun x => x = hb) w w' := by
  have hn := h.long
  have hbl := h.blk.lt
  have fz := h.blk.frozen 72
  obtain ⟨m, hm⟩ : ∃ m, m = M.length := ⟨_, rfl⟩
  rw [← hm] at hn
  obtain ⟨q, hq⟩ : ∃ q, q = m % 64 := ⟨_, rfl⟩
  have e1 : IntKind.i64.wrap ((m : Int) % 64) = (q : Int) := by rw [IntKind.wrap_i64]; omega
  have e2 : IntKind.i64.wrap ((m : Int).tmod 64) = (q : Int) := by rw [Int.tmod_eq_emod_of_nonneg (by omega)]; exact e1
  have e4 : (m : Int) % 64 = (q : Int) := by omega
  have e3 : IntKind.i64.wrap ((m : Int) + (b.length : Int)) = ((m + b.length : Nat) : Int) := by rw [IntKind.wrap_i64]; omega
  have HN := Lib.hid (h.setN ((m + b.length : Nat) : Int))
  have HM := Lib.hid hM
  have HY := Lib.hid hy
  have HMM := Lib.hid hm
  have HQ := Lib.hid hq
  have k1 : Fr (fun x => x = hb) w (w.setCell ⟨hb, 72, none⟩ (.int .i64 ((m + b.length : Nat) : Int))) := (Fr.refl (fun x => x = hb) w).setAt hb 72 rfl _
  have HG := Lib.hid (hG.fr k1 (by omega) (by omega))
  have HK := Lib.hid k1
  have HGW := Lib.hid hG
  have hc := hy.2
  obtain ⟨N, hN⟩ : ∃ N : Nat, N = m + b.length := ⟨_, rfl⟩
  rw [← hN] at e3 HN HG HK
  rw [← hm, ← hN]
  have HNN := Lib.hid hN
  have W0 : Hid (WrR w hb M b Z (N : Int) (.slice A b.length c) (.int .i64 (q : Int)) (w.setCell ⟨hb, 72, none⟩ (.int .i64 (N : Int)))) := Lib.hid ⟨⟨M, b, A, c, q, s, P, Lib.hid rfl, rfl, rfl, Lib.hid (by rw [HQ.out, HMM.out]), HN.out, HM.out, (HY.out.fr HK.out (fun x _ hz e => hZ x hz e)).1, hc.1, hc.2⟩, HK.out⟩
  clear h hM hG hy hm hq k1 hN
  go_enter Tryz.func37, Tryz.ntmps37
  go_upto_region 3 with (fail)
  generalize w.setCell ⟨hb, 72, none⟩ (.int .i64 (N : Int)) = w1 at *
  go_wp2_with fail
  go_loopw [1, 4] (fun bv_ av wr => WrR w hb M b Z (N : Int) bv_ av wr) (fun bv_ _ _ => lenW bv_)
  case atStart => exact W0.out
  case round =>
    obtain ⟨⟨M1, b1, A1, c1, a1, s1, P1, hMb, rfl, rfl, ha, hH, hHO, hby, hc1, hcm⟩, hf⟩ := hrel
    by_cases hlt : 0 < b1.length
    · have hlti : (0 : Int) < (b1.length : Int) := by omega
      obtain ⟨ab, ao, hA, hz, hab⟩ := hby.some_of (by omega)
      obtain ⟨k, hk⟩ : ∃ k, k = min b1.length (64 - a1) := ⟨_, rfl⟩
      obtain ⟨X, hX⟩ : ∃ X, X = b1.take k := ⟨_, rfl⟩
      have ha64 : a1 < 64 := by rw [ha.out]; omega
      have hXl : X.length = k := by rw [hX, List.length_take]; omega
      have hk1 : k ≤ b1.length := by omega
      have hk2 : k ≤ 64 - a1 := by omega
      have hk0 : 0 < k := by omega
      have hne : ¬ 64 = a1 := by omega
      obtain ⟨A2, hA2⟩ : ∃ A2, A2 = (if c1 = k then A1 else A1.map (·.add (k * 1))) := ⟨_, rfl⟩
      have hbt := fun W => bytes_tail A1 b1.length c1 k hk1 W
      rw [← hA2] at hbt
      have HBT := Lib.hid hbt
      have hdr := hby.drop (k := k) (cap := c1) hk1 hc1
      rw [← hA2, Nat.mul_one, ← List.map_drop] at hdr
      obtain ⟨b2, hb2⟩ : ∃ b2, b2 = b1.drop k := ⟨_, rfl⟩
      have hb2l : b1.length - k = b2.length := by rw [hb2, List.length_drop]
      rw [← hb2, hb2l] at hdr
      have HDR := Lib.hid hdr
      have HSR := Lib.hid (show ∀ j v, (X.map bv)[j]? = some v → wr.cell? ((⟨ab, ao, none⟩ : Addr).add j) = some v from fun j v hj => by
        rw [hX, List.map_take] at hj
        have hj2 : (b1.map bv)[j]? = some v := by
          rw [List.getElem?_take] at hj
          split at hj
          · exact hj
          · cases hj
        obtain ⟨g', o', e9, _, _, hcc⟩ := Rd.atj hby hj2
        rw [hA] at e9
        injection e9 with e9
        rw [e9, add_none]
        exact hcc)
      have HXL : Hid ((X.map bv).length = k) := Lib.hid (by rw [List.length_map, hXl])
      have HMN : Hid ((X.map bv).length = Nat.min b1.length (64 - a1)) := Lib.hid (by rw [List.length_map, hXl, hk])
      have HFT : Hid (8 + a1 + (X.map bv).length ≤ (hashCells s1.l P1 (N : Int)).toArray.size) := Lib.hid (by
        rw [List.length_map, hXl]
        have h1 := hH.ls
        have h2 := hH.lp
        simp only [hashCells, List.size_toArray, List.length_append, List.length_map, h1, h2, List.length_singleton]
        omega)
      have HCP := Lib.hid (hH.copy X a1 (by rw [hXl]; omega))
      have HBLK := Lib.hid hH.blk
      obtain ⟨a2, ha2⟩ : ∃ a2, a2 = a1 + k := ⟨_, rfl⟩
      have hadd : IntKind.i64.wrap ((a1 : Int) + (k : Int)) = (a2 : Int) := by rw [IntKind.wrap_i64]; omega
      have ha2l : a2 ≤ 64 := by omega
      have HA2 := Lib.hid ha2
      have HXX := Lib.hid hX
      have HXk := Lib.hid hXl
      have HKK := Lib.hid hk
      have HB2 := Lib.hid hb2
      have HMB : Hid (M ++ b = (M1 ++ X) ++ b2) := Lib.hid (by rw [hMb.out, hX, hb2, List.append_assoc, List.take_append_drop])
      have HB2L := Lib.hid hb2l
      rw [hb2l, hA] at HBT
      subst hA
      clear hbt hdr hb2l hX hXl hb2 hA2 ha2 hby hk hMb
      have hps := fun W => part_slice hb a1 ha64 W
      have hpa := fun W => part_all hb W
      go_upto_region 5 with (refine wpList_copy_own rfl (.tmp 29) (.tmp 30) 29 29 rfl 5 Tryz.underlying29 (by kernel_rfl) hb (8 + a1) (64 - a1) (64 - a1) ⟨ab, ao, none⟩ b1.length c1 rfl rfl _ 80 HBLK.out (X.map bv) HMN.out HSR.out HFT.out (bv_one X) ?_; rw [HXL.out, show goInt k = Value.int .i64 (k : Int) from rfl])
      have hcp : HashAt (wr.setRow hb (List.take (8 + a1) (hashCells s1.l P1 (N : Int)) ++ (List.map bv X ++ List.drop (8 + a1 + k) (hashCells s1.l P1 (N : Int)))).toArray) hb s1.l (P1.take a1 ++ (X ++ P1.drop (a1 + X.length))) (N : Int) := by
        have := HCP.out
        rw [HXL.out] at this
        exact this
      have kf : Fr (fun x => x = hb) wr (wr.setRow hb (List.take (8 + a1) (hashCells s1.l P1 (N : Int)) ++ (List.map bv X ++ List.drop (8 + a1 + k) (hashCells s1.l P1 (N : Int)))).toArray) := (Fr.refl (fun x => x = hb) wr).setRow hb rfl _
      have hf2 := hf.trans kf (fun _ _ e => e)
      have HDR2 := Lib.hid (Rd.fr HDR.out kf (fun x _ hz e => hZ x hz e))
      have HG2 := Lib.hid (HGW.out.fr hf2 (by omega) (by omega))
      generalize (wr.setRow hb (List.take (8 + a1) (hashCells s1.l P1 (N : Int)) ++ (List.map bv X ++ List.drop (8 + a1 + k) (hashCells s1.l P1 (N : Int)))).toArray) = w2 at *
      have hbt2 := HBT.out
      clear HCP HBLK HSR HFT HMN HXL hps HDR kf hf hH
      by_cases h64 : a2 = 64
      · have h64i : ((a2 : Int) == 64) = true := by rw [beq_iff_eq]; omega
        have hfull := hHO.full (b := X) (by rw [← ha.out, HXk.out, ← HA2.out]; exact h64)
        rw [← ha.out] at hfull
        have hdrop : P1.drop (a1 + X.length) = [] := List.drop_of_length_le (by rw [hHO.len, HXk.out, ← HA2.out]; omega)
        rw [hdrop, List.append_nil] at hcp
        have HMX := Lib.hid (mix_any hb s1 (P1.take a1 ++ X) (N : Int) w2 hcp HG2.out h2)
        have HFU := Lib.hid hfull
        have HAA : Hid (0 = (M1 ++ X).length % 64) := Lib.hid (by
          have h1 := ha.out
          have h2 := HA2.out
          rw [List.length_append, HXk.out]
          omega)
        clear hfull hdrop hcp h64
        go_wp2_with fail
        refine HMX.out.mono ?_
        rintro e w3 ⟨rfl, hH3, hf3⟩
        have HDR3 := Lib.hid (Rd.fr HDR2.out hf3 (fun x _ hz e => hZ x hz e))
        have hf4 := hf2.trans hf3 (fun _ _ e => e)
        have HH3 := Lib.hid hH3
        clear hH3 hf3 hf2 HMX
        go_wp2_with fail
        go_roundw
        case rel => exact ⟨⟨M1 ++ X, b2, A2, c1 - k, 0, _, _, HMB, rfl, rfl, HAA, HH3.out, HFU.out, HDR3.out, by have := HB2L.out; omega, by omega⟩, hf4⟩
        case measure => simp only [lenW]; have := HB2L.out; omega
      · have h64i : ((a2 : Int) == 64) = false := by rw [beq_eq_false_iff_ne]; omega
        have hk4 : k = b1.length := by
          have := HKK.out
          have := HA2.out
          omega
        have hXb : X = b1 := by rw [HXX.out, hk4, List.take_length]
        have hsome := hHO.some (b := X) (by rw [← ha.out, HXk.out, ← HA2.out]; omega)
        rw [← ha.out, List.append_assoc] at hsome
        have HSO := Lib.hid hsome
        have HCP := Lib.hid hcp
        have HAA : Hid (a2 = (M1 ++ X).length % 64) := Lib.hid (by
          have h1 := ha.out
          have h2 := HA2.out
          rw [List.length_append, HXk.out]
          omega)
        clear hsome hcp h64 hXb hk4
        go_wp2_with fail
        go_roundw
        case rel => exact ⟨⟨M1 ++ X, b2, A2, c1 - k, a2, _, _, HMB, rfl, rfl, HAA, HCP.out, HSO.out, HDR2.out, by have := HB2L.out; omega, by omega⟩, hf2⟩
        case measure => simp only [lenW]; have := HB2L.out; omega
    · have hb0 : b1 = [] := List.eq_nil_of_length_eq_zero (by omega)
      have HE : Hid (M ++ b = M1) := Lib.hid (by rw [hMb.out, hb0, List.append_nil])
      have HH := Lib.hid hH
      subst hb0
      clear hH hby hMb
      go_wp2_with fail
      go_end0
      refine ⟨rfl, ⟨s1, P1, HH.out, by rw [HE.out]; exact hHO⟩, hf⟩

end Go.Proofs.YtjcfphdjgagimaaGreatDoor

/- The bytes of numbers and texts, as plain lists. -/
namespace Go.Proofs.YtjcfphdjgagimaaGreatDoor
open Go.RowKit

def dg : Nat → Nat → List UInt8 → List UInt8
  | 0, _, acc => acc
  | f + 1, n, acc => if n = 0 then acc else dg f (n / 256) (UInt8.ofNat (n % 256) :: acc)
def digs (n : Nat) : List UInt8 := dg 8 n []
def numB (n : Nat) : List UInt8 := UInt8.ofNat (digs n).length :: digs n
def textB (l : List UInt8) : List UInt8 := numB l.length ++ l

theorem bv_ofNat {m : Nat} (h : m < 256) : bv (UInt8.ofNat m) = .int .u8 (m : Int) := by
  unfold bv
  rw [UInt8.toNat_ofNat']
  rw [Nat.mod_eq_of_lt h]

theorem dg_zero (f : Nat) (acc : List UInt8) : dg f 0 acc = acc := by cases f <;> simp [dg]
theorem dg_len : ∀ (f n : Nat) (acc : List UInt8), (dg f n acc).length ≤ f + acc.length
  | 0, _, acc => by simp [dg]
  | f + 1, n, acc => by
    unfold dg
    split
    · omega
    · have := dg_len f (n / 256) (UInt8.ofNat (n % 256) :: acc)
      simp only [List.length_cons] at this
      omega
theorem digs_len (n : Nat) : (digs n).length ≤ 8 := by have := dg_len 8 n []; simpa [digs] using this
theorem numB_len (n : Nat) : (numB n).length ≤ 9 := by simp only [numB, List.length_cons]; have := digs_len n; omega

theorem dg_app : ∀ (f n : Nat) (acc : List UInt8), dg f n acc = dg f n [] ++ acc
  | 0, _, acc => by simp [dg]
  | f + 1, n, acc => by
    unfold dg
    split
    · simp
    · rw [dg_app f (n / 256) (_ :: acc), dg_app f (n / 256) [_], List.append_assoc]
      rfl
/-- one digit more -/
theorem dg_fuel : ∀ (f n : Nat), n < 256 ^ f → ∀ k, dg (f + k) n [] = dg f n []
  | 0, n, h, k => by
    have : n = 0 := by simpa using h
    subst this
    rw [dg_zero, dg_zero]
  | f + 1, n, h, k => by
    rw [show f + 1 + k = (f + k) + 1 by omega]
    unfold dg
    split
    · rfl
    · have h' : n / 256 < 256 ^ f := by
        rw [Nat.div_lt_iff_lt_mul (by omega)]
        rw [Nat.pow_succ] at h
        exact h
      rw [dg_app (f + k), dg_app f, dg_fuel f _ h' k]
theorem digs_step {n : Nat} (h0 : 0 < n) (h : n < 18446744073709551616) : digs n = digs (n / 256) ++ [UInt8.ofNat (n % 256)] := by
  have e : dg 8 n [] = dg 7 (n / 256) [UInt8.ofNat (n % 256)] := by
    conv => lhs; unfold dg
    rw [if_neg (by omega)]
  have h' : n / 256 < 256 ^ 7 := by omega
  unfold digs
  rw [e, dg_app, dg_fuel 7 (n / 256) h' 1]
theorem digs_zero : digs 0 = [] := dg_zero 8 []
theorem pow_le8 {f : Nat} (h : f ≤ 8) : 256 ^ f ≤ 18446744073709551616 := Nat.le_trans (Nat.pow_le_pow_right (by decide) h) (by decide)
theorem dg_cons {f m : Nat} (h0 : 0 < m) (acc : List UInt8) : dg (f + 1) m acc = dg f (m / 256) (UInt8.ofNat (m % 256) :: acc) := by
  conv => lhs; unfold dg
  rw [if_neg (by omega)]

theorem digs_range : ∀ (k n : Nat), k ≤ 8 → n < 256 ^ k → n < 256 ^ (digs n).length ∧ (0 < n → 256 ^ ((digs n).length - 1) ≤ n ∧ 0 < (digs n).length)
  | 0, n, _, h => by
    have : n = 0 := by simpa using h
    subst this
    rw [digs_zero]
    simp
  | k + 1, n, hk, h => by
    rcases Nat.eq_zero_or_pos n with h0 | h0
    · subst h0
      rw [digs_zero]
      simp
    · have h64 : n < 18446744073709551616 := Nat.lt_of_lt_of_le h (pow_le8 hk)
      have h' : n / 256 < 256 ^ k := by
        rw [Nat.div_lt_iff_lt_mul (by omega)]
        rw [Nat.pow_succ] at h
        exact h
      obtain ⟨i1, i2⟩ := digs_range k (n / 256) (by omega) h'
      rw [digs_step h0 h64, List.length_append, List.length_singleton, Nat.add_sub_cancel]
      refine ⟨?_, fun _ => ⟨?_, by omega⟩⟩
      · rw [Nat.pow_succ]; omega
      · rcases Nat.eq_zero_or_pos (n / 256) with h1 | h1
        · rw [h1, digs_zero]; simp; omega
        · obtain ⟨j1, j2⟩ := i2 h1
          obtain ⟨m, hm⟩ : ∃ m, (digs (n / 256)).length = m + 1 := ⟨_, (Nat.succ_pred_eq_of_pos j2).symm⟩
          rw [hm] at j1 ⊢
          rw [Nat.add_sub_cancel] at j1
          rw [Nat.pow_succ]
          omega

theorem bitAux_range : ∀ (f n : Nat), n < 2 ^ f → n < 2 ^ Lib.bitLenAux f n ∧ (0 < n → 2 ^ (Lib.bitLenAux f n - 1) ≤ n) ∧ Lib.bitLenAux f n ≤ f
  | 0, n, h => by
    have : n = 0 := by simpa using h
    subst this
    simp [Lib.bitLenAux]
  | f + 1, n, h => by
    unfold Lib.bitLenAux
    split
    · rename_i h0; subst h0; simp
    · rename_i h0
      have h' : n / 2 < 2 ^ f := by rw [Nat.pow_succ] at h; omega
      obtain ⟨i1, i2, i3⟩ := bitAux_range f (n / 2) h'
      refine ⟨by rw [Nat.add_comm, Nat.pow_succ]; omega, fun _ => ?_, by omega⟩
      rw [Nat.add_sub_cancel_left]
      rcases Nat.eq_zero_or_pos (n / 2) with h1 | h1
      · rw [h1]
        have : Lib.bitLenAux f 0 = 0 := by cases f <;> simp [Lib.bitLenAux]
        rw [this]
        simp; omega
      · have j := i2 h1
        have hb : 0 < Lib.bitLenAux f (n / 2) := by
          rcases Nat.eq_zero_or_pos (Lib.bitLenAux f (n / 2)) with hz | hz
          · rw [hz] at i1; simp at i1; omega
          · exact hz
        obtain ⟨m, hm⟩ : ∃ m, Lib.bitLenAux f (n / 2) = m + 1 := ⟨_, (Nat.succ_pred_eq_of_pos hb).symm⟩
        rw [hm] at j ⊢
        rw [Nat.add_sub_cancel] at j
        rw [Nat.pow_succ]
        omega

theorem bitLen_le {n : Nat} (h : n < 18446744073709551616) : Lib.bitLen n ≤ 64 := (bitAux_range 64 n h).2.2
theorem bitLen_wd {n : Nat} (h : n < 18446744073709551616) : (Lib.bitLen n + 7) / 8 = (digs n).length := by
  obtain ⟨a1, a2, a3⟩ := bitAux_range 64 n h
  obtain ⟨b1, b2⟩ := digs_range 8 n (by omega) h
  rcases Nat.eq_zero_or_pos n with h0 | h0
  · subst h0
    rw [digs_zero]
    decide
  · have a4 := a2 h0
    obtain ⟨b3, b4⟩ := b2 h0
    have p1 : ∀ k : Nat, 256 ^ k = 2 ^ (8 * k) := fun k => by rw [Nat.pow_mul]
    rw [p1] at b1 b3
    unfold Lib.bitLen
    generalize Lib.bitLenAux 64 n = b at *
    generalize (digs n).length = d at *
    have c1 : 8 * (d - 1) < b := (Nat.pow_lt_pow_iff_right (by decide : 1 < 2)).1 (Nat.lt_of_le_of_lt b3 a1)
    have c2 : b - 1 < 8 * d := (Nat.pow_lt_pow_iff_right (by decide : 1 < 2)).1 (Nat.lt_of_le_of_lt a4 b1)
    omega

theorem digs_get : ∀ (k n i : Nat), n < 18446744073709551616 → k + 1 + i = (digs n).length → (digs n).getD i 0 = UInt8.ofNat (n / 256 ^ k % 256)
  | k, n, i, h, hk => by
    have h0 : 0 < n := by
      rcases Nat.eq_zero_or_pos n with h0 | h0
      · subst h0; rw [digs_zero] at hk; simp at hk
      · exact h0
    rw [digs_step h0 h, List.length_append, List.length_singleton] at hk
    rw [digs_step h0 h]
    rcases k with _ | k
    · rw [List.getD_eq_getElem?_getD, List.getElem?_append_right (by omega), show i - (digs (n / 256)).length = 0 by omega]
      simp
    · rw [List.getD_eq_getElem?_getD, List.getElem?_append_left (by omega), ← List.getD_eq_getElem?_getD, digs_get k (n / 256) i (by omega) (by omega), Nat.div_div_eq_div_mul, Nat.pow_succ', ]

theorem bv_digit {n k i : Nat} (hn : n < 18446744073709551616) (hk : k + 1 + i = (digs n).length) :
    bv ((digs n).getD i 0) = .int .u8 (IntKind.u8.wrap ((n : Int) / 2 ^ min (8 * (k : Int)).toNat 64)) := by
  have h8 := digs_len n
  rw [digs_get k n i hn hk, bv_ofNat (by omega), IntKind.wrap_u8]
  have e : min (8 * (k : Int)).toNat 64 = 8 * k := by omega
  rw [e]
  have : ((n / 256 ^ k % 256 : Nat) : Int) = (n : Int) / (2 : Int) ^ (8 * k) % 256 := by
    rw [show (256 : Nat) ^ k = 2 ^ (8 * k) by rw [Nat.pow_mul]]
    simp
  rw [← this]
end Go.Proofs.YtjcfphdjgagimaaGreatDoor

/- tenderref01: Num, Text, Same. -/
namespace Go.Proofs.YtjcfphdjgagimaaGreatDoor
open Go.RowKit

set_option maxHeartbeats 400000 in
theorem refNum_any (n : Nat) (w : World) (hn : n < 18446744073709551616) :
    Calls Tryz.prog 34 #[.int .u64 n] w fun e w' => ∃ v, e = .returned v ∧ OwB w' w.heap.size v (numB n) ∧ Below w.heap.size w w' := by
  obtain ⟨i0, hi0, hz0, hz1, hz2⟩ := info_parts u8_info
  go_enter Tryz.func34, Tryz.ntmps34
  go_wp2
  go_loopw [0, 3] (fun nv dv wr => ∃ (m f : Nat) (acc : List UInt8), m < 256 ^ f ∧ nv = .int .u64 (m : Int) ∧ OwB wr w.heap.size dv acc ∧ acc.length + f = 8 ∧ Hid (dg f m acc = digs n) ∧ Below w.heap.size w wr) (fun nv _ _ => (intOf nv).toNat)
  case atStart => exact ⟨n, 8, [], hn, rfl, World.ownsRow_nil _ _ _ _, rfl, rfl, Below.refl _ _⟩
  case round =>
    obtain ⟨m, f, acc, hm, rfl, hd, hf, hdg, hb⟩ := hrel
    obtain ⟨A, c, rfl, hc, hcm, hA⟩ := hd.form
    have hsz := hb.size
    by_cases h0 : 0 < m
    · have hr := hd.rd
      have hm64 : m < 18446744073709551616 := Nat.lt_of_lt_of_le hm (pow_le8 (by omega))
      obtain ⟨f, rfl⟩ : ∃ k, f = k + 1 := by
        rcases f with _ | k
        · simp at hm; omega
        · exact ⟨k, rfl⟩
      go_wp2_with (at_builtin; refine wpList_append_by rfl (.tmp 9) (.tmp 10) rfl (v := .slice (some ⟨wr.heap.size, 0, none⟩) 1 1) rfl (OwB.lit1 wr (b := UInt8.ofNat (m % 256)) (by rw [bv_ofNat (by omega)]; rfl) hsz) rfl (hr.alloc _) (by simp; omega) (by simp; omega) ?_; intro L1 A1 c1 w1 hL1 hown hg hat)
      go_roundw
      case rel => 
        have hL : L1 = UInt8.ofNat (m % 256) :: acc := hL1.out
        subst hL
        refine ⟨m / 256, f, UInt8.ofNat (m % 256) :: acc, ?_, rfl, hown, ?_, ?_, ?_⟩
        · rw [Nat.div_lt_iff_lt_mul (by omega)]; rw [Nat.pow_succ] at hm; exact hm
        · simp; omega
        · rw [← dg_cons h0]; exact hdg
        · exact ((hb.alloc hsz _).grown hg (by simp; omega) (by simp [Value.ownBlock]; omega))
      case measure => simp [intOf]; omega
    · have e0 : m = 0 := by omega
      subst e0
      have hr := hd.rd
      rw [dg_zero] at hdg
      have hl := digs_len n
      go_wp2_with (at_builtin; refine wpList_append_by rfl (.tmp 17) (.tmp 18) rfl (v := .slice (some ⟨wr.heap.size, 0, none⟩) 1 1) rfl (OwB.lit1 wr (b := UInt8.ofNat acc.length) (by rw [bv_ofNat (by omega)]) hsz) rfl (hr.alloc _) (by simp; omega) (by simp; omega) ?_; intro L1 A1 c1 w1 hL1 hown hg hat)
      go_ret
      refine ⟨_, rfl, ?_, ?_⟩
      · have hL : L1 = UInt8.ofNat acc.length :: acc := hL1.out
        subst hL
        unfold numB; rw [← hdg.out]; exact hown
      · exact ((hb.alloc hsz _).grown hg (by simp; omega) (by simp [Value.ownBlock]; omega))

set_option maxHeartbeats 400000 in
theorem refText_any (A : Option Addr) (c : Nat) (l : List UInt8) (Z : Nat → Prop) (w : World) (hl : By w Z A l) (hn : l.length ≤ 70368744177664) :
    Calls Tryz.prog 35 #[.slice A l.length c] w fun e w' => ∃ v, e = .returned v ∧ OwB w' w.heap.size v (textB l) ∧ Below w.heap.size w w' := by
  have hL := numB_len l.length
  go_enter Tryz.func35, Tryz.ntmps35
  go_wp2_with fail
  refine (refNum_any l.length _ (by omega)).mono ?_
  rintro e w1 ⟨v1, rfl, h1, hb1⟩
  obtain ⟨A0, c0, rfl, hc0, hcm0, hA0⟩ := h1.form
  have hs1 := hb1.size
  go_wp2_with (at_builtin; refine wpList_append_by rfl (.tmp 6) (.tmp 7) rfl (v := .slice A0 (numB l.length).length c0) rfl h1 rfl (hl.below hb1) (by omega) hb1.size ?_; intro L2 A2 c2 w2 hL2 hown hg hat)
  go_ret
  have hL : L2 = textB l := hL2.out
  subst hL
  exact ⟨_, rfl, hown, hb1.grown hg hs1 (fun k hk => (h1.lt k hk).1)⟩

end Go.Proofs.YtjcfphdjgagimaaGreatDoor

/- grain.Pen: num, Num, Truth, Text, Bytes. -/
namespace Go.Proofs.YtjcfphdjgagimaaGreatDoor
open Go.RowKit

/-- The pen at block pb has the buffer v, which reads as l. -/
structure Pen (w : World) (base pb : Nat) (v : Value) (l : List UInt8) : Prop where
  blk : Blk w pb 55 #[v]
  own : OwB w base v l

/-- What a pen's method leaves: the pen has l', and only the pen and its buffer have turned. -/
structure PenTo (w : World) (base pb : Nat) (v : Value) (l' : List UInt8) (w' : World) (v' : Value) : Prop where
  pen : Pen w' base pb v' l'
  fr : Fr (fun k => k = pb ∨ v.ownBlock = some k) w w'
  at_ : v'.ownBlock = v.ownBlock ∨ ∃ g, v'.ownBlock = some g ∧ w.heap.size ≤ g

theorem Pen.cell {w : World} {base pb : Nat} {v : Value} {l : List UInt8} (h : Pen w base pb v l) : w.cell? ⟨pb, 0, none⟩ = some v := h.blk.cell 0
theorem Pen.frozen {w : World} {base pb : Nat} {v : Value} {l : List UInt8} (h : Pen w base pb v l) : w.frozen? ⟨pb, 0, none⟩ = false := h.blk.frozen 0
theorem Pen.ne {w : World} {base pb : Nat} {v : Value} {l : List UInt8} (h : Pen w base pb v l) : v.ownBlock ≠ some pb := h.blk.own_ne h.own (by decide)
theorem Pen.alloc {w : World} {base pb : Nat} {v : Value} {l : List UInt8} (h : Pen w base pb v l) (o : Obj) : Pen (w.alloc o) base pb v l := ⟨h.blk.alloc o, h.own.alloc o⟩
theorem Pen.below {w w' : World} {base pb : Nat} {v : Value} {l : List UInt8} (h : Pen w base pb v l) (k : Below w.heap.size w w') : Pen w' base pb v l := ⟨h.blk.below k, h.own.below k⟩
theorem PenTo.refl {w : World} {base pb : Nat} {v : Value} {l : List UInt8} (h : Pen w base pb v l) : PenTo w base pb v l w v := ⟨h, Fr.refl _ _, .inl rfl⟩
theorem PenTo.trans {a b c : World} {base pb : Nat} {v v' v'' : Value} {l l' : List UInt8} (h : PenTo a base pb v l b v') (k : PenTo b base pb v' l' c v'') : PenTo a base pb v l' c v'' := by
  refine ⟨k.pen, h.fr.trans k.fr ?_, ?_⟩
  · intro x hx hS
    rcases hS with hS | hS
    · exact .inl hS
    · rcases h.at_ with e | ⟨g, e, hg⟩
      · exact .inr (by rw [← e]; exact hS)
      · rw [e] at hS
        injection hS with hS
        omega
  · rcases k.at_ with e | ⟨g, e, hg⟩
    · rw [e]; exact h.at_
    · exact .inr ⟨g, e, by have := h.fr.size; omega⟩
/-- new memory ahead of a pen's method -/
theorem PenTo.after {a b c : World} {base pb : Nat} {v v' : Value} {l l' : List UInt8} (h : Pen a base pb v l) (k : Below a.heap.size a b) (h' : PenTo b base pb v l' c v') : PenTo a base pb v l' c v' :=
  (⟨h.below k, Fr.of_below k _, .inl rfl⟩ : PenTo a base pb v l b v).trans h'
/-- the step of all: append onto the buffer, store it back -/
theorem PenTo.stored {a b c : World} {base pb : Nat} {v v' : Value} {l l' : List UInt8} (h : Pen a base pb v l) (k : Below a.heap.size a b) (hown : OwB c base v' l') (hg : b.grownBy c v.ownBlock) (hat : v'.ownBlock = v.ownBlock ∨ v'.ownBlock = some b.heap.size) :
    PenTo a base pb v l' (c.setCell ⟨pb, 0, none⟩ v') v' := by
  have hpb := h.blk.lt
  have hb : Pen b base pb v l := h.below k
  have hblk : Blk c pb 55 #[v] := hb.blk.grown hg hb.ne
  have hne : v'.ownBlock ≠ some pb := hblk.own_ne hown (by decide)
  have f1 : Fr (fun x => x = pb ∨ v.ownBlock = some x) a c := (Fr.of_below k _).trans (Fr.of_grown hg (S := fun x => v.ownBlock = some x) (fun _ _ e => e)) (fun x _ e => .inr e)
  refine ⟨⟨?_, ?_⟩, f1.setCell (fun _ => .inl rfl) _, ?_⟩
  · have := hblk.set_ 0 v'
    simpa using this
  · exact own_fr hown (S := fun x => x = pb) ((Fr.refl (fun x => x = pb) c).setCell (p := ⟨pb, 0, none⟩) (fun _ => rfl) v') (fun g hg' e => hne (by rw [hg', e]))
  · rcases hat with e | e
    · exact .inl e
    · exact .inr ⟨_, e, k.size⟩

theorem hid_take0 {L a d : List UInt8} (h : L = a) : Hid (L = a ++ d.take 0) := by rw [List.take_zero, List.append_nil]; exact h

theorem hid_take {L L' a d : List UInt8} {i : Nat} (h : L = a ++ d.take i) (h' : L' = L ++ [d.getD i 0]) (hi : i < d.length) : Hid (L' = a ++ d.take (i + 1)) := by
  show L' = a ++ d.take (i + 1)
  rw [h', h, List.append_assoc, List.take_succ_eq_append_getElem hi, List.getD_eq_getElem?_getD, List.getElem?_eq_getElem hi]
  rfl

theorem len64_any (n : Nat) (w : World) (hn : n < 18446744073709551616) :
    Calls Tryz.prog 86 #[.int .u64 n] w fun e w' => ∃ b : Nat, e = .returned (.int .i64 b) ∧ b ≤ 64 ∧ (b + 7) / 8 = (digs n).length ∧ w = w' := by
  refine (Tryz.bits_Len64 _ _ (by omega) (by omega)).mono ?_
  rintro e w' ⟨rfl, hw⟩
  exact ⟨_, rfl, bitLen_le (by simpa using hn), bitLen_wd (by simpa using hn), hw.symm⟩

set_option maxHeartbeats 400000 in
theorem num_any (base pb : Nat) (v : Value) (l : List UInt8) (n : Nat) (w : World) (hp : Pen w base pb v l) (hbase : base ≤ w.heap.size) (hn : n < 18446744073709551616) (hlen : l.length + 9 ≤ 140737488355328) :
    Calls Tryz.prog 58 #[.pointer (some ⟨pb, 0, none⟩), .int .u64 n] w fun e w' => e = .returned (.tuple #[]) ∧ ∃ v', PenTo w base pb v (l ++ numB n) w' v' := by
  have hc := hp.cell
  have hf := hp.frozen
  have hpb := hp.blk.lt
  obtain ⟨A, c, rfl, hlc, hcm, hA⟩ := hp.own.form
  go_enter Tryz.func58, Tryz.ntmps58
  go_wp2_with fail
  refine (len64_any _ _ hn).mono ?_
  rintro e w' ⟨b, rfl, hb, hw, rfl⟩
  have Hw := Lib.hid hw
  clear hw
  go_wp2_with (at_builtin; refine wpList_append_by rfl (.tmp 14) (.tmp 17) rfl (v := .slice A l.length c) rfl (hp.own.alloc _) rfl (OwB.lit1 w (base := 0) (b := UInt8.ofNat ((b + 7) / 8)) (by rw [bv_ofNat (by omega)]; rfl) (by omega)).rd (by simp; omega) (by simp; omega) ?_; intro L1 A1 c1 w1 hL1 hown hg hat; have hst := PenTo.stored hp ((Below.refl _ _).alloc (Nat.le_refl _) _) hown hg hat; have hc1 : w1.cell? ⟨pb, 0, none⟩ = some (.slice A l.length c) := ((hp.alloc _).blk.grown hg hp.ne).cell 0; have hf1 : w1.frozen? ⟨pb, 0, none⟩ = false := ((hp.alloc _).blk.grown hg hp.ne).frozen 0)
  rw [show ((b : Int) + 7) / 8 = ((digs n).length : Int) by rw [← Hw.out]; omega]
  rw [Hw.out] at hL1
  have hd8 := digs_len n
  generalize w1.setCell ⟨pb, 0, none⟩ (.slice A1 L1.length c1) = w2 at hst ⊢
  clear hown hg hat hc1 hf1
  have HP := Lib.hid hp
  clear hp hc hf hA
  go_loopw [22] (fun iv wr => ∃ (i : Nat) (Li : List UInt8) (Ai : Option Addr) (ci : Nat), i ≤ (digs n).length ∧ iv = .int .i64 (i : Int) ∧ PenTo w base pb (.slice A l.length c) Li wr (.slice Ai Li.length ci) ∧ Hid (Li = (l ++ [UInt8.ofNat (digs n).length]) ++ (digs n).take i)) (fun iv _ => (digs n).length - (intOf iv).toNat)
  case atStart => exact ⟨0, L1, A1, c1, Nat.zero_le _, rfl, hst, hid_take0 hL1.out⟩
  case round =>
    obtain ⟨i, Li, Ai, ci, hi, rfl, hpi, hLi⟩ := hrel
    clear hst
    have hc1 := hpi.pen.cell
    have hf1 := hpi.pen.frozen
    have hsz := hpi.fr.size
    have hpr := hpi.pen.blk.lt
    by_cases hlt : i < (digs n).length
    · go_wp2_with fail
      obtain ⟨k, hk⟩ : ∃ k : Nat, k + 1 + i = (digs n).length := ⟨(digs n).length - 1 - i, by omega⟩
      have w1' : IntKind.i64.wrap (((digs n).length : Int) - 1) = ((digs n).length : Int) - 1 := IntWalk.i64_in _ (by omega)
      have w2' : IntKind.i64.wrap (((digs n).length : Int) - 1 - i) = (k : Int) := by rw [show ((digs n).length : Int) - 1 - i = (k : Int) by omega]; exact IntWalk.i64_in _ (by omega)
      have w3' : IntKind.i64.wrap (8 * (k : Int)) = 8 * (k : Int) := IntWalk.i64_in _ (by omega)
      have w4' : 0 ≤ 8 * (k : Int) := by omega
      have Hk := Lib.hid hk
      clear hk
      have hll : Li.length = (l.length + 1) + i := by rw [hLi.out]; simp; omega
      have Hll := Lib.hid hll
      clear hll
      go_region_law (refine step_append_by rfl (.tmp 29) (.tmp 38) rfl (v := .slice Ai Li.length ci) rfl (hpi.pen.own.alloc _) rfl (OwB.lit1 wr (base := 0) (b := (digs n).getD i 0) (bv_digit hn Hk.out) (by omega)).rd (by have := Hll.out; simp; omega) (by simp; omega) ?_; intro L3 A3 c3 w3 hL3 hown3 hg3 hat3; have hblk3 := (hpi.pen.alloc _).blk.drew.grown hg3 hpi.pen.ne; have hc3 : w3.cell? ⟨pb, 0, none⟩ = some (.slice Ai Li.length ci) := hblk3.cell 0; have hf3 : w3.frozen? ⟨pb, 0, none⟩ = false := hblk3.frozen 0)
      all_goals
        have hst3 := PenTo.stored hpi.pen ((Below.refl _ _).alloc (Nat.le_refl _) _).drew hown3 hg3 hat3
        go_wp2_with fail
        go_roundw
        case rel => exact ⟨i + 1, L3, A3, c3, hlt, by go_num, hpi.trans hst3, hid_take hLi.out hL3.out hlt⟩
        case measure => simp [intOf]; omega
    · have e : i = (digs n).length := by omega
      go_wp2_with fail
      go_end0
      subst e
      refine ⟨rfl, .slice Ai Li.length ci, ?_⟩
      have hL : Li = l ++ numB n := by rw [hLi.out, List.take_length]; simp [numB]
      rw [← hL]
      exact hpi
end Go.Proofs.YtjcfphdjgagimaaGreatDoor

/- sha: a number as eight bytes; a hash cloned. -/
namespace Go.Proofs.YtjcfphdjgagimaaGreatDoor
open Go.RowKit

theorem made_bytes (n : Nat) : (madeCells (Value.int .u8 0).cells (n * 1)).toList = (List.replicate n (0 : UInt8)).map bv := by
  have e : (Value.int .u8 0).cells = #[Value.int .u8 0] := rfl
  rw [e, Nat.mul_one]
  apply List.ext_getElem?
  intro i
  rw [Array.getElem?_toList]
  by_cases hi : i < n
  · simp [madeCells, hi, Nat.mod_one, bv]
  · rw [Array.getElem?_eq_none (by rw [size_madeCells]; omega), List.getElem?_eq_none (by simp; omega)]
theorem wpList_make_bytes {w : World} {ops : Array Oper} {rest : List Oper} {o : Oper} {a : Act} {Q : Exit → Act → World → Prop} (hgd : o.guard = none) (l c : Operand) (ho : o.op = Op.makeSlice 29 l c)
    (L C : Int) (n : Nat) (hl : a.eval l = .int .i64 L) (hc : a.eval c = .int .i64 C) (hL : L = (n : Int)) (hC : C = (n : Int)) (hn : n ≤ 1000000) {base : Nat} (hb : base ≤ w.heap.size)
    (h : ∀ w', OwB w' base (.slice (some ⟨w.heap.size, 0, none⟩) n n) (List.replicate n 0) → Below w.heap.size w w' → wpList Tryz.prog ops Q rest (a.put o.dst (.slice (some ⟨w.heap.size, 0, none⟩) n n)) w') : wpList Tryz.prog ops Q (o :: rest) a w := by
  obtain ⟨i0, hi0, hz0, hz1, hz2⟩ := info_parts u8_info
  refine wpList_make_full w hgd l c 29 ho base 5 i0 _ 1 Tryz.underlying29 hi0 hz0 hz1 .i64 .i64 L C n hl hc hL hC (by rw [hz2]; omega) (by simp only [maxLen]; omega) hb ?_
  intro w' h1 h2
  refine h w' ?_ ⟨h2.os, h2.tape, h2.output, h2.size, fun k hk => h2.block k hk (by simp)⟩
  unfold OwB
  rw [List.length_replicate, ← made_bytes n]
  exact h1
theorem eightB_get (n : Nat) {i : Nat} (hi : i < 8) : (eightB n).getD i 0 = UInt8.ofNat (n / 2 ^ (8 * (7 - i))) := by
  unfold eightB
  rw [List.getD_eq_getElem?_getD, List.getElem?_map, List.getElem?_range hi]
  show UInt8.ofNat (n / 256 ^ (7 - i)) = _
  rw [show (256 : Nat) = 2 ^ 8 from rfl, ← Nat.pow_mul]
theorem take_stepB {L M : List UInt8} {i : Nat} (h : L.take i = M.take i) (hl : i < L.length) (hm : i < M.length) : (L.set i (M.getD i 0)).take (i + 1) = M.take (i + 1) := by
  rw [List.take_succ_eq_append_getElem (by rw [List.length_set]; exact hl), List.getElem_set_self, List.take_set_of_le (Nat.le_refl _), h, List.take_succ_eq_append_getElem hm, List.getD_eq_getElem?_getD, List.getElem?_eq_getElem hm]
  rfl
theorem u8_wrap (v : Nat) : IntKind.u8.wrap (v : Int) = ((UInt8.ofNat v).toNat : Int) := by
  rw [UInt8.toNat_ofNat']
  simp [IntKind.wrap, IntKind.bits, IntKind.signed]

set_option maxRecDepth 100000 in
set_option maxHeartbeats 2000000 in
theorem eight_any (n : Nat) (hn : n < 9223372036854775808) (w : World) :
    Calls Tryz.prog 70 #[.int .i64 (n : Int)] w fun e w' => ∃ (A : Option Addr) (l : List UInt8), e = .returned (.slice A 8 8) ∧ Hid (l = eightB n) ∧ OwB w' w.heap.size (.slice A 8 8) l ∧ Below w.heap.size w w' := by
  go_enter Tryz.func70, Tryz.ntmps70
  go_wp2_with (refine wpList_make_bytes rfl _ _ rfl 8 8 8 rfl rfl rfl rfl (by omega) (Nat.le_refl _) ?_; intro w1 ho hb1)
  go_loopw [8] (fun iv wr => ∃ (i : Nat) (l : List UInt8), i ≤ 8 ∧ iv = .int .i64 (i : Int) ∧ OwB wr w.heap.size (.slice (some ⟨w.heap.size, 0, none⟩) 8 8) l ∧ l.length = 8 ∧ Hid (l.take i = (eightB n).take i) ∧ Below w.heap.size w wr) (fun iv _ => 8 - (intOf iv).toNat)
  case atStart => exact ⟨0, List.replicate 8 0, Nat.zero_le _, rfl, ho, rfl, Lib.hid rfl, hb1⟩
  case round =>
    obtain ⟨i, l, hi, rfl, hl, hll, hT, hb⟩ := hrel
    by_cases hlt : i < 8
    · have hlti : (i : Int) < 8 := by omega
      obtain ⟨j, hj⟩ : ∃ j, j = 7 - i := ⟨_, rfl⟩
      obtain ⟨e8, he8⟩ : ∃ e, e = 8 * j := ⟨_, rfl⟩
      have w1' : IntKind.i64.wrap (7 - (i : Int)) = (j : Int) := by rw [IntKind.wrap_i64]; omega
      have w2' : IntKind.i64.wrap (8 * (j : Int)) = (e8 : Int) := by rw [IntKind.wrap_i64]; omega
      have w3' : IntKind.u64.wrap (n : Int) = (n : Int) := by
        simp [IntKind.wrap, IntKind.bits, IntKind.signed]
        omega
      obtain ⟨v, hv⟩ : ∃ v, v = n / 2 ^ e8 := ⟨_, rfl⟩
      have w4' : (n : Int) / 2 ^ min e8 64 = (v : Int) := by rw [show min e8 64 = e8 by omega, hv]; simp
      obtain ⟨x, hx⟩ : ∃ x, x = UInt8.ofNat v := ⟨_, rfl⟩
      have w5' : IntKind.u8.wrap (v : Int) = (x.toNat : Int) := by rw [u8_wrap, hx]
      have he0 : ¬ (e8 : Int) < 0 := by omega
      have hxg : x = (eightB n).getD i 0 := by rw [eightB_get n hlt, hx, hv, he8, hj]
      have HTT : Hid ((l.set i x).take (i + 1) = (eightB n).take (i + 1)) := Lib.hid (by
        rw [hxg]
        exact take_stepB hT.out (by omega) (by rw [eightB_len]; exact hlt))
      have hl8 : OwB wr w.heap.size (.slice (some ⟨w.heap.size, 0, none⟩) l.length 8) l := by rw [hll]; exact hl
      obtain ⟨y, hcell⟩ : ∃ y : UInt8, wr.cell? ⟨w.heap.size, i, none⟩ = some (.int .u8 (y.toNat : Int)) := ⟨_, hl8.cellAt (by omega : i < l.length)⟩
      have fz := hl8.frozenAt i
      have hput := hl8.put i x
      have hlt2 := (hl8.lt w.heap.size rfl).2
      have HP : Hid (OwB (wr.setCell ⟨w.heap.size, i, none⟩ (.int .u8 (x.toNat : Int))) w.heap.size (.slice (some ⟨w.heap.size, 0, none⟩) 8 8) (l.set i x)) := Lib.hid (by
        rw [List.length_set, hll] at hput
        exact hput)
      have HPL : Hid ((l.set i x).length = 8) := Lib.hid (by rw [List.length_set, hll])
      have hb2 : Below w.heap.size w (wr.setCell ⟨w.heap.size, i, none⟩ (.int .u8 (x.toNat : Int))) := hb.trans ((((Fr.refl (fun y => y = w.heap.size) wr).setAt w.heap.size i rfl _)).below (B := w.heap.size) hb.size (fun k hk e => by omega))
      clear hj he8 hv hx hxg hl hll hT hl8 hput
      go_wp2_with fail
      go_roundw
      case rel => exact ⟨i + 1, l.set i x, hlt, by go_num, HP.out, HPL.out, HTT, hb2⟩
      case measure => simp [intOf]; omega
    · have h8 : i = 8 := by omega
      have HE : Hid (l = eightB n) := Lib.hid (by
        have := hT.out
        rw [h8, List.take_of_length_le (by omega), List.take_of_length_le (by rw [eightB_len]; exact Nat.le_refl _)] at this
        exact this)
      clear hT h8 hll
      go_wp2_with fail
      go_ret
      exact ⟨_, l, rfl, HE, hl, hb⟩

end Go.Proofs.YtjcfphdjgagimaaGreatDoor

/- tenderref05: right, down, eight, Consts. -/
namespace Go.Proofs.YtjcfphdjgagimaaGreatDoor
open Go.RowKit

theorem rotr_step {x i : Nat} (hx : x < W32) (hi : i < 32) : (rotr x i) / 2 + (rotr x i) % 2 * 2147483648 = rotr x (i + 1) := rotr_succ hx hi
theorem right_any (x a : Nat) (hx : x < W32) (ha : a ≤ 32) (w : World) : Calls Tryz.prog 93 #[.int .u32 (x : Int), .int .i64 (a : Int)] w fun e w' => e = .returned (.int .u32 (rotr x a : Int)) ∧ w = w' := by
  go_enter Tryz.func93, Tryz.ntmps93
  go_wp2_with fail
  go_loopw [0, 5] (fun xv iv wr => ∃ (i r : Nat), i ≤ a ∧ iv = .int .i64 (i : Int) ∧ xv = .int .u32 (r : Int) ∧ Hid (r = rotr x i) ∧ r < 4294967296 ∧ w = wr) (fun _ iv _ => a - (intOf iv).toNat)
  case atStart => exact ⟨0, x, Nat.zero_le _, rfl, rfl, Lib.hid (rotr_zero x).symm, hx, rfl⟩
  case round =>
    obtain ⟨i, r, hi, rfl, rfl, hr, hrl, rfl⟩ := hrel
    by_cases hlt : i < a
    · have hst := rotr_step (i := i) hx (by omega)
      rw [← hr.out] at hst
      have hs2 := rotr_lt (a := i + 1) hx (by omega)
      rw [← hst] at hs2
      have hs3 : r / 2 + r % 2 * 2147483648 < 4294967296 := hs2
      have HST := Lib.hid hst
      have w1 : IntKind.u32.wrap (((r % 2 : Nat) : Int) * 2147483648) = ((r % 2 * 2147483648 : Nat) : Int) := by
        rw [show (((r % 2 : Nat) : Int) * 2147483648) = ((r % 2 * 2147483648 : Nat) : Int) by simp, wrap_u32]
        unfold W32
        omega
      have w2 : IntKind.u32.wrap (((r / 2 : Nat) : Int) + ((r % 2 * 2147483648 : Nat) : Int)) = ((r / 2 + r % 2 * 2147483648 : Nat) : Int) := by
        rw [show (((r / 2 : Nat) : Int) + ((r % 2 * 2147483648 : Nat) : Int)) = ((r / 2 + r % 2 * 2147483648 : Nat) : Int) by simp, wrap_u32]
        unfold W32
        omega
      clear hst hs2 w1 w2
      go_wp2_with fail
      go_roundw
      case rel => exact ⟨i + 1, r / 2 + r % 2 * 2147483648, hlt, by go_num, by simp, HST, hs3, trivial⟩
      case measure => simp [intOf]; omega
    · have e : i = a := by omega
      subst e
      go_wp2_with fail
      go_ret
      exact ⟨by rw [hr.out]; rfl, rfl⟩
theorem down_any (x a : Nat) (hx : x < W32) (ha : a ≤ 32) (w : World) : Calls Tryz.prog 94 #[.int .u32 (x : Int), .int .i64 (a : Int)] w fun e w' => e = .returned (.int .u32 ((x / 2 ^ a : Nat) : Int)) ∧ w = w' := by
  go_enter Tryz.func94, Tryz.ntmps94
  go_wp2_with fail
  go_loopw [0, 5] (fun xv iv wr => ∃ (i r : Nat), i ≤ a ∧ iv = .int .i64 (i : Int) ∧ xv = .int .u32 (r : Int) ∧ Hid (r = x / 2 ^ i) ∧ r < 4294967296 ∧ w = wr) (fun _ iv _ => a - (intOf iv).toNat)
  case atStart => exact ⟨0, x, Nat.zero_le _, rfl, rfl, Lib.hid (by simp), hx, rfl⟩
  case round =>
    obtain ⟨i, r, hi, rfl, rfl, hr, hrl, rfl⟩ := hrel
    by_cases hlt : i < a
    · have hst : Hid (r / 2 = x / 2 ^ (i + 1)) := Lib.hid (by rw [hr.out, Nat.pow_succ, Nat.div_div_eq_div_mul])
      go_wp2_with fail
      go_roundw
      case rel => exact ⟨i + 1, r / 2, hlt, by go_num, by simp, hst, by omega, trivial⟩
      case measure => simp [intOf]; omega
    · have e : i = a := by omega
      subst e
      go_wp2_with fail
      go_ret
      exact ⟨by rw [hr.out]; rfl, rfl⟩

set_option maxHeartbeats 1000000 in
theorem eightR_any (n : Nat) (hn : n < 9223372036854775808) (w : World) : Calls Tryz.prog 77 #[.int .i64 (n : Int)] w fun e w' => ∃ (A : Option Addr) (c : Nat) (l : List UInt8), e = .returned (.slice A l.length c) ∧ Hid (l = eightB n) ∧ OwB w' w.heap.size (.slice A l.length c) l ∧ Below w.heap.size w w' := by
  go_enter Tryz.func77, Tryz.ntmps77
  go_wp2_with fail
  go_loopw [0, 3, 4] (fun nv ov iv wr => ∃ (i m : Nat) (L : List UInt8) (A : Option Addr) (c : Nat), i ≤ 8 ∧ iv = .int .i64 (i : Int) ∧ nv = .int .i64 (m : Int) ∧ ov = .slice A L.length c ∧ Hid (m = n / 256 ^ i) ∧ m < 9223372036854775808 ∧ Hid (L = eightI n i) ∧ L.length ≤ i ∧ OwB wr w.heap.size (.slice A L.length c) L ∧ Below w.heap.size w wr) (fun _ _ iv _ => 8 - (intOf iv).toNat)
  case atStart => exact ⟨0, n, [], none, 0, by omega, rfl, rfl, rfl, Lib.hid (by simp), hn, Lib.hid rfl, Nat.le_refl _, OwB.nil _ _, Below.refl _ _⟩
  case round =>
    obtain ⟨i, m, L, A, c, hi, rfl, rfl, rfl, hm, hml, hL, hLi, hown, hb⟩ := hrel
    by_cases hlt : i < 8
    · obtain ⟨d, hd⟩ : ∃ d, d = UInt8.ofNat (m % 256) := ⟨_, rfl⟩
      have hdv : Value.int .u8 (((m % 256 : Nat) : Int)) = bv d := by rw [hd]; exact (bv_ofNat (Nat.mod_lt _ (by decide))).symm
      have hba : Below wr.heap.size wr (wr.alloc (.cells #[.int .u8 ((m % 256 : Nat) : Int)] 5)) := (Below.refl _ _).alloc (Nat.le_refl _) _
      have hol := OwB.lit1 wr (base := w.heap.size) (x := ((m % 256 : Nat) : Int)) hdv.symm hb.size
      have hoa := (hown.alloc (.cells #[.int .u8 ((m % 256 : Nat) : Int)] 5)).rd
      have hs1 := (hb.trans (hba.mono hb.size)).size
      rw [show ((m % 256 : Nat) : Int) = (m : Int) % 256 by simp] at hol hoa hba hs1
      go_wp2_with (at_builtin; refine wpList_append_by rfl (.tmp 12) (.tmp 13) rfl (v := .slice (some ⟨wr.heap.size, 0, none⟩) 1 1) rfl hol rfl hoa (by simp only [List.length_singleton]; omega) hs1 ?_; intro L5 A5 c5 w5 hL5 hown5 hg5 _; have hb5 : Below w.heap.size w w5 := (hb.trans (hba.mono hb.size)).trans (grown_below hg5 hs1 (fun g e => (hol.lt g e).1)))
      have hLn : Hid (L5 = eightI n (i + 1)) := Lib.hid (by
        rw [hL5.out, hL.out, hd, hm.out]
        show _ :: _ = _ :: _
        congr 1
        rw [← UInt8.toNat_inj, UInt8.toNat_ofNat', UInt8.toNat_ofNat']
        omega)
      have hL5l : L5.length ≤ i + 1 := by rw [hL5.out, List.length_append]; simp only [List.length_singleton]; omega
      have hmn : Hid (m / 256 = n / 256 ^ (i + 1)) := Lib.hid (by rw [hm.out, Nat.pow_succ, Nat.div_div_eq_div_mul])
      go_roundw
      case rel => exact ⟨i + 1, m / 256, L5, A5, c5, hlt, by go_num, by simp, rfl, hmn, by omega, hLn, hL5l, hown5, hb5⟩
      case measure => simp [intOf]; omega
    · have e : i = 8 := by omega
      have HE : Hid (L = eightB n) := Lib.hid (by rw [hL.out, e, eightI_all])
      have hi8 : ¬ (i : Int) < 8 := by omega
      go_wp2_with fail
      go_ret
      exact ⟨A, c, L, rfl, HE, hown, hb⟩

end Go.Proofs.YtjcfphdjgagimaaGreatDoor
