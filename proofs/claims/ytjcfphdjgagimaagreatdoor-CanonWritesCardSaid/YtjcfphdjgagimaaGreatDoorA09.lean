/- sha.Hash.mix: a block is taken. -/
import Derived.Test.YtjcfphdjgagimaaGreatDoorA08
import Derived.Laws.CopyOwn
import Derived.OwnWalk

namespace Go.Proofs.YtjcfphdjgagimaaGreatDoor
open Go.RowKit

theorem turn6 (x : Nat) (hx : x < W32) (w : World) : Calls Tryz.prog 90 #[.int .u32 (x : Int), .int .i64 6, .int .i64 11, .int .i64 25] w fun e w' => e = .returned (.int .u32 ((bigS1 x : Nat) : Int)) ∧ w = w' := turn_any x 6 11 25 hx (by omega) (by omega) (by omega) w
theorem turn2 (x : Nat) (hx : x < W32) (w : World) : Calls Tryz.prog 90 #[.int .u32 (x : Int), .int .i64 2, .int .i64 13, .int .i64 22] w fun e w' => e = .returned (.int .u32 ((bigS0 x : Nat) : Int)) ∧ w = w' := turn_any x 2 13 22 hx (by omega) (by omega) (by omega) w
theorem not_u32 (e : Nat) (he : e < W32) : bits .xor .u32 IntKind.u32.max (e : Int) = ((4294967295 - e : Nat) : Int) := by
  have h1 : IntKind.u32.max = ((4294967295 : Nat) : Int) := by simp [IntKind.max, IntKind.bits, IntKind.signed]
  rw [h1, u32_xor_nat 4294967295 e (by decide) he]
  congr 1
  apply Nat.eq_of_testBit_eq
  intro i
  rw [not_bit he, Nat.testBit_xor]
  have : (4294967295 : Nat).testBit i = decide (i < 32) := by
    have := Nat.testBit_two_pow_sub_one 32 i
    exact this
  rw [this]
  by_cases hi : i < 32
  · simp [hi]
  · have h0 : e.testBit i = false := Nat.testBit_lt_two_pow (Nat.lt_of_lt_of_le (show e < 2 ^ 32 from he) (Nat.pow_le_pow_right (by decide) (by omega)))
    simp [hi, h0]
theorem and_u32 {a b : Nat} (ha : a < W32) (hb : b < W32) : bits .and .u32 (a : Int) (b : Int) = ((a &&& b : Nat) : Int) := u32_and_nat a b ha hb
theorem add_u32 (a b : Nat) : IntKind.u32.wrap ((a : Int) + (b : Int)) = (((a + b) % W32 : Nat) : Int) := by rw [← wrap_u32]; rfl
theorem index8 (v : V8) (i : Nat) (hi : i < 8) (W : World) : (Instr.index 77 (.agg #[u32v v.a, u32v v.b, u32v v.c, u32v v.d, u32v v.e, u32v v.f, u32v v.g, u32v v.h]) (.int .i64 (i : Int))).run Tryz.prog W = .ok (.int .u32 ((v.l.getD i 0 : Nat) : Int)) W := by
  obtain rfl | rfl | rfl | rfl | rfl | rfl | rfl | rfl : i = 0 ∨ i = 1 ∨ i = 2 ∨ i = 3 ∨ i = 4 ∨ i = 5 ∨ i = 6 ∨ i = 7 := by omega
  all_goals kernel_rfl

set_option maxRecDepth 100000 in
set_option maxHeartbeats 4000000 in
theorem mix_any (hb : Nat) (s : V8) (P : List UInt8) (n : Int) (w : World) (h : HashAt w hb s.l P n) (hG : Globs w) (h2 : 2 ≤ hb) :
    Calls Tryz.prog 67 #[.pointer (some ⟨hb, 0, none⟩), .slice (some ⟨hb, 8, none⟩) 64 64] w fun e w' => e = .returned (.tuple #[]) ∧ HashAt w' hb (add8 s (rounds P (add8 s first8) 64)).l P n ∧ Fr (fun x => x = hb) w w' := by
  have hlt0 := h.blk.lt
  have HS := Lib.hid (spread_any (some ⟨hb, 8, none⟩) 64 P _ w h.by_ h.lp (by omega) (by simp [maxLen]))
  obtain ⟨X, hX⟩ : ∃ X, X = add8 s first8 := ⟨_, rfl⟩
  have HX := Lib.hid hX
  have hXok : X.ok := by rw [hX]; exact add8_ok _ _
  rw [← hX]
  have HH := Lib.hid h
  have HGG := Lib.hid hG
  clear h hG hX
  go_enter Tryz.func67, Tryz.ntmps67
  go_wp2_with fail
  refine HS.out.mono ?_
  rintro e w1 ⟨rfl, hb1⟩
  obtain ⟨WL, hWL⟩ : ∃ WL, WL = schedW P := ⟨_, rfl⟩
  rw [← hWL]
  have hWLl : WL.length = 64 := by rw [hWL]; exact schedI_len P 64
  have HWL := Lib.hid hWLl
  have HWS := Lib.hid hWL
  have hsz : (WL.map u32v).toArray.size = 64 := by simp [hWLl]
  have hsi : (Tryz.prog.info? 127).map (·.size) = some (WL.map u32v).toArray.size := by rw [hsz]; kernel_rfl
  have HSI := Lib.hid hsi
  have HO := Lib.hid (words_one WL)
  have hsz2 : (#[.int .u32 0, .int .u32 0, .int .u32 0, .int .u32 0, .int .u32 0, .int .u32 0, .int .u32 0, .int .u32 0, .int .u32 0, .int .u32 0, .int .u32 0, .int .u32 0, .int .u32 0, .int .u32 0, .int .u32 0, .int .u32 0, .int .u32 0, .int .u32 0, .int .u32 0, .int .u32 0, .int .u32 0, .int .u32 0, .int .u32 0, .int .u32 0, .int .u32 0, .int .u32 0, .int .u32 0, .int .u32 0, .int .u32 0, .int .u32 0, .int .u32 0, .int .u32 0, .int .u32 0, .int .u32 0, .int .u32 0, .int .u32 0, .int .u32 0, .int .u32 0, .int .u32 0, .int .u32 0, .int .u32 0, .int .u32 0, .int .u32 0, .int .u32 0, .int .u32 0, .int .u32 0, .int .u32 0, .int .u32 0, .int .u32 0, .int .u32 0, .int .u32 0, .int .u32 0, .int .u32 0, .int .u32 0, .int .u32 0, .int .u32 0, .int .u32 0, .int .u32 0, .int .u32 0, .int .u32 0, .int .u32 0, .int .u32 0, .int .u32 0, .int .u32 0] : Array Value).size = (WL.map u32v).toArray.size := by rw [hsz]; rfl
  have HSZ := Lib.hid hsz2
  clear hWL hWLl hsz hsi hsz2 HS
  go_upto_region 2 with (first | (refine wpList_store_row rfl 127 _ _ rfl w1.heap.size _ rfl rfl 127 _ (heap_alloc_last w1 _) HSI.out HSZ.out HO.out ?_))
  rw [World.setRow_alloc_new]
  have y0 : Blk ((w1.alloc (.cells (WL.map u32v).toArray 127)).alloc (.cells #[.int .u32 0, .int .u32 0, .int .u32 0, .int .u32 0, .int .u32 0, .int .u32 0, .int .u32 0, .int .u32 0] 77)) w1.heap.size 127 (WL.map u32v).toArray := (Blk.new w1 127 _).below ((Below.refl _ _).alloc (Nat.le_refl _) _)
  have y1 : Blk ((w1.alloc (.cells (WL.map u32v).toArray 127)).alloc (.cells #[.int .u32 0, .int .u32 0, .int .u32 0, .int .u32 0, .int .u32 0, .int .u32 0, .int .u32 0, .int .u32 0] 77)) (w1.heap.size + 1) 77 (((List.replicate 8 0).map u32v).toArray) := by
    have := Blk.new (w1.alloc (.cells (WL.map u32v).toArray 127)) 77 #[.int .u32 0, .int .u32 0, .int .u32 0, .int .u32 0, .int .u32 0, .int .u32 0, .int .u32 0, .int .u32 0]
    rwa [show (w1.alloc (.cells (WL.map u32v).toArray 127)).heap.size = w1.heap.size + 1 by simp] at this
  have hb2 : Below w1.heap.size w1 ((w1.alloc (.cells (WL.map u32v).toArray 127)).alloc (.cells #[.int .u32 0, .int .u32 0, .int .u32 0, .int .u32 0, .int .u32 0, .int .u32 0, .int .u32 0, .int .u32 0] 77)) := ((Below.refl _ _).alloc (Nat.le_refl _) _).alloc (by simp) _
  have hw2 := hb1.trans (hb2.mono hb1.size)
  have HH2 := Lib.hid (HH.out.below hw2)
  have HG2 := Lib.hid (HGG.out.below hw2)
  have l1 := hb1.size
  have hl2 := HGG.out.lt
  obtain ⟨gw, hgw⟩ : ∃ gw, gw = w1.heap.size := ⟨_, rfl⟩
  rw [← hgw] at y0 y1 l1 ⊢
  generalize ((w1.alloc (.cells (WL.map u32v).toArray 127)).alloc (.cells #[.int .u32 0, .int .u32 0, .int .u32 0, .int .u32 0, .int .u32 0, .int .u32 0, .int .u32 0, .int .u32 0] 77)) = w2 at *
  obtain ⟨vb, hvb⟩ : ∃ vb, vb = gw + 1 := ⟨_, rfl⟩
  rw [← hvb] at y1 ⊢
  have hv2 : 2 ≤ vb := by omega
  have hvh : vb ≠ hb := by omega
  have hvg : gw ≠ vb := by omega
  have hvw : w.heap.size ≤ vb := by omega
  have hgw2 : w.heap.size ≤ gw := by omega
  have HBW0 := Lib.hid y0
  clear hb2 hgw hvb hb1 y0 l1 HSI HO HSZ
  go_wp2_with fail
  go_loopw [16] (fun iv wr => ∃ (i : Nat) (V : List Nat), i ≤ 8 ∧ iv = .int .i64 (i : Int) ∧ Blk wr vb 77 (V.map u32v).toArray ∧ V.length = 8 ∧ Hid (V.take i = X.l.take i) ∧ Fr (fun x => x = vb) w2 wr) (fun iv _ => 8 - (intOf iv).toNat)
  case atStart => exact ⟨0, List.replicate 8 0, Nat.zero_le _, rfl, y1, rfl, Lib.hid rfl, Fr.refl _ _⟩
  case round =>
    obtain ⟨i, V, hi, rfl, hB, hV, hT, hf⟩ := hrel
    by_cases hlt : i < 8
    · have hlti : (i : Int) < 8 := by omega
      have HHA := Lib.hid (HH2.out.fr hf (fun e => hvh e.symm))
      have HG := Lib.hid (HG2.out.fr hf (by omega) (by omega))
      have hgl := HG.out.lt
      have hhl := HHA.out.blk.lt
      obtain ⟨p1, hp1⟩ : ∃ p, p = s.l.getD i 0 := ⟨_, rfl⟩
      obtain ⟨p2, hp2⟩ : ∃ p, p = first8.l.getD i 0 := ⟨_, rfl⟩
      obtain ⟨p3, hp3⟩ : ∃ p, p = X.l.getD i 0 := ⟨_, rfl⟩
      have hadd : IntKind.u32.wrap ((p1 : Int) + (p2 : Int)) = (p3 : Int) := by rw [add_u32, hp1, hp2, hp3, HX.out, add8_get s first8 hlt]
      have HP1 : Hid (s.l.getD i 0 = p1) := Lib.hid hp1.symm
      have HP2 : Hid (first8.l.getD i 0 = p2) := Lib.hid hp2.symm
      have HTT : Hid ((V.set i p3).take (i + 1) = X.l.take (i + 1)) := Lib.hid (by rw [hp3]; exact take_next hT.out (by omega) hlt)
      have HVL : Hid ((V.set i p3).length = 8) := Lib.hid (by rw [List.length_set, hV])
      have hst := words_set hB i p3
      have fz := hB.frozen i
      have cw := words_cell hB (i := i) (by omega)
      have hf3 := hf.trans ((Fr.refl (fun x => x = vb) wr).setAt vb i rfl (.int .u32 (p3 : Int))) (fun _ _ e => e)
      have HB := Lib.hid hB
      have hbv := hB.lt
      clear hp1 hp2 hp3 hT hV hst hf3 hB cw fz
      go_wp2_with fail
      refine wp_region_line (.tell 0 (.tell 1 (.tell 2 (.tell 3 (.tell 4 (.tell 5 (.tell 6 (.tell 7 (.tell 8 (.tell 9 (.tell 10 (.tell 11 .done)))))))))))) (fun W => Below wr.heap.size wr W) (by kernel_rfl) (by kernel_rfl) ?_
      refine pl_val (by (simp only [List.getElem?_toArray, List.getElem?_cons_zero]; rfl)) (by kernel_rfl) ⟨_, (by (intro w' hC; clear hC; (try go_simp); (try with_reducible rfl); done)), _, (by (simp only [Act.put, List.setIfInBounds_toArray, List.set_cons_zero, List.set_cons_succ]; rfl)), ?_⟩
      refine pl_val (by (simp only [List.getElem?_toArray, List.getElem?_cons_succ, List.getElem?_cons_zero]; rfl)) (by kernel_rfl) ⟨_, (by (intro w' hC; clear hC; (try go_simp); (try with_reducible rfl); done)), _, (by (simp only [Act.put, List.setIfInBounds_toArray, List.set_cons_zero, List.set_cons_succ]; rfl)), ?_⟩
      refine pl_val (by (simp only [List.getElem?_toArray, List.getElem?_cons_succ, List.getElem?_cons_zero]; rfl)) (by kernel_rfl) ⟨_, (by (intro w' hC; clear hC; (try go_simp); (try with_reducible rfl); done)), _, (by (simp only [Act.put, List.setIfInBounds_toArray, List.set_cons_zero, List.set_cons_succ]; rfl)), ?_⟩
      refine pl_val (by (simp only [List.getElem?_toArray, List.getElem?_cons_succ, List.getElem?_cons_zero]; rfl)) (by kernel_rfl) ⟨_, (by (intro w' hC; clear hC; (try go_simp); (try with_reducible rfl); done)), _, (by (simp only [Act.put, List.setIfInBounds_toArray, List.set_cons_zero, List.set_cons_succ]; rfl)), ?_⟩
      refine pl_val (by (simp only [List.getElem?_toArray, List.getElem?_cons_succ, List.getElem?_cons_zero]; rfl)) (by kernel_rfl) ⟨_, (by (intro w' hC; clear hC; (try go_simp); (try with_reducible rfl); done)), _, (by (simp only [Act.put, List.setIfInBounds_toArray, List.set_cons_zero, List.set_cons_succ]; rfl)), ?_⟩
      refine pl_val (by (simp only [List.getElem?_toArray, List.getElem?_cons_succ, List.getElem?_cons_zero]; rfl)) (by kernel_rfl) ⟨_, (by (intro w' hC; clear hC; (try go_simp); (try with_reducible rfl); done)), _, (by (simp only [Act.put, List.setIfInBounds_toArray, List.set_cons_zero, List.set_cons_succ]; rfl)), ?_⟩
      refine pl_val (by (simp only [List.getElem?_toArray, List.getElem?_cons_succ, List.getElem?_cons_zero]; rfl)) (by kernel_rfl) ⟨_, (by (intro w' hC; have q := (HHA.out.below hC).st (i := i) hlt; rw [HP1.out] at q; clear hC; (try go_simp); (try with_reducible rfl); done)), _, (by (simp only [Act.put, List.setIfInBounds_toArray, List.set_cons_zero, List.set_cons_succ]; rfl)), ?_⟩
      refine pl_val (by (simp only [List.getElem?_toArray, List.getElem?_cons_succ, List.getElem?_cons_zero]; rfl)) (by kernel_rfl) ⟨_, (by (intro w' hC; clear hC; (try go_simp); (try with_reducible rfl); done)), _, (by (simp only [Act.put, List.setIfInBounds_toArray, List.set_cons_zero, List.set_cons_succ]; rfl)), ?_⟩
      refine pl_val (by (simp only [List.getElem?_toArray, List.getElem?_cons_succ, List.getElem?_cons_zero]; rfl)) (by kernel_rfl) ⟨_, (by (intro w' hC; clear hC; (try go_simp); (try with_reducible rfl); done)), _, (by (simp only [Act.put, List.setIfInBounds_toArray, List.set_cons_zero, List.set_cons_succ]; rfl)), ?_⟩
      refine pl_val (by (simp only [List.getElem?_toArray, List.getElem?_cons_succ, List.getElem?_cons_zero]; rfl)) (by kernel_rfl) ⟨_, (by (intro w' hC; have q := (HG.out.below hC).f i hlt; rw [HP2.out] at q; clear hC; (try go_simp); (try with_reducible rfl); done)), _, (by (simp only [Act.put, List.setIfInBounds_toArray, List.set_cons_zero, List.set_cons_succ]; rfl)), ?_⟩
      refine pl_val (by (simp only [List.getElem?_toArray, List.getElem?_cons_succ, List.getElem?_cons_zero]; rfl)) (by kernel_rfl) ⟨_, (by (intro w' hC; clear hC; (try go_simp); (try with_reducible rfl); done)), _, (by (simp only [Act.put, List.setIfInBounds_toArray, List.set_cons_zero, List.set_cons_succ]; rfl)), ?_⟩
      refine pl_val (by (simp only [List.getElem?_toArray, List.getElem?_cons_succ, List.getElem?_cons_zero]; rfl)) (by kernel_rfl) ⟨_, (by (intro w' hC; clear hC; (try go_simp); (try with_reducible rfl); done)), _, (by (simp only [Act.put, List.setIfInBounds_toArray, List.set_cons_zero, List.set_cons_succ]; rfl)), ?_⟩
      have hBD : Below wr.heap.size wr wr.drew := (Below.refl _ _).drew
      refine pl_end hBD ?_
      simp only [Plan.count, Nat.reduceAdd, List.drop_succ_cons, List.drop_zero]
      have hB6 := HB.out.below hBD
      have hf6 := hf.then_below hBD
      generalize wr.drew = w6 at *
      have fz := hB6.frozen i
      have cw := words_cell hB6 (i := i) (by have := HVL.out; rw [List.length_set] at this; omega)
      have HST := Lib.hid (words_set hB6 i p3)
      have HF3 := Lib.hid (hf6.trans ((Fr.refl (fun x => x = vb) w6).setAt vb i rfl (.int .u32 (p3 : Int))) (fun _ _ e => e))
      clear hB6 hf6 hBD HB hf
      go_wp2_with fail
      go_roundw
      case rel => exact ⟨i + 1, V.set i p3, hlt, by go_num, HST.out, HVL.out, HTT, HF3.out⟩
      case measure => simp [intOf]; omega
    · have hi8 : i = 8 := by omega
      have hge8 : ¬ (i : Int) < 8 := by omega
      have hVX : V = X.l := by
        have h := hT.out
        rw [hi8] at h
        rw [List.take_of_length_le (by omega)] at h
        exact h
      subst hVX
      have HB0 : Hid (Blk wr vb 77 #[.int .u32 (X.a : Int), .int .u32 (X.b : Int), .int .u32 (X.c : Int), .int .u32 (X.d : Int), .int .u32 (X.e : Int), .int .u32 (X.f : Int), .int .u32 (X.g : Int), .int .u32 (X.h : Int)]) := Lib.hid hB
      have HF0 := Lib.hid hf
      clear hB hV hT hlt hi hf hi8
      go_wp2_with fail
      rename World => wo
      go_loopw [32] (fun iv wr => ∃ (i : Nat) (v : V8), i ≤ 64 ∧ iv = .int .i64 (i : Int) ∧ Blk wr vb 77 #[.int .u32 (v.a : Int), .int .u32 (v.b : Int), .int .u32 (v.c : Int), .int .u32 (v.d : Int), .int .u32 (v.e : Int), .int .u32 (v.f : Int), .int .u32 (v.g : Int), .int .u32 (v.h : Int)] ∧ v.ok ∧ Hid (v = rounds P X i) ∧ Fr (fun x => x = vb) w2 wr) (fun iv _ => 64 - (intOf iv).toNat)
      case atStart => exact ⟨0, X, Nat.zero_le _, rfl, HB0.out, hXok, Lib.hid rfl, HF0.out⟩
      case round =>
        obtain ⟨i, v, hi, rfl, bv_, hok, hv, hf⟩ := hrel
        by_cases hlt : i < 64
        · have hlti : (i : Int) < 64 := by omega
          have HG := Lib.hid (HG2.out.fr hf (by omega) (by omega))
          have hgl := HG.out.lt
          have HBW := Lib.hid (HBW0.out.fr hf hvg)
          have hgwl := HBW.out.lt
          have hvbl := bv_.lt
          obtain ⟨kk, hkk⟩ : ∃ kk, kk = rootsK.getD i 0 := ⟨_, rfl⟩
          obtain ⟨wi, hwi⟩ : ∃ wi, wi = WL.getD i 0 := ⟨_, rfl⟩
          have HWI : Hid (WL.getD i 0 = wi) := Lib.hid hwi.symm
          have HKK : Hid (rootsK.getD i 0 = kk) := Lib.hid hkk.symm
          obtain ⟨va, vbb, vc, vd, ve, vf, vg, vh⟩ := v
          obtain ⟨oa, ob, oc, od, oe, of_, og, oh⟩ := hok
          dsimp only at *
          obtain ⟨e1, he1⟩ : ∃ x, x = ve &&& vf := ⟨_, rfl⟩
          obtain ⟨ne, hne⟩ : ∃ x, x = 4294967295 - ve := ⟨_, rfl⟩
          obtain ⟨e2, he2⟩ : ∃ x, x = ne &&& vg := ⟨_, rfl⟩
          obtain ⟨ch, hch⟩ : ∃ x, x = e1 ^^^ e2 := ⟨_, rfl⟩
          obtain ⟨m1, hm1⟩ : ∃ x, x = va &&& vbb := ⟨_, rfl⟩
          obtain ⟨m2, hm2⟩ : ∃ x, x = va &&& vc := ⟨_, rfl⟩
          obtain ⟨m12, hm12⟩ : ∃ x, x = m1 ^^^ m2 := ⟨_, rfl⟩
          obtain ⟨m3, hm3⟩ : ∃ x, x = vbb &&& vc := ⟨_, rfl⟩
          obtain ⟨mj, hmj⟩ : ∃ x, x = m12 ^^^ m3 := ⟨_, rfl⟩
          have lne : ne < W32 := by rw [hne]; unfold W32; omega
          have le1 : e1 < W32 := by rw [he1]; exact and_lt oe
          have le2 : e2 < W32 := by rw [he2]; exact and_lt lne
          have lm1 : m1 < W32 := by rw [hm1]; exact and_lt oa
          have lm2 : m2 < W32 := by rw [hm2]; exact and_lt oa
          have lm12 : m12 < W32 := by rw [hm12]; exact xor_lt lm1 lm2
          have lm3 : m3 < W32 := by rw [hm3]; exact and_lt ob
          have a1 : bits .and .u32 (ve : Int) (vf : Int) = (e1 : Int) := by rw [and_u32 oe of_, he1]
          have a2 : bits .xor .u32 IntKind.u32.max (ve : Int) = (ne : Int) := by rw [not_u32 ve oe, hne]
          have a3 : bits .and .u32 (ne : Int) (vg : Int) = (e2 : Int) := by rw [and_u32 lne og, he2]
          have a4 : bits .xor .u32 (e1 : Int) (e2 : Int) = (ch : Int) := by rw [xor_u32 le1 le2, hch]
          have a5 : bits .and .u32 (va : Int) (vbb : Int) = (m1 : Int) := by rw [and_u32 oa ob, hm1]
          have a6 : bits .and .u32 (va : Int) (vc : Int) = (m2 : Int) := by rw [and_u32 oa oc, hm2]
          have a7 : bits .xor .u32 (m1 : Int) (m2 : Int) = (m12 : Int) := by rw [xor_u32 lm1 lm2, hm12]
          have a8 : bits .and .u32 (vbb : Int) (vc : Int) = (m3 : Int) := by rw [and_u32 ob oc, hm3]
          have a9 : bits .xor .u32 (m12 : Int) (m3 : Int) = (mj : Int) := by rw [xor_u32 lm12 lm3, hmj]
          have hchF : ch = chF ve vf vg := by rw [hch, he1, he2, hne]; rfl
          have hmjF : mj = majF va vbb vc := by rw [hmj, hm12, hm1, hm2, hm3]; rfl
          obtain ⟨t6, ht6⟩ : ∃ x, x = bigS1 ve := ⟨_, rfl⟩
          obtain ⟨t2, ht2⟩ : ∃ x, x = bigS0 va := ⟨_, rfl⟩
          have HT6 := Lib.hid (fun W => turn6 ve oe W)
          have HT2 := Lib.hid (fun W => turn2 va oa W)
          rw [← ht6] at HT6
          rw [← ht2] at HT2
          obtain ⟨s1, hs1⟩ : ∃ x, x = (vh + t6) % W32 := ⟨_, rfl⟩
          obtain ⟨s2, hs2⟩ : ∃ x, x = (s1 + ch) % W32 := ⟨_, rfl⟩
          obtain ⟨s3, hs3⟩ : ∃ x, x = (s2 + kk) % W32 := ⟨_, rfl⟩
          obtain ⟨s4, hs4⟩ : ∃ x, x = (s3 + wi) % W32 := ⟨_, rfl⟩
          obtain ⟨s6, hs6⟩ : ∃ x, x = (t2 + mj) % W32 := ⟨_, rfl⟩
          obtain ⟨s7, hs7⟩ : ∃ x, x = (s4 + s6) % W32 := ⟨_, rfl⟩
          obtain ⟨s8, hs8⟩ : ∃ x, x = (vd + s4) % W32 := ⟨_, rfl⟩
          have b1 : IntKind.u32.wrap ((vh : Int) + (t6 : Int)) = (s1 : Int) := by rw [add_u32, hs1]
          have b2 : IntKind.u32.wrap ((s1 : Int) + (ch : Int)) = (s2 : Int) := by rw [add_u32, hs2]
          have b3 : IntKind.u32.wrap ((s2 : Int) + (kk : Int)) = (s3 : Int) := by rw [add_u32, hs3]
          have b4 : IntKind.u32.wrap ((s3 : Int) + (wi : Int)) = (s4 : Int) := by rw [add_u32, hs4]
          have b6 : IntKind.u32.wrap ((t2 : Int) + (mj : Int)) = (s6 : Int) := by rw [add_u32, hs6]
          have b7 : IntKind.u32.wrap ((s4 : Int) + (s6 : Int)) = (s7 : Int) := by rw [add_u32, hs7]
          have b8 : IntKind.u32.wrap ((vd : Int) + (s4 : Int)) = (s8 : Int) := by rw [add_u32, hs8]
          have HNV : Hid ((⟨s7, va, vbb, vc, s8, ve, vf, vg⟩ : V8) = rounds P X (i + 1)) := Lib.hid (by
            rw [rounds, ← hv.out, ← HWS.out, ← hwi, ← hkk]
            unfold rnd
            dsimp only
            rw [← ht6, ← ht2, ← hchF, ← hmjF, hs7, hs8, hs6, hs4, hs3, hs2, hs1]
            unfold W32
            simp only [V8.mk.injEq, and_true, true_and]
            constructor <;> omega)
          have hok2 : (⟨s7, va, vbb, vc, s8, ve, vf, vg⟩ : V8).ok := by rw [HNV.out]; exact rounds_ok hXok _
          have HF := Lib.hid hf
          have HBV := Lib.hid bv_
          clear he1 hne he2 hch hm1 hm2 hm12 hm3 hmj lne le1 le2 lm1 lm2 lm12 lm3 hchF hmjF ht6 ht2 hs1 hs2 hs3 hs4 hs6 hs7 hs8 hkk hwi hv oa ob oc od oe of_ og oh
          have bv_ := HBV.out
          have c0 := bv_.cell 0
          have c1 := bv_.cell 1
          have c2 := bv_.cell 2
          have c3 := bv_.cell 3
          have c4 := bv_.cell 4
          have c5 := bv_.cell 5
          have c6 := bv_.cell 6
          have c7 := bv_.cell 7
          simp only [List.getElem?_toArray, List.getElem?_cons_zero, List.getElem?_cons_succ] at c0 c1 c2 c3 c4 c5 c6 c7
          go_wp2_with fail
          refine wp_region_p [(0, true), (1, true), (2, true), (3, true), (6, true), (8, true), (9, true), (10, true), (12, true), (13, true), (14, true), (4, false), (5, true), (7, true), (11, true), (15, true)] (fun W => Below wr.heap.size wr W) (by kernel_rfl) (by kernel_rfl) ?_
          simp only [List.map_cons, List.map_nil, List.filterMap_cons, List.filterMap_nil, List.getElem?_cons_zero, List.getElem?_cons_succ, List.length_cons, List.length_nil, Nat.zero_add, Nat.reduceAdd, List.drop_succ_cons, List.drop_zero]
          refine mx_val (by kernel_rfl) ⟨_, (by (intro w' hC; clear hC; (try go_simp); (try with_reducible rfl); done)), _, (by (simp only [Act.put, List.setIfInBounds_toArray, List.set_cons_zero, List.set_cons_succ]; rfl)), ?_⟩
          refine mx_val (by kernel_rfl) ⟨_, (by (intro w' hC; (have q := (bv_.below hC).cell 7; simp only [List.getElem?_toArray, List.getElem?_cons_zero, List.getElem?_cons_succ] at q; skip); clear hC; (try go_simp); (try with_reducible rfl); done)), _, (by (simp only [Act.put, List.setIfInBounds_toArray, List.set_cons_zero, List.set_cons_succ]; rfl)), ?_⟩
          refine mx_val (by kernel_rfl) ⟨_, (by (intro w' hC; clear hC; (try go_simp); (try with_reducible rfl); done)), _, (by (simp only [Act.put, List.setIfInBounds_toArray, List.set_cons_zero, List.set_cons_succ]; rfl)), ?_⟩
          refine mx_val (by kernel_rfl) ⟨_, (by (intro w' hC; (have q := (bv_.below hC).cell 4; simp only [List.getElem?_toArray, List.getElem?_cons_zero, List.getElem?_cons_succ] at q; skip); clear hC; (try go_simp); (try with_reducible rfl); done)), _, (by (simp only [Act.put, List.setIfInBounds_toArray, List.set_cons_zero, List.set_cons_succ]; rfl)), ?_⟩
          refine mx_move _ (by kernel_rfl) rfl ⟨_, (by ((try simp [go_sem]); (try rfl); done)), _, (by (simp only [Act.put, List.setIfInBounds_toArray, List.set_cons_zero, List.set_cons_succ]; rfl)), ?_⟩
          refine mx_move _ (by kernel_rfl) rfl ⟨_, (by ((try simp [go_sem]); (try rfl); done)), _, (by (simp only [Act.put, List.setIfInBounds_toArray, List.set_cons_zero, List.set_cons_succ]; rfl)), ?_⟩
          refine mx_val (by kernel_rfl) ⟨_, (by (intro w' hC; clear hC; (try go_simp); (try with_reducible rfl); done)), _, (by (simp only [Act.put, List.setIfInBounds_toArray, List.set_cons_zero, List.set_cons_succ]; rfl)), ?_⟩
          refine mx_val (by kernel_rfl) ⟨_, (by (intro w' hC; (have q := (HG.out.below hC).r i hlt; rw [HKK.out] at q); clear hC; (try go_simp); (try with_reducible rfl); done)), _, (by (simp only [Act.put, List.setIfInBounds_toArray, List.set_cons_zero, List.set_cons_succ]; rfl)), ?_⟩
          refine mx_move _ (by kernel_rfl) rfl ⟨_, (by ((try simp [go_sem]); (try rfl); done)), _, (by (simp only [Act.put, List.setIfInBounds_toArray, List.set_cons_zero, List.set_cons_succ]; rfl)), ?_⟩
          refine mx_val (by kernel_rfl) ⟨_, (by (intro w' hC; clear hC; (try go_simp); (try with_reducible rfl); done)), _, (by (simp only [Act.put, List.setIfInBounds_toArray, List.set_cons_zero, List.set_cons_succ]; rfl)), ?_⟩
          refine mx_val (by kernel_rfl) ⟨_, (by (intro w' hC; (have q := words_cell (HBW.out.below hC) (i := i) (by rw [HWL.out]; exact hlt); rw [HWI.out] at q); clear hC; (try go_simp); (try with_reducible rfl); done)), _, (by (simp only [Act.put, List.setIfInBounds_toArray, List.set_cons_zero, List.set_cons_succ]; rfl)), ?_⟩
          refine mx_call ((Below.refl _ _).drew) (by kernel_rfl) ?_ (HT6.out _) ?_
          · (go_simp; done)
          rintro e w2 ⟨rfl, rfl⟩
          refine ⟨_, rfl, _, (by (simp only [Act.put, List.setIfInBounds_toArray, List.set_cons_zero, List.set_cons_succ]; rfl)), ?_⟩
          refine mx_val (by kernel_rfl) ⟨_, (by (intro w' hC; clear hC; (try go_simp); (try with_reducible rfl); done)), _, (by (simp only [Act.put, List.setIfInBounds_toArray, List.set_cons_zero, List.set_cons_succ]; rfl)), ?_⟩
          refine mx_val (by kernel_rfl) ⟨_, (by (intro w' hC; clear hC; (try go_simp); (try with_reducible rfl); done)), _, (by (simp only [Act.put, List.setIfInBounds_toArray, List.set_cons_zero, List.set_cons_succ]; rfl)), ?_⟩
          refine mx_val (by kernel_rfl) ⟨_, (by (intro w' hC; clear hC; (try go_simp); (try with_reducible rfl); done)), _, (by (simp only [Act.put, List.setIfInBounds_toArray, List.set_cons_zero, List.set_cons_succ]; rfl)), ?_⟩
          refine mx_val (by kernel_rfl) ⟨_, (by (intro w' hC; clear hC; (try go_simp); (try with_reducible rfl); done)), _, (by (simp only [Act.put, List.setIfInBounds_toArray, List.set_cons_zero, List.set_cons_succ]; rfl)), ?_⟩
          refine mx_end ((Below.refl _ _).drew) ?_
          have hBD : Below wr.heap.size wr wr.drew := (Below.refl _ _).drew
          replace bv_ := HBV.out.below hBD
          have hf6 := HF.out.then_below hBD
          clear c0 c1 c2 c3 c4 c5 c6 c7
          generalize wr.drew = w2' at *
          have c0 := bv_.cell 0
          have c1 := bv_.cell 1
          have c2 := bv_.cell 2
          have c3 := bv_.cell 3
          have c4 := bv_.cell 4
          have c5 := bv_.cell 5
          have c6 := bv_.cell 6
          have c7 := bv_.cell 7
          simp only [List.getElem?_toArray, List.getElem?_cons_zero, List.getElem?_cons_succ] at c0 c1 c2 c3 c4 c5 c6 c7
          clear HT6 HBV HF hf hBD HG HBW hgl hgwl
          have hvbl2 := bv_.lt
          go_wp2_with fail
          refine (HT2.out _).mono ?_
          rintro e w3 ⟨rfl, rfl⟩
          have kf : Fr (fun x => x = vb) w2' ((((((((w2'.setCell ⟨vb, 0, none⟩ (.int .u32 (s7 : Int))).setCell ⟨vb, 1, none⟩ (.int .u32 (va : Int))).setCell ⟨vb, 2, none⟩ (.int .u32 (vbb : Int))).setCell ⟨vb, 3, none⟩ (.int .u32 (vc : Int))).setCell ⟨vb, 4, none⟩ (.int .u32 (s8 : Int))).setCell ⟨vb, 5, none⟩ (.int .u32 (ve : Int))).setCell ⟨vb, 6, none⟩ (.int .u32 (vf : Int))).setCell ⟨vb, 7, none⟩ (.int .u32 (vg : Int))) := (((((((((Fr.refl (fun x => x = vb) w2').setAt vb 0 rfl _).setAt vb 1 rfl _).setAt vb 2 rfl _).setAt vb 3 rfl _).setAt vb 4 rfl _).setAt vb 5 rfl _).setAt vb 6 rfl _).setAt vb 7 rfl _)
          have bv8 := ((((((((bv_.set_ 0 (.int .u32 (s7 : Int))).set_ 1 (.int .u32 (va : Int))).set_ 2 (.int .u32 (vbb : Int))).set_ 3 (.int .u32 (vc : Int))).set_ 4 (.int .u32 (s8 : Int))).set_ 5 (.int .u32 (ve : Int))).set_ 6 (.int .u32 (vf : Int))).set_ 7 (.int .u32 (vg : Int)))
          simp only [List.setIfInBounds_toArray, List.set_cons_zero, List.set_cons_succ] at bv8
          have HB8 := Lib.hid bv8
          have HF8 := Lib.hid (hf6.trans kf (fun _ _ e => e))
          have fz := fun o => bv_.frozen o
          clear bv8 kf hf6 HT2
          go_wp2_with fail
          go_roundw
          case rel => exact ⟨i + 1, ⟨s7, va, vbb, vc, s8, ve, vf, vg⟩, hlt, by go_num, HB8.out, hok2, HNV, HF8.out⟩
          case measure => simp [intOf]; omega
        · have hi64 : i = 64 := by omega
          have hge64 : ¬ (i : Int) < 64 := by omega
          have HV : Hid (v = rounds P X 64) := Lib.hid (by rw [hv.out, hi64])
          obtain ⟨Y, hY⟩ : ∃ Y, Y = add8 s v := ⟨_, rfl⟩
          have HY := Lib.hid hY
          have HH4 := Lib.hid (HH2.out.fr hf (fun e => hvh e.symm))
          have HFW := Lib.hid (hw2.trans (hf.below (B := w.heap.size) hw2.size (fun k hk e => by omega)))
          have hix := fun (i : Nat) (hi : i < 8) (W : World) => index8 v i hi W
          have HIX := Lib.hid hix
          have hvbl := bv_.lt
          have c0 := bv_.cell 0
          have c1 := bv_.cell 1
          have c2 := bv_.cell 2
          have c3 := bv_.cell 3
          have c4 := bv_.cell 4
          have c5 := bv_.cell 5
          have c6 := bv_.cell 6
          have c7 := bv_.cell 7
          simp only [List.getElem?_toArray, List.getElem?_cons_zero, List.getElem?_cons_succ] at c0 c1 c2 c3 c4 c5 c6 c7
          clear hix hY hv hi64 hlt hi
          go_wp2_with fail
          rename World => wq
          clear c0 c1 c2 c3 c4 c5 c6 c7 bv_ hf
          go_loopw [107] (fun iv wr => ∃ (i : Nat) (T : List Nat), i ≤ 8 ∧ iv = .int .i64 (i : Int) ∧ HashAt wr hb T P n ∧ Hid (T.take i = Y.l.take i) ∧ Hid (∀ j, i ≤ j → T.getD j 0 = s.l.getD j 0) ∧ Fr (fun x => x = hb) wq wr) (fun iv _ => 8 - (intOf iv).toNat)
          case atStart => exact ⟨0, s.l, Nat.zero_le _, rfl, HH4.out, Lib.hid rfl, Lib.hid (fun _ _ => rfl), Fr.refl _ _⟩
          case round =>
            obtain ⟨i, T, hi, rfl, hH, hT, hD, hf⟩ := hrel
            by_cases hlt : i < 8
            · have hlti : (i : Int) < 8 := by omega
              have HHA := Lib.hid hH
              have hhl := hH.blk.lt
              obtain ⟨p1, hp1⟩ : ∃ p, p = T.getD i 0 := ⟨_, rfl⟩
              obtain ⟨p2, hp2⟩ : ∃ p, p = v.l.getD i 0 := ⟨_, rfl⟩
              obtain ⟨p3, hp3⟩ : ∃ p, p = Y.l.getD i 0 := ⟨_, rfl⟩
              have hadd : IntKind.u32.wrap ((p1 : Int) + (p2 : Int)) = (p3 : Int) := by rw [add_u32, hp1, hp2, hp3, HY.out, add8_get s v hlt, hD.out i (Nat.le_refl _)]
              have HP1 : Hid (T.getD i 0 = p1) := Lib.hid hp1.symm
              have hxi := fun W => HIX.out i hlt W
              rw [← hp2] at hxi
              have HTT : Hid ((T.set i p3).take (i + 1) = Y.l.take (i + 1)) := Lib.hid (by rw [hp3]; exact take_next hT.out (by rw [hH.ls]; omega) hlt)
              have HDD : Hid (∀ j, i + 1 ≤ j → (T.set i p3).getD j 0 = s.l.getD j 0) := Lib.hid (fun j hj => by
                rw [List.getD_eq_getElem?_getD, List.getElem?_set_ne (by omega), ← List.getD_eq_getElem?_getD]
                exact hD.out j (by omega))
              unfold u32v at hxi
              clear hp1 hp2 hp3 hT hD hH
              go_wp2_with fail
              refine wp_region_line (.tell 0 (.tell 1 (.tell 2 (.tell 3 (.tell 4 (.tell 5 (.tell 6 (.tell 7 (.tell 8 (.tell 9 (.tell 10 .done))))))))))) (fun W => Below wr.heap.size wr W) (by kernel_rfl) (by kernel_rfl) ?_
              refine pl_val (by (simp only [List.getElem?_toArray, List.getElem?_cons_zero]; rfl)) (by kernel_rfl) ⟨_, (by (intro w' hC; clear hC; (try go_simp); (try with_reducible rfl); done)), _, (by (simp only [Act.put, List.setIfInBounds_toArray, List.set_cons_zero, List.set_cons_succ]; rfl)), ?_⟩
              refine pl_val (by (simp only [List.getElem?_toArray, List.getElem?_cons_succ, List.getElem?_cons_zero]; rfl)) (by kernel_rfl) ⟨_, (by (intro w' hC; clear hC; (try go_simp); (try with_reducible rfl); done)), _, (by (simp only [Act.put, List.setIfInBounds_toArray, List.set_cons_zero, List.set_cons_succ]; rfl)), ?_⟩
              refine pl_val (by (simp only [List.getElem?_toArray, List.getElem?_cons_succ, List.getElem?_cons_zero]; rfl)) (by kernel_rfl) ⟨_, (by (intro w' hC; clear hC; (try go_simp); (try with_reducible rfl); done)), _, (by (simp only [Act.put, List.setIfInBounds_toArray, List.set_cons_zero, List.set_cons_succ]; rfl)), ?_⟩
              refine pl_val (by (simp only [List.getElem?_toArray, List.getElem?_cons_succ, List.getElem?_cons_zero]; rfl)) (by kernel_rfl) ⟨_, (by (intro w' hC; clear hC; (try go_simp); (try with_reducible rfl); done)), _, (by (simp only [Act.put, List.setIfInBounds_toArray, List.set_cons_zero, List.set_cons_succ]; rfl)), ?_⟩
              refine pl_val (by (simp only [List.getElem?_toArray, List.getElem?_cons_succ, List.getElem?_cons_zero]; rfl)) (by kernel_rfl) ⟨_, (by (intro w' hC; clear hC; (try go_simp); (try with_reducible rfl); done)), _, (by (simp only [Act.put, List.setIfInBounds_toArray, List.set_cons_zero, List.set_cons_succ]; rfl)), ?_⟩
              refine pl_val (by (simp only [List.getElem?_toArray, List.getElem?_cons_succ, List.getElem?_cons_zero]; rfl)) (by kernel_rfl) ⟨_, (by (intro w' hC; have q := (HHA.out.below hC).st (i := i) hlt; rw [HP1.out] at q; clear hC; (try go_simp); (try with_reducible rfl); done)), _, (by (simp only [Act.put, List.setIfInBounds_toArray, List.set_cons_zero, List.set_cons_succ]; rfl)), ?_⟩
              refine pl_val (by (simp only [List.getElem?_toArray, List.getElem?_cons_succ, List.getElem?_cons_zero]; rfl)) (by kernel_rfl) ⟨_, (by (intro w' hC; clear hC; (try go_simp); (try with_reducible rfl); done)), _, (by (simp only [Act.put, List.setIfInBounds_toArray, List.set_cons_zero, List.set_cons_succ]; rfl)), ?_⟩
              refine pl_val (by (simp only [List.getElem?_toArray, List.getElem?_cons_succ, List.getElem?_cons_zero]; rfl)) (by kernel_rfl) ⟨_, (by (intro w' hC; clear hC; (try go_simp); (try with_reducible rfl); done)), _, (by (simp only [Act.put, List.setIfInBounds_toArray, List.set_cons_zero, List.set_cons_succ]; rfl)), ?_⟩
              refine pl_val (by (simp only [List.getElem?_toArray, List.getElem?_cons_succ, List.getElem?_cons_zero]; rfl)) (by kernel_rfl) ⟨_, (by (intro w' hC; clear hC; (try go_simp); (try with_reducible rfl); done)), _, (by (simp only [Act.put, List.setIfInBounds_toArray, List.set_cons_zero, List.set_cons_succ]; rfl)), ?_⟩
              refine pl_val (by (simp only [List.getElem?_toArray, List.getElem?_cons_succ, List.getElem?_cons_zero]; rfl)) (by kernel_rfl) ⟨_, (by (intro w' hC; clear hC; (try go_simp); (try with_reducible rfl); done)), _, (by (simp only [Act.put, List.setIfInBounds_toArray, List.set_cons_zero, List.set_cons_succ]; rfl)), ?_⟩
              refine pl_val (by (simp only [List.getElem?_toArray, List.getElem?_cons_succ, List.getElem?_cons_zero]; rfl)) (by kernel_rfl) ⟨_, (by (intro w' hC; clear hC; (try go_simp); (try with_reducible rfl); done)), _, (by (simp only [Act.put, List.setIfInBounds_toArray, List.set_cons_zero, List.set_cons_succ]; rfl)), ?_⟩
              have hBD : Below wr.heap.size wr wr.drew := (Below.refl _ _).drew
              refine pl_end hBD ?_
              simp only [Plan.count, Nat.reduceAdd, List.drop_succ_cons, List.drop_zero]
              have h6 := HHA.out.below hBD
              have hf6 := hf.then_below hBD
              generalize wr.drew = w6 at *
              have fz := h6.blk.frozen i
              have cw := h6.st hlt
              have HST := Lib.hid (h6.set i p3 hlt)
              have HF3 := Lib.hid (hf6.trans ((Fr.refl (fun x => x = hb) w6).setAt hb i rfl (.int .u32 (p3 : Int))) (fun _ _ e => e))
              clear h6 hf6 hBD HHA hf hxi
              go_wp2_with fail
              go_roundw
              case rel => exact ⟨i + 1, T.set i p3, hlt, by go_num, HST.out, HTT, HDD, HF3.out⟩
              case measure => simp [intOf]; omega
            · obtain rfl : i = 8 := by omega
              have hTY : T = Y.l := by
                have h := hT.out
                rw [List.take_of_length_le (by rw [hH.ls]; exact Nat.le_refl _)] at h
                exact h
              subst hTY
              have HHE := Lib.hid hH
              have hwl := HFW.out
              clear hH hT hD
              go_wp2_with fail
              go_end0
              refine ⟨rfl, by rw [← HV.out, ← HY.out]; exact HHE.out, ?_⟩
              exact (Fr.of_below hwl (fun x => x = hb)).trans hf (fun _ _ e => e)

end Go.Proofs.YtjcfphdjgagimaaGreatDoor

/- sha.Hash.Write. -/
namespace Go.Proofs.YtjcfphdjgagimaaGreatDoor
open Go.RowKit

theorem hash_splice (S : List Nat) (P X : List UInt8) (n : Int) (at_ : Nat) (hS : S.length = 8) (hP : P.length = 64) (h : at_ + X.length ≤ 64) :
    (hashCells S P n).take (8 + at_) ++ (X.map bv ++ (hashCells S P n).drop (8 + at_ + X.length)) = hashCells S (P.take at_ ++ (X ++ P.drop (at_ + X.length))) n := by
  unfold hashCells
  have hs : (S.map u32v).length = 8 := by rw [List.length_map, hS]
  have hp : (P.map bv).length = 64 := by rw [List.length_map, hP]
  rw [List.take_append, List.drop_append, hs, List.take_of_length_le (by rw [hs]; omega), show 8 + at_ - 8 = at_ by omega, List.drop_of_length_le (l := S.map u32v) (by rw [hs]; omega), List.nil_append, show 8 + at_ + X.length - 8 = at_ + X.length by omega,
    List.take_append_of_le_length (by rw [hp]; omega), List.drop_append_of_le_length (by rw [hp]; omega), List.append_assoc]
  simp only [List.map_append, List.map_take, List.map_drop, List.append_assoc]
theorem HashAt.copy {w : World} {hb : Nat} {S : List Nat} {P : List UInt8} {n : Int} (h : HashAt w hb S P n) (X : List UInt8) (at_ : Nat) (hX : at_ + X.length ≤ 64) :
    HashAt (w.setRow hb (((hashCells S P n).toArray.toList.take (8 + at_)) ++ (X.map bv ++ (hashCells S P n).toArray.toList.drop (8 + at_ + (X.map bv).length))).toArray) hb S (P.take at_ ++ (X ++ P.drop (at_ + X.length))) n := by
  refine ⟨?_, h.ls, ?_⟩
  · have := h.blk.setRow (((hashCells S P n).toArray.toList.take (8 + at_)) ++ (X.map bv ++ (hashCells S P n).toArray.toList.drop (8 + at_ + (X.map bv).length))).toArray
    rw [List.length_map] at this ⊢
    rw [hash_splice S P X n at_ h.ls h.lp hX] at this ⊢
    exact this
  · rw [List.length_append, List.length_append, List.length_take, List.length_drop, h.lp]
    omega
theorem part_slice (hb a : Nat) (h : a < 64) (W : World) : (Instr.sliceAt 78 (.pointer (some ⟨hb, 8, none⟩)) (some (.int .i64 (a : Int))) none none).run Tryz.prog W = .ok (.slice (some ⟨hb, 8 + a, none⟩) (64 - a) (64 - a)) W := by
  have hl : Tryz.prog.arrayLen 78 = 64 := by kernel_rfl
  rw [run_sliceAt_array_l W 78 ⟨hb, 8, none⟩ (by kernel_rfl) .i64 (a : Int) (by omega) (by rw [hl]; omega)]
  rw [show (sizeOf (Tryz.prog.elem 78)).run Tryz.prog W = .ok 1 W by kernel_rfl, hl]
  simp only [Result.andThen, slicedAt, Int.toNat_natCast]
  rw [if_neg (by omega), add_none, Nat.mul_one]
theorem part_all (hb : Nat) (W : World) : (Instr.sliceAt 78 (.pointer (some ⟨hb, 8, none⟩)) none none none).run Tryz.prog W = .ok (.slice (some ⟨hb, 8, none⟩) 64 64) W := by
  have hl : Tryz.prog.arrayLen 78 = 64 := by kernel_rfl
  rw [run_sliceAt_array_all W 78 ⟨hb, 8, none⟩ (by kernel_rfl)]
  rw [show (sizeOf (Tryz.prog.elem 78)).run Tryz.prog W = .ok 1 W by kernel_rfl, hl]
  simp only [Result.andThen, slicedAt]
  rw [if_neg (by omega), Nat.zero_mul, add_none, Nat.add_zero]
theorem bytes_tail (A : Option Addr) (n c k : Nat) (hk : k ≤ n) (W : World) : (Instr.slice 29 (.slice A n c) (some (.int .i64 (k : Int))) none none).run Tryz.prog W = .ok (.slice (if c = k then A else A.map (·.add (k * 1))) (n - k) (c - k)) W := by
  rw [run_slice_l W 29 A n c (by kernel_rfl) .i64 (k : Int) (by omega) (by omega)]
  rw [show (sizeOf (Tryz.prog.elem 29)).run Tryz.prog W = .ok 1 W by kernel_rfl]
  simp only [Result.andThen, sliced, Int.toNat_natCast]
def lenW : Value → Nat | .slice _ n _ => n | _ => 0
/-- what the rounds of Write keep -/
structure WrR (w : World) (hb : Nat) (M b : List UInt8) (Z : Nat → Prop) (n : Int) (bv_ av : Value) (wr : World) : Prop where
  at_ : ∃ (M1 b1 : List UInt8) (A1 : Option Addr) (c1 a1 : Nat) (s1 : V8) (P1 : List UInt8), Hid (M ++ b = M1 ++ b1) ∧ bv_ = .slice A1 b1.length c1 ∧ av = .int .i64 (a1 : Int) ∧ Hid (a1 = M1.length % 64) ∧ HashAt wr hb s1.l P1 n ∧ HashOf M1 s1 P1 ∧ By wr Z A1 b1 ∧ b1.length ≤ c1 ∧ c1 ≤ maxLen
  fr : Fr (fun x => x = hb) w wr

set_option maxRecDepth 100000 in
set_option maxHeartbeats 4000000 in
theorem write_any (hb : Nat) (s : V8) (P M : List UInt8) (A : Option Addr) (c : Nat) (b : List UInt8) (Z : Nat → Prop) (w : World) (h : HashAt w hb s.l P (M.length : Int)) (hM : HashOf M s P) (hG : Globs w) (hy : BV.ok w Z ⟨A, c, b⟩) (hZ : ∀ x, Z x → x ≠ hb) (h2 : 2 ≤ hb) (hl : M.length + b.length ≤ 4611686018427387904) :
    Calls Tryz.prog 37 #[.pointer (some ⟨hb, 0, none⟩), .slice A b.length c] w fun e w' => e = .returned (.tuple #[]) ∧ (∃ (s' : V8) (P' : List UInt8), HashAt w' hb s'.l P' ((M.length + b.length : Nat) : Int) ∧ HashOf (M ++ b) s' P') ∧ Fr (fun x => x = hb) w w' := by
  have hn := h.long
  have hbl := h.blk.lt
  have fz := h.blk.frozen 72
  obtain ⟨m, hm⟩ : ∃ m, m = M.length := ⟨_, rfl⟩
  rw [← hm] at hn
  obtain ⟨q, hq⟩ : ∃ q, q = m % 64 := ⟨_, rfl⟩
  have e1 : IntKind.i64.wrap ((m : Int) % 64) = (q : Int) := by rw [IntKind.wrap_i64]; omega
  have e2 : IntKind.i64.wrap ((m : Int).tmod 64) = (q : Int) := by rw [Int.tmod_eq_emod_of_nonneg (by omega)]; exact e1
  have e4 : (m : Int) % 64 = (q : Int) := by omega
  have e3 : IntKind.i64.wrap ((m : Int) + (b.length : Int)) = ((m + b.length : Nat) : Int) := by rw [IntKind.wrap_i64]; omega
  have HN := Lib.hid (h.setN ((m + b.length : Nat) : Int))
  have HM := Lib.hid hM
  have HY := Lib.hid hy
  have HMM := Lib.hid hm
  have HQ := Lib.hid hq
  have k1 : Fr (fun x => x = hb) w (w.setCell ⟨hb, 72, none⟩ (.int .i64 ((m + b.length : Nat) : Int))) := (Fr.refl (fun x => x = hb) w).setAt hb 72 rfl _
  have HG := Lib.hid (hG.fr k1 (by omega) (by omega))
  have HK := Lib.hid k1
  have HGW := Lib.hid hG
  have hc := hy.2
  obtain ⟨N, hN⟩ : ∃ N : Nat, N = m + b.length := ⟨_, rfl⟩
  rw [← hN] at e3 HN HG HK
  rw [← hm, ← hN]
  have HNN := Lib.hid hN
  have W0 : Hid (WrR w hb M b Z (N : Int) (.slice A b.length c) (.int .i64 (q : Int)) (w.setCell ⟨hb, 72, none⟩ (.int .i64 (N : Int)))) := Lib.hid ⟨⟨M, b, A, c, q, s, P, Lib.hid rfl, rfl, rfl, Lib.hid (by rw [HQ.out, HMM.out]), HN.out, HM.out, (HY.out.fr HK.out (fun x _ hz e => hZ x hz e)).1, hc.1, hc.2⟩, HK.out⟩
  clear h hM hG hy hm hq k1 hN
  go_enter Tryz.func37, Tryz.ntmps37
  go_upto_region 3 with (fail)
  generalize w.setCell ⟨hb, 72, none⟩ (.int .i64 (N : Int)) = w1 at *
  go_wp2_with fail
  go_loopw [1, 4] (fun bv_ av wr => WrR w hb M b Z (N : Int) bv_ av wr) (fun bv_ _ _ => lenW bv_)
  case atStart => exact W0.out
  case round =>
    obtain ⟨⟨M1, b1, A1, c1, a1, s1, P1, hMb, rfl, rfl, ha, hH, hHO, hby, hc1, hcm⟩, hf⟩ := hrel
    by_cases hlt : 0 < b1.length
    · have hlti : (0 : Int) < (b1.length : Int) := by omega
      obtain ⟨ab, ao, hA, hz, hab⟩ := hby.some_of (by omega)
      obtain ⟨k, hk⟩ : ∃ k, k = min b1.length (64 - a1) := ⟨_, rfl⟩
      obtain ⟨X, hX⟩ : ∃ X, X = b1.take k := ⟨_, rfl⟩
      have ha64 : a1 < 64 := by rw [ha.out]; omega
      have hXl : X.length = k := by rw [hX, List.length_take]; omega
      have hk1 : k ≤ b1.length := by omega
      have hk2 : k ≤ 64 - a1 := by omega
      have hk0 : 0 < k := by omega
      have hne : ¬ 64 = a1 := by omega
      obtain ⟨A2, hA2⟩ : ∃ A2, A2 = (if c1 = k then A1 else A1.map (·.add (k * 1))) := ⟨_, rfl⟩
      have hbt := fun W => bytes_tail A1 b1.length c1 k hk1 W
      rw [← hA2] at hbt
      have HBT := Lib.hid hbt
      have hdr := hby.drop (k := k) (cap := c1) hk1 hc1
      rw [← hA2, Nat.mul_one, ← List.map_drop] at hdr
      obtain ⟨b2, hb2⟩ : ∃ b2, b2 = b1.drop k := ⟨_, rfl⟩
      have hb2l : b1.length - k = b2.length := by rw [hb2, List.length_drop]
      rw [← hb2, hb2l] at hdr
      have HDR := Lib.hid hdr
      have HSR := Lib.hid (show ∀ j v, (X.map bv)[j]? = some v → wr.cell? ((⟨ab, ao, none⟩ : Addr).add j) = some v from fun j v hj => by
        rw [hX, List.map_take] at hj
        have hj2 : (b1.map bv)[j]? = some v := by
          rw [List.getElem?_take] at hj
          split at hj
          · exact hj
          · cases hj
        obtain ⟨g', o', e9, _, _, hcc⟩ := Rd.atj hby hj2
        rw [hA] at e9
        injection e9 with e9
        rw [e9, add_none]
        exact hcc)
      have HXL : Hid ((X.map bv).length = k) := Lib.hid (by rw [List.length_map, hXl])
      have HMN : Hid ((X.map bv).length = Nat.min b1.length (64 - a1)) := Lib.hid (by rw [List.length_map, hXl, hk])
      have HFT : Hid (8 + a1 + (X.map bv).length ≤ (hashCells s1.l P1 (N : Int)).toArray.size) := Lib.hid (by
        rw [List.length_map, hXl]
        have h1 := hH.ls
        have h2 := hH.lp
        simp only [hashCells, List.size_toArray, List.length_append, List.length_map, h1, h2, List.length_singleton]
        omega)
      have HCP := Lib.hid (hH.copy X a1 (by rw [hXl]; omega))
      have HBLK := Lib.hid hH.blk
      obtain ⟨a2, ha2⟩ : ∃ a2, a2 = a1 + k := ⟨_, rfl⟩
      have hadd : IntKind.i64.wrap ((a1 : Int) + (k : Int)) = (a2 : Int) := by rw [IntKind.wrap_i64]; omega
      have ha2l : a2 ≤ 64 := by omega
      have HA2 := Lib.hid ha2
      have HXX := Lib.hid hX
      have HXk := Lib.hid hXl
      have HKK := Lib.hid hk
      have HB2 := Lib.hid hb2
      have HMB : Hid (M ++ b = (M1 ++ X) ++ b2) := Lib.hid (by rw [hMb.out, hX, hb2, List.append_assoc, List.take_append_drop])
      have HB2L := Lib.hid hb2l
      rw [hb2l, hA] at HBT
      subst hA
      clear hbt hdr hb2l hX hXl hb2 hA2 ha2 hby hk hMb
      have hps := fun W => part_slice hb a1 ha64 W
      have hpa := fun W => part_all hb W
      go_upto_region 5 with (refine wpList_copy_own rfl (.tmp 29) (.tmp 30) 29 29 rfl 5 Tryz.underlying29 (by kernel_rfl) hb (8 + a1) (64 - a1) (64 - a1) ⟨ab, ao, none⟩ b1.length c1 rfl rfl _ 80 HBLK.out (X.map bv) HMN.out HSR.out HFT.out (bv_one X) ?_; rw [HXL.out, show goInt k = Value.int .i64 (k : Int) from rfl])
      have hcp : HashAt (wr.setRow hb (List.take (8 + a1) (hashCells s1.l P1 (N : Int)) ++ (List.map bv X ++ List.drop (8 + a1 + k) (hashCells s1.l P1 (N : Int)))).toArray) hb s1.l (P1.take a1 ++ (X ++ P1.drop (a1 + X.length))) (N : Int) := by
        have := HCP.out
        rw [HXL.out] at this
        exact this
      have kf : Fr (fun x => x = hb) wr (wr.setRow hb (List.take (8 + a1) (hashCells s1.l P1 (N : Int)) ++ (List.map bv X ++ List.drop (8 + a1 + k) (hashCells s1.l P1 (N : Int)))).toArray) := (Fr.refl (fun x => x = hb) wr).setRow hb rfl _
      have hf2 := hf.trans kf (fun _ _ e => e)
      have HDR2 := Lib.hid (Rd.fr HDR.out kf (fun x _ hz e => hZ x hz e))
      have HG2 := Lib.hid (HGW.out.fr hf2 (by omega) (by omega))
      generalize (wr.setRow hb (List.take (8 + a1) (hashCells s1.l P1 (N : Int)) ++ (List.map bv X ++ List.drop (8 + a1 + k) (hashCells s1.l P1 (N : Int)))).toArray) = w2 at *
      have hbt2 := HBT.out
      clear HCP HBLK HSR HFT HMN HXL hps HDR kf hf hH
      by_cases h64 : a2 = 64
      · have h64i : ((a2 : Int) == 64) = true := by rw [beq_iff_eq]; omega
        have hfull := hHO.full (b := X) (by rw [← ha.out, HXk.out, ← HA2.out]; exact h64)
        rw [← ha.out] at hfull
        have hdrop : P1.drop (a1 + X.length) = [] := List.drop_of_length_le (by rw [hHO.len, HXk.out, ← HA2.out]; omega)
        rw [hdrop, List.append_nil] at hcp
        have HMX := Lib.hid (mix_any hb s1 (P1.take a1 ++ X) (N : Int) w2 hcp HG2.out h2)
        have HFU := Lib.hid hfull
        have HAA : Hid (0 = (M1 ++ X).length % 64) := Lib.hid (by
          have h1 := ha.out
          have h2 := HA2.out
          rw [List.length_append, HXk.out]
          omega)
        clear hfull hdrop hcp h64
        go_wp2_with fail
        refine HMX.out.mono ?_
        rintro e w3 ⟨rfl, hH3, hf3⟩
        have HDR3 := Lib.hid (Rd.fr HDR2.out hf3 (fun x _ hz e => hZ x hz e))
        have hf4 := hf2.trans hf3 (fun _ _ e => e)
        have HH3 := Lib.hid hH3
        clear hH3 hf3 hf2 HMX
        go_wp2_with fail
        go_roundw
        case rel => exact ⟨⟨M1 ++ X, b2, A2, c1 - k, 0, _, _, HMB, rfl, rfl, HAA, HH3.out, HFU.out, HDR3.out, by have := HB2L.out; omega, by omega⟩, hf4⟩
        case measure => simp only [lenW]; have := HB2L.out; omega
      · have h64i : ((a2 : Int) == 64) = false := by rw [beq_eq_false_iff_ne]; omega
        have hk4 : k = b1.length := by
          have := HKK.out
          have := HA2.out
          omega
        have hXb : X = b1 := by rw [HXX.out, hk4, List.take_length]
        have hsome := hHO.some (b := X) (by rw [← ha.out, HXk.out, ← HA2.out]; omega)
        rw [← ha.out, List.append_assoc] at hsome
        have HSO := Lib.hid hsome
        have HCP := Lib.hid hcp
        have HAA : Hid (a2 = (M1 ++ X).length % 64) := Lib.hid (by
          have h1 := ha.out
          have h2 := HA2.out
          rw [List.length_append, HXk.out]
          omega)
        clear hsome hcp h64 hXb hk4
        go_wp2_with fail
        go_roundw
        case rel => exact ⟨⟨M1 ++ X, b2, A2, c1 - k, a2, _, _, HMB, rfl, rfl, HAA, HCP.out, HSO.out, HDR2.out, by have := HB2L.out; omega, by omega⟩, hf2⟩
        case measure => simp only [lenW]; have := HB2L.out; omega
    · have hb0 : b1 = [] := List.eq_nil_of_length_eq_zero (by omega)
      have HE : Hid (M ++ b = M1) := Lib.hid (by rw [hMb.out, hb0, List.append_nil])
      have HH := Lib.hid hH
      subst hb0
      clear hH hby hMb
      go_wp2_with fail
      go_end0
      refine ⟨rfl, ⟨s1, P1, HH.out, by rw [HE.out]; exact hHO⟩, hf⟩

end Go.Proofs.YtjcfphdjgagimaaGreatDoor

/- sha: a number as eight bytes; a hash cloned. -/
namespace Go.Proofs.YtjcfphdjgagimaaGreatDoor
open Go.RowKit

theorem made_bytes (n : Nat) : (madeCells (Value.int .u8 0).cells (n * 1)).toList = (List.replicate n (0 : UInt8)).map bv := by
  have e : (Value.int .u8 0).cells = #[Value.int .u8 0] := rfl
  rw [e, Nat.mul_one]
  apply List.ext_getElem?
  intro i
  rw [Array.getElem?_toList]
  by_cases hi : i < n
  · simp [madeCells, hi, Nat.mod_one, bv]
  · rw [Array.getElem?_eq_none (by rw [size_madeCells]; omega), List.getElem?_eq_none (by simp; omega)]
theorem wpList_make_bytes {w : World} {ops : Array Oper} {rest : List Oper} {o : Oper} {a : Act} {Q : Exit → Act → World → Prop} (hgd : o.guard = none) (l c : Operand) (ho : o.op = Op.makeSlice 29 l c)
    (L C : Int) (n : Nat) (hl : a.eval l = .int .i64 L) (hc : a.eval c = .int .i64 C) (hL : L = (n : Int)) (hC : C = (n : Int)) (hn : n ≤ 1000000) {base : Nat} (hb : base ≤ w.heap.size)
    (h : ∀ w', OwB w' base (.slice (some ⟨w.heap.size, 0, none⟩) n n) (List.replicate n 0) → Below w.heap.size w w' → wpList Tryz.prog ops Q rest (a.put o.dst (.slice (some ⟨w.heap.size, 0, none⟩) n n)) w') : wpList Tryz.prog ops Q (o :: rest) a w := by
  obtain ⟨i0, hi0, hz0, hz1, hz2⟩ := info_parts u8_info
  refine wpList_make_full w hgd l c 29 ho base 5 i0 _ 1 Tryz.underlying29 hi0 hz0 hz1 .i64 .i64 L C n hl hc hL hC (by rw [hz2]; omega) (by simp only [maxLen]; omega) hb ?_
  intro w' h1 h2
  refine h w' ?_ ⟨h2.os, h2.tape, h2.output, h2.size, fun k hk => h2.block k hk (by simp)⟩
  unfold OwB
  rw [List.length_replicate, ← made_bytes n]
  exact h1
theorem eightB_get (n : Nat) {i : Nat} (hi : i < 8) : (eightB n).getD i 0 = UInt8.ofNat (n / 2 ^ (8 * (7 - i))) := by
  unfold eightB
  rw [List.getD_eq_getElem?_getD, List.getElem?_map, List.getElem?_range hi]
  show UInt8.ofNat (n / 256 ^ (7 - i)) = _
  rw [show (256 : Nat) = 2 ^ 8 from rfl, ← Nat.pow_mul]
theorem take_stepB {L M : List UInt8} {i : Nat} (h : L.take i = M.take i) (hl : i < L.length) (hm : i < M.length) : (L.set i (M.getD i 0)).take (i + 1) = M.take (i + 1) := by
  rw [List.take_succ_eq_append_getElem (by rw [List.length_set]; exact hl), List.getElem_set_self, List.take_set_of_le (Nat.le_refl _), h, List.take_succ_eq_append_getElem hm, List.getD_eq_getElem?_getD, List.getElem?_eq_getElem hm]
  rfl
theorem u8_wrap (v : Nat) : IntKind.u8.wrap (v : Int) = ((UInt8.ofNat v).toNat : Int) := by
  rw [UInt8.toNat_ofNat']
  simp [IntKind.wrap, IntKind.bits, IntKind.signed]

set_option maxRecDepth 100000 in
set_option maxHeartbeats 2000000 in
theorem eight_any (n : Nat) (hn : n < 9223372036854775808) (w : World) :
    Calls Tryz.prog 70 #[.int .i64 (n : Int)] w fun e w' => ∃ (A : Option Addr) (l : List UInt8), e = .returned (.slice A 8 8) ∧ Hid (l = eightB n) ∧ OwB w' w.heap.size (.slice A 8 8) l ∧ Below w.heap.size w w' := by
  go_enter Tryz.func70, Tryz.ntmps70
  go_wp2_with (refine wpList_make_bytes rfl _ _ rfl 8 8 8 rfl rfl rfl rfl (by omega) (Nat.le_refl _) ?_; intro w1 ho hb1)
  go_loopw [8] (fun iv wr => ∃ (i : Nat) (l : List UInt8), i ≤ 8 ∧ iv = .int .i64 (i : Int) ∧ OwB wr w.heap.size (.slice (some ⟨w.heap.size, 0, none⟩) 8 8) l ∧ l.length = 8 ∧ Hid (l.take i = (eightB n).take i) ∧ Below w.heap.size w wr) (fun iv _ => 8 - (intOf iv).toNat)
  case atStart => exact ⟨0, List.replicate 8 0, Nat.zero_le _, rfl, ho, rfl, Lib.hid rfl, hb1⟩
  case round =>
    obtain ⟨i, l, hi, rfl, hl, hll, hT, hb⟩ := hrel
    by_cases hlt : i < 8
    · have hlti : (i : Int) < 8 := by omega
      obtain ⟨j, hj⟩ : ∃ j, j = 7 - i := ⟨_, rfl⟩
      obtain ⟨e8, he8⟩ : ∃ e, e = 8 * j := ⟨_, rfl⟩
      have w1' : IntKind.i64.wrap (7 - (i : Int)) = (j : Int) := by rw [IntKind.wrap_i64]; omega
      have w2' : IntKind.i64.wrap (8 * (j : Int)) = (e8 : Int) := by rw [IntKind.wrap_i64]; omega
      have w3' : IntKind.u64.wrap (n : Int) = (n : Int) := by
        simp [IntKind.wrap, IntKind.bits, IntKind.signed]
        omega
      obtain ⟨v, hv⟩ : ∃ v, v = n / 2 ^ e8 := ⟨_, rfl⟩
      have w4' : (n : Int) / 2 ^ min e8 64 = (v : Int) := by rw [show min e8 64 = e8 by omega, hv]; simp
      obtain ⟨x, hx⟩ : ∃ x, x = UInt8.ofNat v := ⟨_, rfl⟩
      have w5' : IntKind.u8.wrap (v : Int) = (x.toNat : Int) := by rw [u8_wrap, hx]
      have he0 : ¬ (e8 : Int) < 0 := by omega
      have hxg : x = (eightB n).getD i 0 := by rw [eightB_get n hlt, hx, hv, he8, hj]
      have HTT : Hid ((l.set i x).take (i + 1) = (eightB n).take (i + 1)) := Lib.hid (by
        rw [hxg]
        exact take_stepB hT.out (by omega) (by rw [eightB_len]; exact hlt))
      have hl8 : OwB wr w.heap.size (.slice (some ⟨w.heap.size, 0, none⟩) l.length 8) l := by rw [hll]; exact hl
      obtain ⟨y, hcell⟩ : ∃ y : UInt8, wr.cell? ⟨w.heap.size, i, none⟩ = some (.int .u8 (y.toNat : Int)) := ⟨_, hl8.cellAt (by omega : i < l.length)⟩
      have fz := hl8.frozenAt i
      have hput := hl8.put i x
      have hlt2 := (hl8.lt w.heap.size rfl).2
      have HP : Hid (OwB (wr.setCell ⟨w.heap.size, i, none⟩ (.int .u8 (x.toNat : Int))) w.heap.size (.slice (some ⟨w.heap.size, 0, none⟩) 8 8) (l.set i x)) := Lib.hid (by
        rw [List.length_set, hll] at hput
        exact hput)
      have HPL : Hid ((l.set i x).length = 8) := Lib.hid (by rw [List.length_set, hll])
      have hb2 : Below w.heap.size w (wr.setCell ⟨w.heap.size, i, none⟩ (.int .u8 (x.toNat : Int))) := hb.trans ((((Fr.refl (fun y => y = w.heap.size) wr).setAt w.heap.size i rfl _)).below (B := w.heap.size) hb.size (fun k hk e => by omega))
      clear hj he8 hv hx hxg hl hll hT hl8 hput
      go_wp2_with fail
      go_roundw
      case rel => exact ⟨i + 1, l.set i x, hlt, by go_num, HP.out, HPL.out, HTT, hb2⟩
      case measure => simp [intOf]; omega
    · have h8 : i = 8 := by omega
      have HE : Hid (l = eightB n) := Lib.hid (by
        have := hT.out
        rw [h8, List.take_of_length_le (by omega), List.take_of_length_le (by rw [eightB_len]; exact Nat.le_refl _)] at this
        exact this)
      clear hT h8 hll
      go_wp2_with fail
      go_ret
      exact ⟨_, l, rfl, HE, hl, hb⟩

end Go.Proofs.YtjcfphdjgagimaaGreatDoor

/- sha.Hash.Clone, Sum; sha.Sum. -/
namespace Go.Proofs.YtjcfphdjgagimaaGreatDoor
open Go.RowKit

theorem digest_get (v : V8) {i k : Nat} (hi : i < 8) (hk : k < 4) : (digestS v).getD (4 * i + k) 0 = UInt8.ofNat (v.l.getD i 0 / 2 ^ (24 - 8 * k)) := by
  obtain rfl | rfl | rfl | rfl | rfl | rfl | rfl | rfl : i = 0 ∨ i = 1 ∨ i = 2 ∨ i = 3 ∨ i = 4 ∨ i = 5 ∨ i = 6 ∨ i = 7 := by omega
  all_goals
    obtain rfl | rfl | rfl | rfl : k = 0 ∨ k = 1 ∨ k = 2 ∨ k = 3 := by omega
    all_goals first | rfl | (simp [digestS, V8.l, wordS])
theorem hash_len (S : List Nat) (P : List UInt8) (n : Int) (h1 : S.length = 8) (h2 : P.length = 64) : (hashCells S P n).toArray.size = 73 := by
  simp [hashCells, h1, h2]
theorem hash_one (S : List Nat) (P : List UInt8) (n : Int) : ((hashCells S P n).toArray).all (·.oneCell') = true := by
  rw [List.all_toArray, List.all_eq_true]
  intro x hx
  unfold hashCells at hx
  rcases List.mem_append.1 hx with hx | hx
  · obtain ⟨m, _, rfl⟩ := List.mem_map.1 hx; rfl
  · rcases List.mem_append.1 hx with hx | hx
    · obtain ⟨m, _, rfl⟩ := List.mem_map.1 hx; rfl
    · rw [List.mem_singleton.1 hx]; rfl
theorem HashAt.of_blk {w : World} {g : Nat} {S : List Nat} {P : List UInt8} {n : Int} (h1 : S.length = 8) (h2 : P.length = 64) (h : Blk w g 80 (hashCells S P n).toArray) : HashAt w g S P n := ⟨h, h1, h2⟩

theorem hash_zero : (Tryz.prog.info? 80).map (fun i => (i.zero, i.size)) = some (some (.agg #[.int .u32 0, .int .u32 0, .int .u32 0, .int .u32 0, .int .u32 0, .int .u32 0, .int .u32 0, .int .u32 0, .int .u8 0, .int .u8 0, .int .u8 0, .int .u8 0, .int .u8 0, .int .u8 0, .int .u8 0, .int .u8 0, .int .u8 0, .int .u8 0, .int .u8 0, .int .u8 0, .int .u8 0, .int .u8 0, .int .u8 0, .int .u8 0, .int .u8 0, .int .u8 0, .int .u8 0, .int .u8 0, .int .u8 0, .int .u8 0, .int .u8 0, .int .u8 0, .int .u8 0, .int .u8 0, .int .u8 0, .int .u8 0, .int .u8 0, .int .u8 0, .int .u8 0, .int .u8 0, .int .u8 0, .int .u8 0, .int .u8 0, .int .u8 0, .int .u8 0, .int .u8 0, .int .u8 0, .int .u8 0, .int .u8 0, .int .u8 0, .int .u8 0, .int .u8 0, .int .u8 0, .int .u8 0, .int .u8 0, .int .u8 0, .int .u8 0, .int .u8 0, .int .u8 0, .int .u8 0, .int .u8 0, .int .u8 0, .int .u8 0, .int .u8 0, .int .u8 0, .int .u8 0, .int .u8 0, .int .u8 0, .int .u8 0, .int .u8 0, .int .u8 0, .int .u8 0, .int .i64 0]), 73) := by kernel_rfl
theorem zero_cells : (#[.int .u32 0, .int .u32 0, .int .u32 0, .int .u32 0, .int .u32 0, .int .u32 0, .int .u32 0, .int .u32 0, .int .u8 0, .int .u8 0, .int .u8 0, .int .u8 0, .int .u8 0, .int .u8 0, .int .u8 0, .int .u8 0, .int .u8 0, .int .u8 0, .int .u8 0, .int .u8 0, .int .u8 0, .int .u8 0, .int .u8 0, .int .u8 0, .int .u8 0, .int .u8 0, .int .u8 0, .int .u8 0, .int .u8 0, .int .u8 0, .int .u8 0, .int .u8 0, .int .u8 0, .int .u8 0, .int .u8 0, .int .u8 0, .int .u8 0, .int .u8 0, .int .u8 0, .int .u8 0, .int .u8 0, .int .u8 0, .int .u8 0, .int .u8 0, .int .u8 0, .int .u8 0, .int .u8 0, .int .u8 0, .int .u8 0, .int .u8 0, .int .u8 0, .int .u8 0, .int .u8 0, .int .u8 0, .int .u8 0, .int .u8 0, .int .u8 0, .int .u8 0, .int .u8 0, .int .u8 0, .int .u8 0, .int .u8 0, .int .u8 0, .int .u8 0, .int .u8 0, .int .u8 0, .int .u8 0, .int .u8 0, .int .u8 0, .int .u8 0, .int .u8 0, .int .u8 0, .int .i64 0] : Array Value) = (hashCells (List.replicate 8 0) (List.replicate 64 0) 0).toArray := by kernel_rfl
set_option maxRecDepth 100000 in
set_option maxHeartbeats 2000000 in
theorem hclone_any (hb : Nat) (S : List Nat) (P : List UInt8) (n : Int) (w : World) (h : HashAt w hb S P n) :
    Calls Tryz.prog 69 #[.pointer (some ⟨hb, 0, none⟩)] w fun e w' => e = .returned (.pointer (some ⟨w.heap.size, 0, none⟩)) ∧ HashAt w' w.heap.size S P n ∧ Below w.heap.size w w' := by
  obtain ⟨hz, hi⟩ := zero_of_info (P := Tryz.prog) hash_zero
  have hsz := hash_len S P n h.ls h.lp
  have HB := Lib.hid h.blk
  have HSI : Hid ((Tryz.prog.info? 80).map (·.size) = some (hashCells S P n).toArray.size) := Lib.hid (by rw [hsz]; exact hi)
  have HSZ : Hid ((#[.int .u32 0, .int .u32 0, .int .u32 0, .int .u32 0, .int .u32 0, .int .u32 0, .int .u32 0, .int .u32 0, .int .u8 0, .int .u8 0, .int .u8 0, .int .u8 0, .int .u8 0, .int .u8 0, .int .u8 0, .int .u8 0, .int .u8 0, .int .u8 0, .int .u8 0, .int .u8 0, .int .u8 0, .int .u8 0, .int .u8 0, .int .u8 0, .int .u8 0, .int .u8 0, .int .u8 0, .int .u8 0, .int .u8 0, .int .u8 0, .int .u8 0, .int .u8 0, .int .u8 0, .int .u8 0, .int .u8 0, .int .u8 0, .int .u8 0, .int .u8 0, .int .u8 0, .int .u8 0, .int .u8 0, .int .u8 0, .int .u8 0, .int .u8 0, .int .u8 0, .int .u8 0, .int .u8 0, .int .u8 0, .int .u8 0, .int .u8 0, .int .u8 0, .int .u8 0, .int .u8 0, .int .u8 0, .int .u8 0, .int .u8 0, .int .u8 0, .int .u8 0, .int .u8 0, .int .u8 0, .int .u8 0, .int .u8 0, .int .u8 0, .int .u8 0, .int .u8 0, .int .u8 0, .int .u8 0, .int .u8 0, .int .u8 0, .int .u8 0, .int .u8 0, .int .u8 0, .int .i64 0] : Array Value).size = (hashCells S P n).toArray.size) := Lib.hid (by rw [hsz]; rfl)
  have HO := Lib.hid (hash_one S P n)
  have HLS := Lib.hid h.ls
  have HLP := Lib.hid h.lp
  obtain ⟨cs, hcs⟩ : ∃ cs, cs = (hashCells S P n).toArray := ⟨_, rfl⟩
  rw [← hcs] at HB HSI HSZ HO
  have HCS := Lib.hid hcs
  clear h hi hsz hcs
  go_enter Tryz.func69, Tryz.ntmps69
  go_wp2_with (first | (refine wpList_load_row rfl 80 _ rfl hb rfl 80 _ (0, 0) _ HB.out Tryz.underlying80 rfl HSI.out ?_) | (refine wpList_store_row rfl 80 _ _ rfl w.heap.size _ rfl rfl 80 _ (heap_alloc_last w _) HSI.out HSZ.out HO.out ?_))
  rw [World.setRow_alloc_new]
  go_ret
  refine ⟨rfl, ⟨?_, HLS.out, HLP.out⟩, (Below.refl _ _).alloc (Nat.le_refl _) _⟩
  rw [← HCS.out]
  exact Blk.new w 80 cs


set_option maxRecDepth 100000 in
set_option maxHeartbeats 8000000 in
theorem hsum_any (hb : Nat) (s : V8) (P M : List UInt8) (w : World) (h : HashAt w hb s.l P (M.length : Int)) (hM : HashOf M s P) (hG : Globs w) (hl : M.length ≤ 288230376151711744) :
    Calls Tryz.prog 38 #[.pointer (some ⟨hb, 0, none⟩)] w fun e w' => e = .returned (.agg ((shaS M).map bv).toArray) ∧ Below w.heap.size w w' := by
  obtain ⟨R, hR⟩ : ∃ R, R = shaS M := ⟨_, rfl⟩
  rw [← hR]
  have HR := Lib.hid hR
  obtain ⟨db, hdb⟩ : ∃ db, db = w.heap.size := ⟨_, rfl⟩
  have x0 : Blk (w.alloc (.cells #[.int .u8 0, .int .u8 0, .int .u8 0, .int .u8 0, .int .u8 0, .int .u8 0, .int .u8 0, .int .u8 0, .int .u8 0, .int .u8 0, .int .u8 0, .int .u8 0, .int .u8 0, .int .u8 0, .int .u8 0, .int .u8 0, .int .u8 0, .int .u8 0, .int .u8 0, .int .u8 0, .int .u8 0, .int .u8 0, .int .u8 0, .int .u8 0, .int .u8 0, .int .u8 0, .int .u8 0, .int .u8 0, .int .u8 0, .int .u8 0, .int .u8 0, .int .u8 0] 37)) w.heap.size 37 (((List.replicate 32 (0 : UInt8)).map bv).toArray) := Blk.new w 37 #[.int .u8 0, .int .u8 0, .int .u8 0, .int .u8 0, .int .u8 0, .int .u8 0, .int .u8 0, .int .u8 0, .int .u8 0, .int .u8 0, .int .u8 0, .int .u8 0, .int .u8 0, .int .u8 0, .int .u8 0, .int .u8 0, .int .u8 0, .int .u8 0, .int .u8 0, .int .u8 0, .int .u8 0, .int .u8 0, .int .u8 0, .int .u8 0, .int .u8 0, .int .u8 0, .int .u8 0, .int .u8 0, .int .u8 0, .int .u8 0, .int .u8 0, .int .u8 0]
  have hw1 : Below w.heap.size w (w.alloc (.cells #[.int .u8 0, .int .u8 0, .int .u8 0, .int .u8 0, .int .u8 0, .int .u8 0, .int .u8 0, .int .u8 0, .int .u8 0, .int .u8 0, .int .u8 0, .int .u8 0, .int .u8 0, .int .u8 0, .int .u8 0, .int .u8 0, .int .u8 0, .int .u8 0, .int .u8 0, .int .u8 0, .int .u8 0, .int .u8 0, .int .u8 0, .int .u8 0, .int .u8 0, .int .u8 0, .int .u8 0, .int .u8 0, .int .u8 0, .int .u8 0, .int .u8 0, .int .u8 0] 37)) := (Below.refl _ _).alloc (Nat.le_refl _) _
  have HH := Lib.hid (h.below hw1)
  have HG1 := Lib.hid (hG.below hw1)
  have HM := Lib.hid hM
  have hgl := hG.lt
  rw [← hdb] at x0
  clear h hM hG hR
  go_enter Tryz.func38, Tryz.ntmps38
  go_upto_region 1 with (fail)
  rw [← hdb]
  generalize w.alloc (.cells #[.int .u8 0, .int .u8 0, .int .u8 0, .int .u8 0, .int .u8 0, .int .u8 0, .int .u8 0, .int .u8 0, .int .u8 0, .int .u8 0, .int .u8 0, .int .u8 0, .int .u8 0, .int .u8 0, .int .u8 0, .int .u8 0, .int .u8 0, .int .u8 0, .int .u8 0, .int .u8 0, .int .u8 0, .int .u8 0, .int .u8 0, .int .u8 0, .int .u8 0, .int .u8 0, .int .u8 0, .int .u8 0, .int .u8 0, .int .u8 0, .int .u8 0, .int .u8 0] 37) = w1 at *
  have hdl : db < w1.heap.size := x0.lt
  have hd2 : 2 ≤ db := by omega
  have hdw : w.heap.size ≤ db := by omega
  clear hdb
  go_wp2_with fail
  refine (hclone_any hb s.l P (M.length : Int) w1 HH.out).mono ?_
  rintro e w2 ⟨rfl, hc2, hb2⟩
  have hw2 := hw1.trans (hb2.mono hw1.size)
  obtain ⟨cb, hcb⟩ : ∃ cb, cb = w1.heap.size := ⟨_, rfl⟩
  rw [← hcb] at hc2 ⊢
  have hcd : db ≠ cb := by omega
  have hhc : hb ≠ cb := by have := HH.out.blk.lt; omega
  have hc2' : 2 ≤ cb := by omega
  have hcw : w.heap.size ≤ cb := by omega
  have HC2 := Lib.hid hc2
  have HH2 := Lib.hid (HH.out.below hb2)
  have HG2 := Lib.hid (HG1.out.below hb2)
  have x2 := x0.below hb2
  have hcbl := hc2.blk.lt
  have hs12 := hb2.size
  have hlong := HH2.out.long
  have hhl2 := HH2.out.blk.lt
  obtain ⟨m, hm⟩ : ∃ m, m = M.length := ⟨_, rfl⟩
  have HMM := Lib.hid hm
  rw [← hm] at hlong
  obtain ⟨z, hz⟩ : ∃ z, z = zerosN M.length := ⟨_, rfl⟩
  have HZ := Lib.hid hz
  have hzz : z = (119 - m % 64) % 64 := by rw [hz, hm]; rfl
  obtain ⟨q, hq⟩ : ∃ q, q = m % 64 := ⟨_, rfl⟩
  have e1 : (m : Int) % 64 = (q : Int) := by omega
  have e2 : IntKind.i64.wrap (119 - (q : Int)) = ((119 - q : Nat) : Int) := by rw [IntKind.wrap_i64]; omega
  obtain ⟨r, hr⟩ : ∃ r, r = 119 - q := ⟨_, rfl⟩
  rw [← hr] at e2
  have e3 : (r : Int) % 64 = (z : Int) := by omega
  have e4 : IntKind.i64.wrap (1 + (z : Int)) = ((z + 1 : Nat) : Int) := by rw [IntKind.wrap_i64]; omega
  obtain ⟨p, hp⟩ : ∃ p, p = z + 1 := ⟨_, rfl⟩
  rw [← hp] at e4
  have hz64 : z < 64 := by omega
  have hpp : p ≤ 64 := by omega
  have hp0 : 0 < p := by omega
  have HPZ := Lib.hid hp
  obtain ⟨m8, hm8⟩ : ∃ m8, m8 = 8 * m := ⟨_, rfl⟩
  have e5 : IntKind.i64.wrap (8 * (m : Int)) = (m8 : Int) := by rw [IntKind.wrap_i64]; omega
  have HM8 := Lib.hid hm8
  have hm8l : m8 < 9223372036854775808 := by omega
  clear hzz hr hq hp hz hm hm8 hcb x0 hc2 hb2 hw1
  go_upto_region 5 with (refine wpList_make_bytes rfl _ _ rfl (p : Int) (p : Int) p rfl rfl rfl rfl (by omega) (Nat.le_refl _) ?_; intro w3 ho3 hb3)
  have hw3 := hw2.trans (hb3.mono hw2.size)
  obtain ⟨pb, hpb⟩ : ∃ pb, pb = w2.heap.size := ⟨_, rfl⟩
  rw [← hpb] at ho3 ⊢
  obtain ⟨padL, hpad⟩ : ∃ padL, padL = (128 : UInt8) :: List.replicate z 0 := ⟨_, rfl⟩
  have hpl : padL.length = p := by rw [hpad, List.length_cons, List.length_replicate, HPZ.out]
  have hset : (List.replicate p (0 : UInt8)).set 0 128 = padL := by rw [hpad, HPZ.out]; rfl
  have ho3' : OwB w3 pb (.slice (some ⟨pb, 0, none⟩) (List.replicate p (0 : UInt8)).length p) (List.replicate p 0) := by rw [List.length_replicate]; exact ho3
  have hput := ho3'.put 0 128
  rw [hset, hpl] at hput
  obtain ⟨y, hcell⟩ : ∃ y : UInt8, w3.cell? ⟨pb, 0, none⟩ = some (.int .u8 (y.toNat : Int)) := ⟨_, ho3'.cellAt (by rw [List.length_replicate]; exact hp0)⟩
  have fz := ho3'.frozenAt 0
  have hcp : cb ≠ pb := by omega
  have hdp : db ≠ pb := by omega
  have hhp : hb ≠ pb := by omega
  have kf : Fr (fun x => x = pb) w3 (w3.setCell ⟨pb, 0, none⟩ (.int .u8 128)) := (Fr.refl (fun x => x = pb) w3).setAt pb 0 rfl _
  have HC4 := Lib.hid ((HC2.out.below hb3).fr kf hcp)
  have HH4 := Lib.hid ((HH2.out.below hb3).fr kf hhp)
  have hp2 : 2 ≤ pb := by omega
  have HG4 := Lib.hid ((HG2.out.below hb3).fr kf (by omega) (by omega))
  have x4 := (x2.below hb3).fr kf hdp
  have hw4 := hw3.trans (kf.below (B := w.heap.size) hw3.size (fun k hk e => by omega))
  have HP4 : Hid (OwB (w3.setCell ⟨pb, 0, none⟩ (.int .u8 128)) pb (.slice (some ⟨pb, 0, none⟩) p p) padL) := Lib.hid hput
  have HPAD := Lib.hid hpad
  have HPL := Lib.hid hpl
  clear hpad hpl hset ho3 ho3' hput kf hb3 hpb HC2 HH2 HG2 x2 hlong
  go_upto_region 6 with (fail)
  generalize w3.setCell ⟨pb, 0, none⟩ (.int .u8 128) = w4 at *
  clear hcell fz
  have HW := write_any cb s P M (some ⟨pb, 0, none⟩) p padL _ w4 HC4.out HM.out HG4.out ⟨by
    have := HP4.out
    rw [← HPL.out] at this
    exact this.rd, by show padL.length ≤ p; rw [HPL.out]; exact Nat.le_refl _, by show p ≤ maxLen; simp only [maxLen]; omega⟩ (fun x hx e => hcp (e.symm.trans (by simpa [ablk] using hx.symm))) hc2' (by rw [HPL.out]; omega)
  rw [HPL.out] at HW
  replace HW := Lib.hid HW
  go_wp2_with fail
  refine HW.out.mono ?_
  rintro e w5 ⟨rfl, ⟨s1, P1, hc5, hm5⟩, hf5⟩
  have hw5 := hw4.trans (hf5.below (B := w.heap.size) hw4.size (fun k hk e => by omega))
  have HH5 := HH4.out.fr hf5 hhc
  have HG5 := Lib.hid (HG4.out.fr hf5 (by omega) (by omega))
  have x5 := x4.fr hf5 hcd
  have hlong := HH5.long
  rw [← HMM.out] at hlong
  have hhl := HH5.blk.lt
  have HC5 := Lib.hid hc5
  have HM5 := Lib.hid hm5
  have hdl5 := x5.lt
  clear HW HC4 HG4 x4 hf5 hc5 hm5 HP4
  go_wp2_with fail
  refine (eight_any m8 hm8l w5).mono ?_
  rintro e w6 ⟨A6, l6, rfl, hl6, ho6, hb6⟩
  have hl6l : l6.length = 8 := by rw [hl6.out]; exact eightB_len _
  have hw6 := hw5.trans (hb6.mono hw5.size)
  have hc5l := HC5.out.blk.lt
  have HW := write_any cb s1 P1 (M ++ padL) A6 8 l6 _ w6 (by
    have := HC5.out.below hb6
    rw [List.length_append, HPL.out]
    exact this) HM5.out (HG5.out.below hb6) ⟨by
    have h1 : OwB w6 w5.heap.size (.slice A6 l6.length 8) l6 := by rw [hl6l]; exact ho6
    exact h1.rd, by show l6.length ≤ 8; omega, by show 8 ≤ maxLen; simp [maxLen]⟩ (fun x hx e => by
      have h1 : OwB w6 w5.heap.size (.slice A6 l6.length 8) l6 := by rw [hl6l]; exact ho6
      have := ((Row.of_own h1).lt x hx).1
      omega) hc2' (by rw [List.length_append, HPL.out, hl6l]; omega)
  rw [hl6l] at HW
  replace HW := Lib.hid HW
  have x6 := x5.below hb6
  have HG6 := Lib.hid (HG5.out.below hb6)
  have HL6 := Lib.hid (show M ++ padL ++ l6 = padS M by
    rw [hl6.out, HPAD.out, HM8.out, HMM.out, HZ.out]
    unfold padS
    simp)
  clear HC5 HM5 HG5 x5 hlong hb6 ho6 hl6l hl6
  go_wp2_with fail
  refine HW.out.mono ?_
  rintro e w7 ⟨rfl, ⟨s2, P2, hc7, hm7⟩, hf7⟩
  rw [HL6.out] at hm7
  have hw7 := hw6.trans (hf7.below (B := w.heap.size) hw6.size (fun k hk e => by omega))
  have x7 := x6.fr hf7 hcd
  have HG7 := Lib.hid (HG6.out.fr hf7 (by omega) (by omega))
  obtain ⟨X, hX⟩ : ∃ X, X = add8 s2 first8 := ⟨_, rfl⟩
  have HX := Lib.hid hX
  have hRX : R = digestS X := by rw [HR.out, hX, hm7.whole]
  have HRX := Lib.hid hRX
  have hix := fun (i : Nat) (hi : i < 8) (W : World) => index8 s2 i hi W
  have HIX := Lib.hid hix
  have c0 : w7.cell? ⟨cb, 0, none⟩ = some (.int .u32 (s2.a : Int)) := hc7.st (i := 0) (by omega)
  have c1 : w7.cell? ⟨cb, 1, none⟩ = some (.int .u32 (s2.b : Int)) := hc7.st (i := 1) (by omega)
  have c2 : w7.cell? ⟨cb, 2, none⟩ = some (.int .u32 (s2.c : Int)) := hc7.st (i := 2) (by omega)
  have c3 : w7.cell? ⟨cb, 3, none⟩ = some (.int .u32 (s2.d : Int)) := hc7.st (i := 3) (by omega)
  have c4 : w7.cell? ⟨cb, 4, none⟩ = some (.int .u32 (s2.e : Int)) := hc7.st (i := 4) (by omega)
  have c5 : w7.cell? ⟨cb, 5, none⟩ = some (.int .u32 (s2.f : Int)) := hc7.st (i := 5) (by omega)
  have c6 : w7.cell? ⟨cb, 6, none⟩ = some (.int .u32 (s2.g : Int)) := hc7.st (i := 6) (by omega)
  have c7 : w7.cell? ⟨cb, 7, none⟩ = some (.int .u32 (s2.h : Int)) := hc7.st (i := 7) (by omega)
  have hcl7 := hc7.blk.lt
  have hRl : R.length = 32 := by rw [hRX]; exact digest_len X
  have HRL := Lib.hid hRl
  clear HW HG6 x6 hf7 hX hRX hix hm7 hRl HL6
  go_wp2_with fail
  clear c0 c1 c2 c3 c4 c5 c6 c7 hc7
  go_loopw [39] (fun iv wr => ∃ (i : Nat) (D : List UInt8), i ≤ 8 ∧ iv = .int .i64 (i : Int) ∧ Blk wr db 37 (D.map bv).toArray ∧ D.length = 32 ∧ Hid (D.take (4 * i) = R.take (4 * i)) ∧ Fr (fun x => x = db) w7 wr) (fun iv _ => 8 - (intOf iv).toNat)
  case atStart => exact ⟨0, List.replicate 32 0, Nat.zero_le _, rfl, x7, rfl, Lib.hid rfl, Fr.refl _ _⟩
  case round =>
    obtain ⟨i, D, hi, rfl, hB, hD, hT, hf⟩ := hrel
    have HGr := Lib.hid (HG7.out.fr hf (by omega) (by omega))
    by_cases hlt : i < 8
    · have hlti : (i : Int) < 8 := by omega
      have hgl7 := HGr.out.lt
      have hg0 := HGr.out.f i hlt
      obtain ⟨p1, hp1⟩ : ∃ p, p = s2.l.getD i 0 := ⟨_, rfl⟩
      obtain ⟨p2, hp2⟩ : ∃ p, p = first8.l.getD i 0 := ⟨_, rfl⟩
      obtain ⟨p3, hp3⟩ : ∃ p, p = X.l.getD i 0 := ⟨_, rfl⟩
      have hadd : IntKind.u32.wrap ((p1 : Int) + (p2 : Int)) = (p3 : Int) := by rw [add_u32, hp1, hp2, hp3, HX.out, add8_get s2 first8 hlt]
      have hxi := fun W => HIX.out i hlt W
      rw [← hp1] at hxi
      rw [← hp2] at hg0
      unfold u32v at hxi
      have HP3 : Hid (p3 = X.l.getD i 0) := Lib.hid hp3
      obtain ⟨q4, hq4⟩ : ∃ q, q = 4 * i := ⟨_, rfl⟩
      have hw4 : IntKind.i64.wrap (4 * (i : Int)) = (q4 : Int) := by rw [IntKind.wrap_i64]; omega
      rw [← hq4] at hT
      have HQ4 := Lib.hid hq4
      have hq28 : q4 ≤ 28 := by omega
      have HB := Lib.hid hB
      have HDL := Lib.hid hD
      have HF := Lib.hid hf
      clear hp1 hp2 hp3 hq4 hB hD hf
      go_wp2_with fail
      rename World => wo
      clear hg0 hxi
      go_loopw [48] (fun kv wr => ∃ (k : Nat) (D : List UInt8), k ≤ 4 ∧ kv = .int .i64 (k : Int) ∧ Blk wr db 37 (D.map bv).toArray ∧ D.length = 32 ∧ Hid (D.take (q4 + k) = R.take (q4 + k)) ∧ Fr (fun x => x = db) w7 wr) (fun kv _ => 4 - (intOf kv).toNat)
      case atStart => exact ⟨0, D, Nat.zero_le _, rfl, HB.out, HDL.out, hT, HF.out⟩
      case round =>
        obtain ⟨k, D, hk, rfl, hB, hD, hT, hf⟩ := hrel
        by_cases hk4 : k < 4
        · have hk4i : (k : Int) < 4 := by omega
          obtain ⟨j, hj⟩ : ∃ j, j = q4 + k := ⟨_, rfl⟩
          have w1' : IntKind.i64.wrap ((q4 : Int) + (k : Int)) = (j : Int) := by rw [IntKind.wrap_i64]; omega
          obtain ⟨k8, hk8⟩ : ∃ x, x = 8 * k := ⟨_, rfl⟩
          have w2' : IntKind.i64.wrap (8 * (k : Int)) = (k8 : Int) := by rw [IntKind.wrap_i64]; omega
          obtain ⟨sh, hsh⟩ : ∃ x, x = 24 - k8 := ⟨_, rfl⟩
          have w3' : IntKind.i64.wrap (24 - (k8 : Int)) = (sh : Int) := by rw [IntKind.wrap_i64]; omega
          obtain ⟨v, hv⟩ : ∃ v, v = p3 / 2 ^ sh := ⟨_, rfl⟩
          have w4' : (p3 : Int) / 2 ^ min sh 32 = (v : Int) := by rw [show min sh 32 = sh by omega, hv]; simp
          have w4'' : (p3 : Int) / 2 ^ sh = (v : Int) := by rw [hv]; simp
          obtain ⟨x, hx⟩ : ∃ x, x = UInt8.ofNat v := ⟨_, rfl⟩
          have w5' : IntKind.u8.wrap (v : Int) = (x.toNat : Int) := by rw [u8_wrap, hx]
          have hs0 : ¬ (sh : Int) < 0 := by omega
          have hj32 : j < 32 := by omega
          have hj32i : (j : Int) < 32 := by omega
          have hxg : x = R.getD j 0 := by
            rw [HRX.out, hj, HQ4.out, digest_get X hlt hk4, ← HP3.out, hx, hv, hsh, hk8]
          have HTT : Hid ((D.set j x).take (q4 + (k + 1)) = R.take (q4 + (k + 1))) := Lib.hid (by
            rw [← hj] at hT
            rw [show q4 + (k + 1) = j + 1 by omega, hxg]
            exact take_stepB hT.out (by omega) (by rw [HRL.out]; exact hj32))
          have hcl : wr.cell? ⟨db, j, none⟩ = some (bv (D[j]'(by omega))) := by
            rw [hB.cell, List.getElem?_toArray, List.getElem?_map, List.getElem?_eq_getElem (by omega)]
            rfl
          obtain ⟨y, hcell⟩ : ∃ y : UInt8, wr.cell? ⟨db, j, none⟩ = some (.int .u8 (y.toNat : Int)) := ⟨_, hcl⟩
          have fz := hB.frozen j
          have hst := hB.set_ j (bv x)
          rw [List.setIfInBounds_toArray, ← List.map_set] at hst
          have HST : Hid (Blk (wr.setCell ⟨db, j, none⟩ (.int .u8 (x.toNat : Int))) db 37 ((D.set j x).map bv).toArray) := Lib.hid hst
          have HDS : Hid ((D.set j x).length = 32) := Lib.hid (by rw [List.length_set, hD])
          have hf2 := hf.trans ((Fr.refl (fun x => x = db) wr).setAt db j rfl (.int .u8 (x.toNat : Int))) (fun _ _ e => e)
          have hsb : sh < 32 := by omega
          clear hcl hj hk8 hsh hv hx hxg hst hB hD hT hf
          go_wp2_with fail
          go_roundw
          case rel => exact ⟨k + 1, D.set j x, hk4, by go_num, HST.out, HDS.out, HTT, hf2⟩
          case measure => simp [intOf]; omega
        · have hk4e : k = 4 := by omega
          have HT4 : Hid (D.take (4 * (i + 1)) = R.take (4 * (i + 1))) := Lib.hid (by
            have := hT.out
            rw [hk4e, HQ4.out] at this
            rw [show 4 * (i + 1) = 4 * i + 4 by omega]
            exact this)
          clear hT hk4e hk
          go_wp2_with fail
          go_roundw
          case rel => exact ⟨i + 1, D, hlt, by go_num, hB, hD, HT4, hf⟩
          case measure => simp [intOf]; omega
    · have h8 : i = 8 := by omega
      have hDR : D = R := by
        have := hT.out
        rw [h8, List.take_of_length_le (by omega), List.take_of_length_le (by rw [HRL.out]; exact Nat.le_refl _)] at this
        exact this
      subst hDR
      have hsz : (D.map bv).toArray.size = 32 := by simp [hD]
      have HSI : Hid ((Tryz.prog.info? 37).map (·.size) = some (D.map bv).toArray.size) := Lib.hid (by rw [hsz]; kernel_rfl)
      have HO : Hid (((D.map bv).toArray).all (·.oneCell') = true) := Lib.hid (by
        rw [List.all_toArray, List.all_eq_true]
        exact fun u hu => bv_one D u hu)
      have hwE := hw7.trans ((hf.setRow db rfl (D.map bv).toArray).below (B := w.heap.size) hw7.size (fun k hk e => by omega))
      clear hT h8 hsz hi
      go_wp2_with (first | (refine wpList_load_row rfl 37 _ rfl db rfl 37 _ (0, 0) _ hB Tryz.underlying37 rfl HSI.out ?_) | (refine wpList_store_row rfl 37 _ _ rfl db _ rfl rfl 37 _ hB HSI.out rfl HO.out ?_))
      refine bodyPost_ret (results_cell_row Tryz.results38 _ _ db 37 _ (0, 0) _ rfl (hB.setRow _) Tryz.underlying37 rfl HSI.out) rfl ?_
      exact ⟨rfl, hwE⟩

end Go.Proofs.YtjcfphdjgagimaaGreatDoor

/- sha.Sum: the digest of bytes. -/
namespace Go.Proofs.YtjcfphdjgagimaaGreatDoor
open Go.RowKit


set_option maxRecDepth 100000 in
set_option maxHeartbeats 4000000 in
theorem sumB_any (A : Option Addr) (c : Nat) (b : List UInt8) (Z : Nat → Prop) (w : World) (hy : BV.ok w Z ⟨A, c, b⟩) (hG : Globs w) (hl : b.length ≤ 288230376151711744) :
    Calls Tryz.prog 13 #[.slice A b.length c] w fun e w' => e = .returned (.agg ((shaS b).map bv).toArray) ∧ Below w.heap.size w w' := by
  obtain ⟨hz, hi⟩ := zero_of_info (P := Tryz.prog) hash_zero
  have x0 : Blk ((w.alloc (.cells #[.int .u8 0, .int .u8 0, .int .u8 0, .int .u8 0, .int .u8 0, .int .u8 0, .int .u8 0, .int .u8 0, .int .u8 0, .int .u8 0, .int .u8 0, .int .u8 0, .int .u8 0, .int .u8 0, .int .u8 0, .int .u8 0, .int .u8 0, .int .u8 0, .int .u8 0, .int .u8 0, .int .u8 0, .int .u8 0, .int .u8 0, .int .u8 0, .int .u8 0, .int .u8 0, .int .u8 0, .int .u8 0, .int .u8 0, .int .u8 0, .int .u8 0, .int .u8 0] 37)).alloc (.cells #[.int .u32 0, .int .u32 0, .int .u32 0, .int .u32 0, .int .u32 0, .int .u32 0, .int .u32 0, .int .u32 0, .int .u8 0, .int .u8 0, .int .u8 0, .int .u8 0, .int .u8 0, .int .u8 0, .int .u8 0, .int .u8 0, .int .u8 0, .int .u8 0, .int .u8 0, .int .u8 0, .int .u8 0, .int .u8 0, .int .u8 0, .int .u8 0, .int .u8 0, .int .u8 0, .int .u8 0, .int .u8 0, .int .u8 0, .int .u8 0, .int .u8 0, .int .u8 0, .int .u8 0, .int .u8 0, .int .u8 0, .int .u8 0, .int .u8 0, .int .u8 0, .int .u8 0, .int .u8 0, .int .u8 0, .int .u8 0, .int .u8 0, .int .u8 0, .int .u8 0, .int .u8 0, .int .u8 0, .int .u8 0, .int .u8 0, .int .u8 0, .int .u8 0, .int .u8 0, .int .u8 0, .int .u8 0, .int .u8 0, .int .u8 0, .int .u8 0, .int .u8 0, .int .u8 0, .int .u8 0, .int .u8 0, .int .u8 0, .int .u8 0, .int .u8 0, .int .u8 0, .int .u8 0, .int .u8 0, .int .u8 0, .int .u8 0, .int .u8 0, .int .u8 0, .int .u8 0, .int .i64 0] 80)) w.heap.size 37 (((List.replicate 32 (0 : UInt8)).map bv).toArray) := (Blk.new w 37 #[.int .u8 0, .int .u8 0, .int .u8 0, .int .u8 0, .int .u8 0, .int .u8 0, .int .u8 0, .int .u8 0, .int .u8 0, .int .u8 0, .int .u8 0, .int .u8 0, .int .u8 0, .int .u8 0, .int .u8 0, .int .u8 0, .int .u8 0, .int .u8 0, .int .u8 0, .int .u8 0, .int .u8 0, .int .u8 0, .int .u8 0, .int .u8 0, .int .u8 0, .int .u8 0, .int .u8 0, .int .u8 0, .int .u8 0, .int .u8 0, .int .u8 0, .int .u8 0]).below ((Below.refl _ _).alloc (Nat.le_refl _) _)
  have x1 : Blk ((w.alloc (.cells #[.int .u8 0, .int .u8 0, .int .u8 0, .int .u8 0, .int .u8 0, .int .u8 0, .int .u8 0, .int .u8 0, .int .u8 0, .int .u8 0, .int .u8 0, .int .u8 0, .int .u8 0, .int .u8 0, .int .u8 0, .int .u8 0, .int .u8 0, .int .u8 0, .int .u8 0, .int .u8 0, .int .u8 0, .int .u8 0, .int .u8 0, .int .u8 0, .int .u8 0, .int .u8 0, .int .u8 0, .int .u8 0, .int .u8 0, .int .u8 0, .int .u8 0, .int .u8 0] 37)).alloc (.cells #[.int .u32 0, .int .u32 0, .int .u32 0, .int .u32 0, .int .u32 0, .int .u32 0, .int .u32 0, .int .u32 0, .int .u8 0, .int .u8 0, .int .u8 0, .int .u8 0, .int .u8 0, .int .u8 0, .int .u8 0, .int .u8 0, .int .u8 0, .int .u8 0, .int .u8 0, .int .u8 0, .int .u8 0, .int .u8 0, .int .u8 0, .int .u8 0, .int .u8 0, .int .u8 0, .int .u8 0, .int .u8 0, .int .u8 0, .int .u8 0, .int .u8 0, .int .u8 0, .int .u8 0, .int .u8 0, .int .u8 0, .int .u8 0, .int .u8 0, .int .u8 0, .int .u8 0, .int .u8 0, .int .u8 0, .int .u8 0, .int .u8 0, .int .u8 0, .int .u8 0, .int .u8 0, .int .u8 0, .int .u8 0, .int .u8 0, .int .u8 0, .int .u8 0, .int .u8 0, .int .u8 0, .int .u8 0, .int .u8 0, .int .u8 0, .int .u8 0, .int .u8 0, .int .u8 0, .int .u8 0, .int .u8 0, .int .u8 0, .int .u8 0, .int .u8 0, .int .u8 0, .int .u8 0, .int .u8 0, .int .u8 0, .int .u8 0, .int .u8 0, .int .u8 0, .int .u8 0, .int .i64 0] 80)) (w.heap.size + 1) 80 (hashCells (List.replicate 8 0) (List.replicate 64 0) 0).toArray := by
    have := Blk.new (w.alloc (.cells #[.int .u8 0, .int .u8 0, .int .u8 0, .int .u8 0, .int .u8 0, .int .u8 0, .int .u8 0, .int .u8 0, .int .u8 0, .int .u8 0, .int .u8 0, .int .u8 0, .int .u8 0, .int .u8 0, .int .u8 0, .int .u8 0, .int .u8 0, .int .u8 0, .int .u8 0, .int .u8 0, .int .u8 0, .int .u8 0, .int .u8 0, .int .u8 0, .int .u8 0, .int .u8 0, .int .u8 0, .int .u8 0, .int .u8 0, .int .u8 0, .int .u8 0, .int .u8 0] 37)) 80 #[.int .u32 0, .int .u32 0, .int .u32 0, .int .u32 0, .int .u32 0, .int .u32 0, .int .u32 0, .int .u32 0, .int .u8 0, .int .u8 0, .int .u8 0, .int .u8 0, .int .u8 0, .int .u8 0, .int .u8 0, .int .u8 0, .int .u8 0, .int .u8 0, .int .u8 0, .int .u8 0, .int .u8 0, .int .u8 0, .int .u8 0, .int .u8 0, .int .u8 0, .int .u8 0, .int .u8 0, .int .u8 0, .int .u8 0, .int .u8 0, .int .u8 0, .int .u8 0, .int .u8 0, .int .u8 0, .int .u8 0, .int .u8 0, .int .u8 0, .int .u8 0, .int .u8 0, .int .u8 0, .int .u8 0, .int .u8 0, .int .u8 0, .int .u8 0, .int .u8 0, .int .u8 0, .int .u8 0, .int .u8 0, .int .u8 0, .int .u8 0, .int .u8 0, .int .u8 0, .int .u8 0, .int .u8 0, .int .u8 0, .int .u8 0, .int .u8 0, .int .u8 0, .int .u8 0, .int .u8 0, .int .u8 0, .int .u8 0, .int .u8 0, .int .u8 0, .int .u8 0, .int .u8 0, .int .u8 0, .int .u8 0, .int .u8 0, .int .u8 0, .int .u8 0, .int .u8 0, .int .i64 0]
    rw [zero_cells] at this ⊢
    rwa [show (w.alloc (.cells #[.int .u8 0, .int .u8 0, .int .u8 0, .int .u8 0, .int .u8 0, .int .u8 0, .int .u8 0, .int .u8 0, .int .u8 0, .int .u8 0, .int .u8 0, .int .u8 0, .int .u8 0, .int .u8 0, .int .u8 0, .int .u8 0, .int .u8 0, .int .u8 0, .int .u8 0, .int .u8 0, .int .u8 0, .int .u8 0, .int .u8 0, .int .u8 0, .int .u8 0, .int .u8 0, .int .u8 0, .int .u8 0, .int .u8 0, .int .u8 0, .int .u8 0, .int .u8 0] 37)).heap.size = w.heap.size + 1 by simp] at this
  have hw2 : Below w.heap.size w ((w.alloc (.cells #[.int .u8 0, .int .u8 0, .int .u8 0, .int .u8 0, .int .u8 0, .int .u8 0, .int .u8 0, .int .u8 0, .int .u8 0, .int .u8 0, .int .u8 0, .int .u8 0, .int .u8 0, .int .u8 0, .int .u8 0, .int .u8 0, .int .u8 0, .int .u8 0, .int .u8 0, .int .u8 0, .int .u8 0, .int .u8 0, .int .u8 0, .int .u8 0, .int .u8 0, .int .u8 0, .int .u8 0, .int .u8 0, .int .u8 0, .int .u8 0, .int .u8 0, .int .u8 0] 37)).alloc (.cells #[.int .u32 0, .int .u32 0, .int .u32 0, .int .u32 0, .int .u32 0, .int .u32 0, .int .u32 0, .int .u32 0, .int .u8 0, .int .u8 0, .int .u8 0, .int .u8 0, .int .u8 0, .int .u8 0, .int .u8 0, .int .u8 0, .int .u8 0, .int .u8 0, .int .u8 0, .int .u8 0, .int .u8 0, .int .u8 0, .int .u8 0, .int .u8 0, .int .u8 0, .int .u8 0, .int .u8 0, .int .u8 0, .int .u8 0, .int .u8 0, .int .u8 0, .int .u8 0, .int .u8 0, .int .u8 0, .int .u8 0, .int .u8 0, .int .u8 0, .int .u8 0, .int .u8 0, .int .u8 0, .int .u8 0, .int .u8 0, .int .u8 0, .int .u8 0, .int .u8 0, .int .u8 0, .int .u8 0, .int .u8 0, .int .u8 0, .int .u8 0, .int .u8 0, .int .u8 0, .int .u8 0, .int .u8 0, .int .u8 0, .int .u8 0, .int .u8 0, .int .u8 0, .int .u8 0, .int .u8 0, .int .u8 0, .int .u8 0, .int .u8 0, .int .u8 0, .int .u8 0, .int .u8 0, .int .u8 0, .int .u8 0, .int .u8 0, .int .u8 0, .int .u8 0, .int .u8 0, .int .i64 0] 80)) := ((Below.refl _ _).alloc (Nat.le_refl _) _).alloc (by simp) _
  have HH : Hid (HashAt ((w.alloc (.cells #[.int .u8 0, .int .u8 0, .int .u8 0, .int .u8 0, .int .u8 0, .int .u8 0, .int .u8 0, .int .u8 0, .int .u8 0, .int .u8 0, .int .u8 0, .int .u8 0, .int .u8 0, .int .u8 0, .int .u8 0, .int .u8 0, .int .u8 0, .int .u8 0, .int .u8 0, .int .u8 0, .int .u8 0, .int .u8 0, .int .u8 0, .int .u8 0, .int .u8 0, .int .u8 0, .int .u8 0, .int .u8 0, .int .u8 0, .int .u8 0, .int .u8 0, .int .u8 0] 37)).alloc (.cells #[.int .u32 0, .int .u32 0, .int .u32 0, .int .u32 0, .int .u32 0, .int .u32 0, .int .u32 0, .int .u32 0, .int .u8 0, .int .u8 0, .int .u8 0, .int .u8 0, .int .u8 0, .int .u8 0, .int .u8 0, .int .u8 0, .int .u8 0, .int .u8 0, .int .u8 0, .int .u8 0, .int .u8 0, .int .u8 0, .int .u8 0, .int .u8 0, .int .u8 0, .int .u8 0, .int .u8 0, .int .u8 0, .int .u8 0, .int .u8 0, .int .u8 0, .int .u8 0, .int .u8 0, .int .u8 0, .int .u8 0, .int .u8 0, .int .u8 0, .int .u8 0, .int .u8 0, .int .u8 0, .int .u8 0, .int .u8 0, .int .u8 0, .int .u8 0, .int .u8 0, .int .u8 0, .int .u8 0, .int .u8 0, .int .u8 0, .int .u8 0, .int .u8 0, .int .u8 0, .int .u8 0, .int .u8 0, .int .u8 0, .int .u8 0, .int .u8 0, .int .u8 0, .int .u8 0, .int .u8 0, .int .u8 0, .int .u8 0, .int .u8 0, .int .u8 0, .int .u8 0, .int .u8 0, .int .u8 0, .int .u8 0, .int .u8 0, .int .u8 0, .int .u8 0, .int .u8 0, .int .i64 0] 80)) (w.heap.size + 1) (⟨0, 0, 0, 0, 0, 0, 0, 0⟩ : V8).l (List.replicate 64 0) 0) := Lib.hid (HashAt.of_blk rfl (by simp) x1)
  have HY := Lib.hid ((hy.mono (Z' := fun x => x < w.heap.size) (fun x hx _ => hx)).below hw2)
  have HG := Lib.hid (hG.below hw2)
  have hgl := hG.lt
  have hxl := x1.lt
  clear hy hG hi x1
  obtain ⟨R, hR⟩ : ∃ R, R = shaS b := ⟨_, rfl⟩
  rw [← hR]
  have HR := Lib.hid hR
  clear hR
  go_enter Tryz.func13, Tryz.ntmps13
  go_upto_region 2 with (fail)
  generalize ((w.alloc (.cells #[.int .u8 0, .int .u8 0, .int .u8 0, .int .u8 0, .int .u8 0, .int .u8 0, .int .u8 0, .int .u8 0, .int .u8 0, .int .u8 0, .int .u8 0, .int .u8 0, .int .u8 0, .int .u8 0, .int .u8 0, .int .u8 0, .int .u8 0, .int .u8 0, .int .u8 0, .int .u8 0, .int .u8 0, .int .u8 0, .int .u8 0, .int .u8 0, .int .u8 0, .int .u8 0, .int .u8 0, .int .u8 0, .int .u8 0, .int .u8 0, .int .u8 0, .int .u8 0] 37)).alloc (.cells #[.int .u32 0, .int .u32 0, .int .u32 0, .int .u32 0, .int .u32 0, .int .u32 0, .int .u32 0, .int .u32 0, .int .u8 0, .int .u8 0, .int .u8 0, .int .u8 0, .int .u8 0, .int .u8 0, .int .u8 0, .int .u8 0, .int .u8 0, .int .u8 0, .int .u8 0, .int .u8 0, .int .u8 0, .int .u8 0, .int .u8 0, .int .u8 0, .int .u8 0, .int .u8 0, .int .u8 0, .int .u8 0, .int .u8 0, .int .u8 0, .int .u8 0, .int .u8 0, .int .u8 0, .int .u8 0, .int .u8 0, .int .u8 0, .int .u8 0, .int .u8 0, .int .u8 0, .int .u8 0, .int .u8 0, .int .u8 0, .int .u8 0, .int .u8 0, .int .u8 0, .int .u8 0, .int .u8 0, .int .u8 0, .int .u8 0, .int .u8 0, .int .u8 0, .int .u8 0, .int .u8 0, .int .u8 0, .int .u8 0, .int .u8 0, .int .u8 0, .int .u8 0, .int .u8 0, .int .u8 0, .int .u8 0, .int .u8 0, .int .u8 0, .int .u8 0, .int .u8 0, .int .u8 0, .int .u8 0, .int .u8 0, .int .u8 0, .int .u8 0, .int .u8 0, .int .u8 0, .int .i64 0] 80)) = w2 at *
  have HW := Lib.hid (write_any (w.heap.size + 1) ⟨0, 0, 0, 0, 0, 0, 0, 0⟩ (List.replicate 64 0) [] A c b _ w2 HH.out HashOf.new HG.out HY.out (fun x hx e => by omega) (by omega) (by simp; omega))
  clear hz
  go_wp2_with fail
  refine HW.out.mono ?_
  rintro e w3 ⟨rfl, ⟨s1, P1, hh, hm⟩, hf⟩
  rw [List.nil_append] at hm
  have hh2 : HashAt w3 (w.heap.size + 1) s1.l P1 (b.length : Int) := by
    have := hh
    rw [List.length_nil, Nat.zero_add] at this
    exact this
  have hw3 := hw2.trans (hf.below (B := w.heap.size) hw2.size (fun k hk e => by omega))
  have HS := hsum_any (w.heap.size + 1) s1 P1 b w3 hh2 hm (HG.out.fr hf (by omega) (by omega)) hl
  rw [← HR.out] at HS
  replace HS := Lib.hid HS
  have x3 := x0.fr hf (by omega)
  clear HW hh hh2 hm hf x0
  go_wp2_with fail
  refine HS.out.mono ?_
  rintro e w4 ⟨rfl, hb4⟩
  have x4 := x3.below hb4
  have hRl : R.length = 32 := by rw [HR.out]; exact sha_len b
  have hsz : (R.map bv).toArray.size = 32 := by simp [hRl]
  have HSI : Hid ((Tryz.prog.info? 37).map (·.size) = some (R.map bv).toArray.size) := Lib.hid (by rw [hsz]; kernel_rfl)
  have HSZ : Hid ((((List.replicate 32 (0 : UInt8)).map bv).toArray).size = (R.map bv).toArray.size) := Lib.hid (by rw [hsz]; rfl)
  have HO : Hid (((R.map bv).toArray).all (·.oneCell') = true) := Lib.hid (by
    rw [List.all_toArray, List.all_eq_true]
    exact fun u hu => bv_one R u hu)
  have hw4 := hw3.trans (hb4.mono hw3.size)
  have hwE := hw4.trans (((Fr.refl (fun x => x = w.heap.size) w4).setRow w.heap.size rfl (R.map bv).toArray).below (B := w.heap.size) hw4.size (fun k hk e => by omega))
  clear HS x3 hb4 hsz hRl
  go_wp2_with (refine wpList_store_row rfl 37 _ _ rfl w.heap.size _ rfl rfl 37 _ x4 HSI.out HSZ.out HO.out ?_)
  refine bodyPost_ret (results_cell_row Tryz.results13 _ _ w.heap.size 37 _ (0, 0) _ rfl (x4.setRow _) Tryz.underlying37 rfl HSI.out) rfl ?_
  exact ⟨rfl, hwE⟩

end Go.Proofs.YtjcfphdjgagimaaGreatDoor
