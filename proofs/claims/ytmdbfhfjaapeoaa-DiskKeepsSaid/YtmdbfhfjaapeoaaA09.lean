/- tenderlaw11.same. -/
import Derived.Test.YtmdbfhfjaapeoaaA08

namespace Go.Proofs.Ytmdbfhfjaapeoaa
open Go.RowKit Go.Maps

theorem plain_at {L L2 : List (Int × FV)} (h : plainD L2 = plainD L) {i : Nat} (hi : i < L.length) : ∃ hi2 : i < L2.length, L2[i].1 = L[i].1 ∧ L2[i].2.x.l = L[i].2.x.l ∧ L2[i].2.s = L[i].2.s := by
  have hl : L2.length = L.length := by have := congrArg List.length h; rwa [plainD_len, plainD_len] at this
  refine ⟨by omega, ?_⟩
  have e : (plainD L2)[i]'(by rw [plainD_len]; omega) = (plainD L)[i]'(by rw [plainD_len]; exact hi) := by simp only [h]
  simp only [plainD, List.getElem_map, FV.p, Prod.mk.injEq] at e
  exact e

set_option maxRecDepth 100000 in
set_option maxHeartbeats 4000000 in
theorem same11_any (tb mb : Nat) (L : List (Int × FV)) (D : DP) (k : Nat) (v : Value) (w : World) (h : DiskAt w tb mb L D) (hv : RefAt w v D) (hok : DOk D k) (hk : k ≤ 1000000) :
    Calls Try.prog 18 #[.pointer (some ⟨tb, 0, none⟩), v] w fun e w' => e = .returned (.bool true) ∧ Below w.heap.size w w' := by
  obtain ⟨A2, c2, L2, rfl, hF, _, hp⟩ := hv.at_
  have hw1 : Below w.heap.size w (w.alloc (.cells #[.slice A2 L2.length c2, .int .i64 D.last, .int .i64 D.room, .int .i64 D.left] 38)) := (Below.refl _ _).alloc (Nat.le_refl _) _
  have x0 : Blk (w.alloc (.cells #[.slice A2 L2.length c2, .int .i64 D.last, .int .i64 D.room, .int .i64 D.left] 38)) w.heap.size 38 #[.slice A2 L2.length c2, .int .i64 D.last, .int .i64 D.room, .int .i64 D.left] := Blk.new w 38 #[.slice A2 L2.length c2, .int .i64 D.last, .int .i64 D.room, .int .i64 D.left]
  have hlen : L.length ≤ 1000000 := by have := hok.len; rw [← h.plain.out, plainD_len] at this; omega
  have HPP : Hid (plainD L2 = plainD L) := Lib.hid (hp.out.trans h.plain.out.symm)
  have hl2 : L2.length = L.length := by have := congrArg List.length HPP.out; rwa [plainD_len, plainD_len] at this
  have HD := Lib.hid h
  have HF := Lib.hid hF
  have HO := Lib.hid hok
  have hsort : SortZ L := by
    have := hok.sort
    rw [← h.plain.out] at this
    exact sortZ_plain this
  have hwf : ∀ x ∈ L, (Lit.int .i64 x.1).wf = true := fun x hx => h.map.wf (x.1, x.2.v) (List.mem_map.2 ⟨x, hx, rfl⟩)
  have HSR := Lib.hid hsort
  have HWF := Lib.hid hwf
  have HFI := Lib.hid (files_any tb mb L D _ (h.below hw1) hlen)
  have HPD := Lib.hid hp.out
  obtain ⟨U, hU⟩ : ∃ U : Nat, U = usedS D.L := ⟨_, rfl⟩
  have hU2 := hok.room
  have HUX := Lib.hid (fun (W : World) (hW : Below w.heap.size w W) => show Calls Try.prog 22 #[.pointer (some ⟨tb, 0, none⟩)] W fun e w' => e = .returned (.int .i64 (U : Int)) ∧ Below W.heap.size W w' from hU ▸ used_any tb mb L D k W (HD.out.below hW) HO.out hk)
  have HUY := Lib.hid (fun (W : World) (hW : Below w.heap.size w W) => show Calls Try.prog 41 #[refV A2 L.length c2 D.last D.room D.left] W fun e w' => e = .returned (.int .i64 (U : Int)) ∧ Below W.heap.size W w' from by
    have := refUsed_any A2 c2 L2 D.last D.room D.left W (HF.out.below hW) (by rw [HPD.out]; omega)
    rwa [HPD.out, ← hU, hl2] at this)
  rw [hl2] at x0 hw1 HFI ⊢
  clear h hF hok hp hv hsort hwf hU2 hU
  go_enter Try.func18, Try.ntmps18
  go_upto_region 1 with (fail)
  generalize (w.alloc (.cells #[.slice A2 L.length c2, .int .i64 D.last, .int .i64 D.room, .int .i64 D.left] 38)) = w1 at *
  go_wp2_with fail
  refine HFI.out.mono ?_
  rintro e w2 ⟨A, c, rfl, hr, hb2⟩
  have hw2 := hw1.trans (hb2.mono hw1.size)
  have y1 := x0.below hb2
  have HR := Lib.hid hr
  have HUD := Lib.hid (fun (W : World) (hC : Below w2.heap.size w2 W) => HUX.out W (hw2.trans (hC.mono hw2.size)))
  have HUR := Lib.hid (fun (W : World) (hC : Below w2.heap.size w2 W) => HUY.out W (hw2.trans (hC.mono hw2.size)))
  have HRO := Lib.hid (fun (W : World) (hC : Below w2.heap.size w2 W) => (room_any tb mb L D W (HD.out.below (hw2.trans (hC.mono hw2.size)))).mono (R' := fun e w' => e = .returned (.int .i64 D.room) ∧ Below W.heap.size W w') (by rintro e w' ⟨rfl, rfl⟩; exact ⟨rfl, Below.refl _ _⟩))
  have HOF := Lib.hid (fun (W : World) (hC : Below w2.heap.size w2 W) => (off_any tb mb L D W (HD.out.below (hw2.trans (hC.mono hw2.size)))).mono (R' := fun e w' => e = .returned (.bool (D.left == 0)) ∧ Below W.heap.size W w') (by rintro e w' ⟨rfl, rfl⟩; exact ⟨rfl, Below.refl _ _⟩))
  clear hr HUX HUY HFI x0 hb2 hl2
  go_wp2_with fail
  refine wp_region_b 28 (by kernel_rfl) (by kernel_rfl) ?_
  simp only [List.take_succ_cons, List.take_zero, List.drop_succ_cons, List.drop_zero]
  refine lb_move _ (by kernel_rfl) rfl ⟨_, (by ((try simp [go_sem]); (try rfl); done)), _, (by (simp only [Act.put, List.setIfInBounds_toArray, List.set_cons_zero, List.set_cons_succ]; rfl)), ?_⟩
  refine lb_val (by kernel_rfl) ⟨_, (by (intro w' hC; clear hC; (try go_simp); (try with_reducible rfl); done)), _, (by (simp only [Act.put, List.setIfInBounds_toArray, List.set_cons_zero, List.set_cons_succ]; rfl)), ?_⟩
  refine lb_val (by kernel_rfl) ⟨_, (by (intro w' hC; clear hC; (try go_simp); (try with_reducible rfl); done)), _, (by (simp only [Act.put, List.setIfInBounds_toArray, List.set_cons_zero, List.set_cons_succ]; rfl)), ?_⟩
  refine lb_val (by kernel_rfl) ⟨_, (by (intro w' hC; (have q := (y1.below hC).cell 0; simp only [List.getElem?_toArray, List.getElem?_cons_zero] at q); clear hC; (try go_simp); (try with_reducible rfl); done)), _, (by (simp only [Act.put, List.setIfInBounds_toArray, List.set_cons_zero, List.set_cons_succ]; rfl)), ?_⟩
  refine lb_val (by kernel_rfl) ⟨_, (by (intro w' hC; clear hC; (try go_simp); (try with_reducible rfl); done)), _, (by (simp only [Act.put, List.setIfInBounds_toArray, List.set_cons_zero, List.set_cons_succ]; rfl)), ?_⟩
  refine lb_val (by kernel_rfl) ⟨_, (by (intro w' hC; clear hC; (try go_simp); (try with_reducible rfl); done)), _, (by (simp only [Act.put, List.setIfInBounds_toArray, List.set_cons_zero, List.set_cons_succ]; rfl)), ?_⟩
  refine lb_move _ (by kernel_rfl) rfl ⟨_, (by ((try simp [go_sem]); (try rfl); done)), _, (by (simp only [Act.put, List.setIfInBounds_toArray, List.set_cons_zero, List.set_cons_succ]; rfl)), ?_⟩
  first | (refine lb_skip (by rfl) ⟨_, (by (simp only [Act.put, List.setIfInBounds_toArray, List.set_cons_zero, List.set_cons_succ]; rfl)), ?_⟩) | (refine lb_move _ (by kernel_rfl) rfl ⟨_, (by ((try simp [go_sem]); (try rfl); done)), _, (by (simp only [Act.put, List.setIfInBounds_toArray, List.set_cons_zero, List.set_cons_succ]; rfl)), ?_⟩)
  first | (refine lb_skip (by rfl) ⟨_, (by (simp only [Act.put, List.setIfInBounds_toArray, List.set_cons_zero, List.set_cons_succ]; rfl)), ?_⟩) | (refine lb_call (by kernel_rfl) (fun w' hC => HUD.out w' hC) (by (intro w'; go_simp; done)) ⟨_, (by (simp only [Act.put, List.setIfInBounds_toArray, List.set_cons_zero, List.set_cons_succ]; rfl)), ?_⟩)
  first | (refine lb_skip (by rfl) ⟨_, (by (simp only [Act.put, List.setIfInBounds_toArray, List.set_cons_zero, List.set_cons_succ]; rfl)), ?_⟩) | (refine lb_val (by kernel_rfl) ⟨_, (by (intro w' hC; (have q0 := (y1.below hC).cell 0; have q1 := (y1.below hC).cell 1; have q2 := (y1.below hC).cell 2; have q3 := (y1.below hC).cell 3; simp only [List.getElem?_toArray, List.getElem?_cons_zero, List.getElem?_cons_succ] at q0 q1 q2 q3); clear hC; (try go_simp); (try with_reducible rfl); done)), _, (by (simp only [Act.put, List.setIfInBounds_toArray, List.set_cons_zero, List.set_cons_succ]; rfl)), ?_⟩)
  first | (refine lb_skip (by rfl) ⟨_, (by (simp only [Act.put, List.setIfInBounds_toArray, List.set_cons_zero, List.set_cons_succ]; rfl)), ?_⟩) | (refine lb_call (by kernel_rfl) (fun w' hC => HUR.out w' hC) (by (intro w'; go_simp; done)) ⟨_, (by (simp only [Act.put, List.setIfInBounds_toArray, List.set_cons_zero, List.set_cons_succ]; rfl)), ?_⟩)
  first | (refine lb_skip (by rfl) ⟨_, (by (simp only [Act.put, List.setIfInBounds_toArray, List.set_cons_zero, List.set_cons_succ]; rfl)), ?_⟩) | (refine lb_val (by kernel_rfl) ⟨_, (by (intro w' hC; clear hC; (try go_simp); (try with_reducible rfl); done)), _, (by (simp only [Act.put, List.setIfInBounds_toArray, List.set_cons_zero, List.set_cons_succ]; rfl)), ?_⟩)
  refine lb_val (by kernel_rfl) ⟨_, (by (intro w' hC; clear hC; (try go_simp); (try with_reducible rfl); done)), _, (by (simp only [Act.put, List.setIfInBounds_toArray, List.set_cons_zero, List.set_cons_succ]; rfl)), ?_⟩
  refine lb_move _ (by kernel_rfl) rfl ⟨_, (by ((try simp [go_sem]); (try rfl); done)), _, (by (simp only [Act.put, List.setIfInBounds_toArray, List.set_cons_zero, List.set_cons_succ]; rfl)), ?_⟩
  first | (refine lb_skip (by rfl) ⟨_, (by (simp only [Act.put, List.setIfInBounds_toArray, List.set_cons_zero, List.set_cons_succ]; rfl)), ?_⟩) | (refine lb_move _ (by kernel_rfl) rfl ⟨_, (by ((try simp [go_sem]); (try rfl); done)), _, (by (simp only [Act.put, List.setIfInBounds_toArray, List.set_cons_zero, List.set_cons_succ]; rfl)), ?_⟩)
  first | (refine lb_skip (by rfl) ⟨_, (by (simp only [Act.put, List.setIfInBounds_toArray, List.set_cons_zero, List.set_cons_succ]; rfl)), ?_⟩) | (refine lb_call (by kernel_rfl) (fun w' hC => HRO.out w' hC) (by (intro w'; go_simp; done)) ⟨_, (by (simp only [Act.put, List.setIfInBounds_toArray, List.set_cons_zero, List.set_cons_succ]; rfl)), ?_⟩)
  first | (refine lb_skip (by rfl) ⟨_, (by (simp only [Act.put, List.setIfInBounds_toArray, List.set_cons_zero, List.set_cons_succ]; rfl)), ?_⟩) | (refine lb_val (by kernel_rfl) ⟨_, (by (intro w' hC; clear hC; (try go_simp); (try with_reducible rfl); done)), _, (by (simp only [Act.put, List.setIfInBounds_toArray, List.set_cons_zero, List.set_cons_succ]; rfl)), ?_⟩)
  first | (refine lb_skip (by rfl) ⟨_, (by (simp only [Act.put, List.setIfInBounds_toArray, List.set_cons_zero, List.set_cons_succ]; rfl)), ?_⟩) | (refine lb_val (by kernel_rfl) ⟨_, (by (intro w' hC; (have q := (y1.below hC).cell 2; simp only [List.getElem?_toArray, List.getElem?_cons_zero, List.getElem?_cons_succ] at q); clear hC; (try go_simp); (try with_reducible rfl); done)), _, (by (simp only [Act.put, List.setIfInBounds_toArray, List.set_cons_zero, List.set_cons_succ]; rfl)), ?_⟩)
  first | (refine lb_skip (by rfl) ⟨_, (by (simp only [Act.put, List.setIfInBounds_toArray, List.set_cons_zero, List.set_cons_succ]; rfl)), ?_⟩) | (refine lb_val (by kernel_rfl) ⟨_, (by (intro w' hC; clear hC; (try go_simp); (try with_reducible rfl); done)), _, (by (simp only [Act.put, List.setIfInBounds_toArray, List.set_cons_zero, List.set_cons_succ]; rfl)), ?_⟩)
  refine lb_val (by kernel_rfl) ⟨_, (by (intro w' hC; clear hC; (try go_simp); (try with_reducible rfl); done)), _, (by (simp only [Act.put, List.setIfInBounds_toArray, List.set_cons_zero, List.set_cons_succ]; rfl)), ?_⟩
  refine lb_move _ (by kernel_rfl) rfl ⟨_, (by ((try simp [go_sem]); (try rfl); done)), _, (by (simp only [Act.put, List.setIfInBounds_toArray, List.set_cons_zero, List.set_cons_succ]; rfl)), ?_⟩
  first | (refine lb_skip (by rfl) ⟨_, (by (simp only [Act.put, List.setIfInBounds_toArray, List.set_cons_zero, List.set_cons_succ]; rfl)), ?_⟩) | (refine lb_move _ (by kernel_rfl) rfl ⟨_, (by ((try simp [go_sem]); (try rfl); done)), _, (by (simp only [Act.put, List.setIfInBounds_toArray, List.set_cons_zero, List.set_cons_succ]; rfl)), ?_⟩)
  first | (refine lb_skip (by rfl) ⟨_, (by (simp only [Act.put, List.setIfInBounds_toArray, List.set_cons_zero, List.set_cons_succ]; rfl)), ?_⟩) | (refine lb_call (by kernel_rfl) (fun w' hC => HOF.out w' hC) (by (intro w'; go_simp; done)) ⟨_, (by (simp only [Act.put, List.setIfInBounds_toArray, List.set_cons_zero, List.set_cons_succ]; rfl)), ?_⟩)
  first | (refine lb_skip (by rfl) ⟨_, (by (simp only [Act.put, List.setIfInBounds_toArray, List.set_cons_zero, List.set_cons_succ]; rfl)), ?_⟩) | (refine lb_val (by kernel_rfl) ⟨_, (by (intro w' hC; clear hC; (try go_simp); (try with_reducible rfl); done)), _, (by (simp only [Act.put, List.setIfInBounds_toArray, List.set_cons_zero, List.set_cons_succ]; rfl)), ?_⟩)
  first | (refine lb_skip (by rfl) ⟨_, (by (simp only [Act.put, List.setIfInBounds_toArray, List.set_cons_zero, List.set_cons_succ]; rfl)), ?_⟩) | (refine lb_val (by kernel_rfl) ⟨_, (by (intro w' hC; (have q := (y1.below hC).cell 3; simp only [List.getElem?_toArray, List.getElem?_cons_zero, List.getElem?_cons_succ] at q); clear hC; (try go_simp); (try with_reducible rfl); done)), _, (by (simp only [Act.put, List.setIfInBounds_toArray, List.set_cons_zero, List.set_cons_succ]; rfl)), ?_⟩)
  first | (refine lb_skip (by rfl) ⟨_, (by (simp only [Act.put, List.setIfInBounds_toArray, List.set_cons_zero, List.set_cons_succ]; rfl)), ?_⟩) | (refine lb_val (by kernel_rfl) ⟨_, (by (intro w' hC; clear hC; (try go_simp); (try with_reducible rfl); done)), _, (by (simp only [Act.put, List.setIfInBounds_toArray, List.set_cons_zero, List.set_cons_succ]; rfl)), ?_⟩)
  first | (refine lb_skip (by rfl) ⟨_, (by (simp only [Act.put, List.setIfInBounds_toArray, List.set_cons_zero, List.set_cons_succ]; rfl)), ?_⟩) | (refine lb_val (by kernel_rfl) ⟨_, (by (intro w' hC; clear hC; (try go_simp); (try with_reducible rfl); done)), _, (by (simp only [Act.put, List.setIfInBounds_toArray, List.set_cons_zero, List.set_cons_succ]; rfl)), ?_⟩)
  refine lb_val (by kernel_rfl) ⟨_, (by (intro w' hC; clear hC; (try go_simp); (try with_reducible rfl); done)), _, (by (simp only [Act.put, List.setIfInBounds_toArray, List.set_cons_zero, List.set_cons_succ]; rfl)), ?_⟩
  refine .nil ?_
  intro w3 hb3
  have hw3 := hw2.trans (hb3.mono hw2.size)
  have z1 := y1.below hb3
  have HR3 := Lib.hid (own_below HR.out hb3)
  clear HUD HUR HRO HOF HR y1 hb3
  generalize (D.left == 0) = bl
  go_wp2_with fail
  go_loopw [42] (fun iv wr => ∃ i : Nat, i ≤ L.length ∧ iv = .int .i64 (i : Int) ∧ Below w3.heap.size w3 wr) (fun iv _ => L.length - (intOf iv).toNat)
  case atStart => exact ⟨0, Nat.zero_le _, rfl, Below.refl _ _⟩
  case round =>
    obtain ⟨i, hi, rfl, hcr⟩ := hrel
    have hwr := hw3.trans (hcr.mono hw3.size)
    by_cases hlt : i < L.length
    · have hkl : (keysZ L).length = L.length := keysZ_len L
      have hr := own_below HR3.out hcr
      rw [← hkl] at hr
      obtain ⟨b, off, hA, hbb, c0⟩ := int_at hr (i := i) (by rw [hkl]; exact hlt)
      have hki : (keysZ L)[i]'(by rw [hkl]; exact hlt) = L[i].1 := by simp [keysZ]
      rw [hki] at c0
      obtain ⟨hi2, p0, p1, p2⟩ := plain_at HPP.out hlt
      obtain ⟨b2, off2, hA2, hb2, e0, e1, e2⟩ := (HF.out.below hwr).at_ hi2
      have hxf := (HF.out.ok _ (List.getElem_mem hi2)).1
      have hg := HSR.out.get (List.getElem_mem hlt)
      have hnw := HWF.out _ (List.getElem_mem hlt)
      obtain ⟨n, f, hLi⟩ : ∃ n f, L[i] = (n, f) := ⟨_, _, rfl⟩
      obtain ⟨n2, f2, hL2i⟩ : ∃ n2 f2, L2[i] = (n2, f2) := ⟨_, _, rfl⟩
      rw [hLi] at p0 p1 p2 c0 hg hnw
      rw [hL2i] at p0 p1 p2 e0 e1 e2 hxf
      obtain ⟨⟨xA, xc, xl⟩, xs⟩ := f2
      dsimp only at p0 p1 p2 e0 e1 e2 hxf c0 hg hnw
      subst p0
      subst p2
      have hfs : fileS D n2 = f.p := by
        unfold fileS
        rw [← HD.out.plain.out, get_plainD, hg]
        rfl
      have hfn : fileS D n2 = (xl, f.s) := by rw [hfs, p1]; rfl
      have hrd : D.left ≠ 0 → readS D n2 = (xl, 0) := fun hl => by
        have ha : askS D n2 = 0 := by
          unfold askS
          rw [if_neg hl, ← HD.out.plain.out, get_plainD, hg]
          simp
        unfold readS
        rw [if_neg (by simpa using ha), hfn]
      have HRD := Lib.hid hrd
      have HSU := Lib.hid (fun (W : World) (hC : Below wr.heap.size wr W) => (sure_any tb mb L D n2 W (HD.out.below (hwr.trans (hC.mono hwr.size))) hnw).mono (R' := fun e w' => e = .returned (.int .i64 f.s) ∧ Below W.heap.size W w') (by rintro e w' ⟨rfl, rfl⟩; exact ⟨by rw [hfn], Below.refl _ _⟩))
      have HXF := Lib.hid hxf
      have y3 := z1.below hcr
      subst hA
      subst hA2
      clear hr hki hg hLi hL2i hfs hfn hrd hxf p1 z1 hkl
      go_wp2_with fail
      refine wp_region_b 20 (by kernel_rfl) (by kernel_rfl) ?_
      simp only [List.take_succ_cons, List.take_zero, List.drop_succ_cons, List.drop_zero]
      refine lb_move _ (by kernel_rfl) rfl ⟨_, (by ((try simp [go_sem]); (try rfl); done)), _, (by (simp only [Act.put, List.setIfInBounds_toArray, List.set_cons_zero, List.set_cons_succ]; rfl)), ?_⟩
      refine lb_val (by kernel_rfl) ⟨_, (by (intro w' hC; clear hC; (try go_simp); (try with_reducible rfl); done)), _, (by (simp only [Act.put, List.setIfInBounds_toArray, List.set_cons_zero, List.set_cons_succ]; rfl)), ?_⟩
      refine lb_val (by kernel_rfl) ⟨_, (by (intro w' hC; (have q := (y3.below hC).cell 0; simp only [List.getElem?_toArray, List.getElem?_cons_zero] at q); clear hC; (try go_simp); (try with_reducible rfl); done)), _, (by (simp only [Act.put, List.setIfInBounds_toArray, List.set_cons_zero, List.set_cons_succ]; rfl)), ?_⟩
      refine lb_move _ (by kernel_rfl) rfl ⟨_, (by ((try simp [go_sem]); (try rfl); done)), _, (by (simp only [Act.put, List.setIfInBounds_toArray, List.set_cons_zero, List.set_cons_succ]; rfl)), ?_⟩
      refine lb_val (by kernel_rfl) ⟨_, (by (intro w' hC; clear hC; (try go_simp); (try with_reducible rfl); done)), _, (by (simp only [Act.put, List.setIfInBounds_toArray, List.set_cons_zero, List.set_cons_succ]; rfl)), ?_⟩
      refine lb_val (by kernel_rfl) ⟨_, (by (intro w' hC; clear hC; (try go_simp); (try with_reducible rfl); done)), _, (by (simp only [Act.put, List.setIfInBounds_toArray, List.set_cons_zero, List.set_cons_succ]; rfl)), ?_⟩
      refine lb_val (by kernel_rfl) ⟨_, (by (intro w' hC; (have r0 := cellAt hC hb2 e0); clear hC; (try go_simp); (try with_reducible rfl); done)), _, (by (simp only [Act.put, List.setIfInBounds_toArray, List.set_cons_zero, List.set_cons_succ]; rfl)), ?_⟩
      refine lb_val (by kernel_rfl) ⟨_, (by (intro w' hC; clear hC; (try go_simp); (try with_reducible rfl); done)), _, (by (simp only [Act.put, List.setIfInBounds_toArray, List.set_cons_zero, List.set_cons_succ]; rfl)), ?_⟩
      refine lb_move _ (by kernel_rfl) rfl ⟨_, (by ((try simp [go_sem]); (try rfl); done)), _, (by (simp only [Act.put, List.setIfInBounds_toArray, List.set_cons_zero, List.set_cons_succ]; rfl)), ?_⟩
      first | (refine lb_skip (by rfl) ⟨_, (by (simp only [Act.put, List.setIfInBounds_toArray, List.set_cons_zero, List.set_cons_succ]; rfl)), ?_⟩) | (refine lb_move _ (by kernel_rfl) rfl ⟨_, (by ((try simp [go_sem]); (try rfl); done)), _, (by (simp only [Act.put, List.setIfInBounds_toArray, List.set_cons_zero, List.set_cons_succ]; rfl)), ?_⟩)
      first | (refine lb_skip (by rfl) ⟨_, (by (simp only [Act.put, List.setIfInBounds_toArray, List.set_cons_zero, List.set_cons_succ]; rfl)), ?_⟩) | (refine lb_move _ (by kernel_rfl) rfl ⟨_, (by ((try simp [go_sem]); (try rfl); done)), _, (by (simp only [Act.put, List.setIfInBounds_toArray, List.set_cons_zero, List.set_cons_succ]; rfl)), ?_⟩)
      first | (refine lb_skip (by rfl) ⟨_, (by (simp only [Act.put, List.setIfInBounds_toArray, List.set_cons_zero, List.set_cons_succ]; rfl)), ?_⟩) | (refine lb_call (by kernel_rfl) (fun w' hC => HSU.out w' hC) (by (intro w'; go_simp; done)) ⟨_, (by (simp only [Act.put, List.setIfInBounds_toArray, List.set_cons_zero, List.set_cons_succ]; rfl)), ?_⟩)
      first | (refine lb_skip (by rfl) ⟨_, (by (simp only [Act.put, List.setIfInBounds_toArray, List.set_cons_zero, List.set_cons_succ]; rfl)), ?_⟩) | (refine lb_val (by kernel_rfl) ⟨_, (by (intro w' hC; clear hC; (try go_simp); (try with_reducible rfl); done)), _, (by (simp only [Act.put, List.setIfInBounds_toArray, List.set_cons_zero, List.set_cons_succ]; rfl)), ?_⟩)
      first | (refine lb_skip (by rfl) ⟨_, (by (simp only [Act.put, List.setIfInBounds_toArray, List.set_cons_zero, List.set_cons_succ]; rfl)), ?_⟩) | (refine lb_val (by kernel_rfl) ⟨_, (by (intro w' hC; (have q := (y3.below hC).cell 0; simp only [List.getElem?_toArray, List.getElem?_cons_zero] at q); clear hC; (try go_simp); (try with_reducible rfl); done)), _, (by (simp only [Act.put, List.setIfInBounds_toArray, List.set_cons_zero, List.set_cons_succ]; rfl)), ?_⟩)
      first | (refine lb_skip (by rfl) ⟨_, (by (simp only [Act.put, List.setIfInBounds_toArray, List.set_cons_zero, List.set_cons_succ]; rfl)), ?_⟩) | (refine lb_move _ (by kernel_rfl) rfl ⟨_, (by ((try simp [go_sem]); (try rfl); done)), _, (by (simp only [Act.put, List.setIfInBounds_toArray, List.set_cons_zero, List.set_cons_succ]; rfl)), ?_⟩)
      first | (refine lb_skip (by rfl) ⟨_, (by (simp only [Act.put, List.setIfInBounds_toArray, List.set_cons_zero, List.set_cons_succ]; rfl)), ?_⟩) | (refine lb_val (by kernel_rfl) ⟨_, (by (intro w' hC; clear hC; (try go_simp); (try with_reducible rfl); done)), _, (by (simp only [Act.put, List.setIfInBounds_toArray, List.set_cons_zero, List.set_cons_succ]; rfl)), ?_⟩)
      first | (refine lb_skip (by rfl) ⟨_, (by (simp only [Act.put, List.setIfInBounds_toArray, List.set_cons_zero, List.set_cons_succ]; rfl)), ?_⟩) | (refine lb_val (by kernel_rfl) ⟨_, (by (intro w' hC; clear hC; (try go_simp); (try with_reducible rfl); done)), _, (by (simp only [Act.put, List.setIfInBounds_toArray, List.set_cons_zero, List.set_cons_succ]; rfl)), ?_⟩)
      first | (refine lb_skip (by rfl) ⟨_, (by (simp only [Act.put, List.setIfInBounds_toArray, List.set_cons_zero, List.set_cons_succ]; rfl)), ?_⟩) | (refine lb_val (by kernel_rfl) ⟨_, (by (intro w' hC; (have r2 := cellAt hC hb2 e2); clear hC; (try go_simp); (try with_reducible rfl); done)), _, (by (simp only [Act.put, List.setIfInBounds_toArray, List.set_cons_zero, List.set_cons_succ]; rfl)), ?_⟩)
      first | (refine lb_skip (by rfl) ⟨_, (by (simp only [Act.put, List.setIfInBounds_toArray, List.set_cons_zero, List.set_cons_succ]; rfl)), ?_⟩) | (refine lb_val (by kernel_rfl) ⟨_, (by (intro w' hC; clear hC; (try go_simp); (try with_reducible rfl); done)), _, (by (simp only [Act.put, List.setIfInBounds_toArray, List.set_cons_zero, List.set_cons_succ]; rfl)), ?_⟩)
      refine lb_val (by kernel_rfl) ⟨_, (by (intro w' hC; clear hC; (try go_simp); (try with_reducible rfl); done)), _, (by (simp only [Act.put, List.setIfInBounds_toArray, List.set_cons_zero, List.set_cons_succ]; rfl)), ?_⟩
      refine .nil ?_
      intro w4 hb4
      have hw4 := hwr.trans (hb4.mono hwr.size)
      have y4 := y3.below hb4
      have s1 := cellAt hb4 hb2 e1
      have hb24 := Nat.lt_of_lt_of_le hb2 hb4.size
      have hc4 := hcr.trans (hb4.mono hcr.size)
      have q0 := y4.cell 0
      have q1 := y4.cell 1
      have q2 := y4.cell 2
      have q3 := y4.cell 3
      simp only [List.getElem?_toArray, List.getElem?_cons_zero, List.getElem?_cons_succ] at q0 q1 q2 q3
      clear HSU e0 e1 e2 c0 hb4
      by_cases hl : D.left = 0
      · rw [hl] at q3
        clear HRD s1
        go_wp2_with fail
        go_roundw
        case rel => exact ⟨i + 1, hlt, by go_num, hc4⟩
        case measure => simp [intOf]; omega
      · have hlb : (D.left == 0) = false := by simpa using hl
        have hlc : (D.left != 0) = true := by simpa using hl
        have hrr := HRD.out hl
        have HRE := read_any tb mb L D k n2 w4 (HD.out.below hw4) HO.out hnw
        rw [hrr] at HRE
        replace HRE := Lib.hid HRE
        clear hrr HRD hl
        go_wp2_with fail
        refine HRE.out.mono ?_
        rintro e w5 ⟨A5, c5, l5, rfl, hl5, ho5, hb5⟩
        have hw5 := hw4.trans (hb5.mono hw4.size)
        have y5 := y4.below hb5
        have s5 := cellAt hb5 hb24 s1
        have hc5 := hc4.trans (hb5.mono hc4.size)
        have HSM := refSame_any A5 xA c5 xc l5 xl _ _ w5 ho5.rd (HXF.out.below hw5)
        rw [show (l5 == xl) = true from by rw [show l5 = xl from hl5.out]; simp] at HSM
        replace HSM := Lib.hid HSM
        clear q0 q1 q2 q3 s1 HRE hl5 ho5 y4
        have q0 := y5.cell 0
        have q1 := y5.cell 1
        have q2 := y5.cell 2
        have q3 := y5.cell 3
        simp only [List.getElem?_toArray, List.getElem?_cons_zero, List.getElem?_cons_succ] at q0 q1 q2 q3
        go_wp2_with fail
        refine HSM.out.mono ?_
        rintro e w6 ⟨rfl, rfl⟩
        go_wp2_with fail
        go_roundw
        case rel => exact ⟨i + 1, hlt, by go_num, hc5⟩
        case measure => simp [intOf]; omega
    · have e : i = L.length := by omega
      subst e
      go_wp2_with fail
      go_ret
      exact ⟨rfl, hwr⟩

end Go.Proofs.Ytmdbfhfjaapeoaa

/- tenderlaw11.lives. -/
namespace Go.Proofs.Ytmdbfhfjaapeoaa
open Go.RowKit Go.Maps

theorem DiskTo.low {w w' : World} {tb mb B : Nat} {D : DP} (h : DiskTo w tb mb D w') (h1 : B ≤ tb) (h2 : B ≤ mb) (hs : B ≤ w.heap.size) : Below B w w' :=
  h.fr.below hs (fun k hk e => by rcases e with rfl | rfl <;> omega)
def dl1 : DP := ⟨[(1, ([], 0))], 1, 100, -1⟩
def dl2 : DP := ⟨[(1, ([1, 2, 3], 0))], 1, 100, -1⟩
def dl3 : DP := ⟨[(1, ([1, 2, 3], 3))], 1, 100, -1⟩
def dl4 : DP := ⟨[(1, ([1, 2, 3, 4, 5, 6, 7], 3))], 1, 100, -1⟩
def dl5 : DP := ⟨[(1, ([1, 2, 3, 4, 5], 5))], 1, 100, -1⟩
theorem dl_make : makeS (newD 100) = (dl1, 1, 0) := by kernel_rfl
theorem dl_append : appendS dl1 1 [1, 2, 3] = (dl2, 0) := by kernel_rfl
theorem dl_sync : syncS dl2 1 = (dl3, 0) := by kernel_rfl
theorem dl_append2 : appendS dl3 1 [4, 5, 6, 7] = (dl4, 0) := by kernel_rfl
theorem dl_crash : crashS dl4 [(1, 5)] = dl5 := by kernel_rfl
theorem dl_read : readS dl5 1 = ([1, 2, 3, 4, 5], 0) := by kernel_rfl
theorem dl_sure : (fileS dl5 1).2 = 5 := by kernel_rfl
theorem dok1 : DOk dl1 1 := by have := (DOk.new 100).make; rw [dl_make] at this; exact this
theorem dok2 : DOk dl2 1 := by have := dok1.append 1 [1, 2, 3]; rw [dl_append] at this; exact this
theorem dok3 : DOk dl3 1 := by have := dok2.sync 1; rw [dl_sync] at this; exact this
theorem dok4 : DOk dl4 1 := by have := dok3.append 1 [4, 5, 6, 7]; rw [dl_append2] at this; exact this
theorem dok5 : DOk dl5 1 := by have := dok4.crash [(1, 5)]; rw [dl_crash] at this; exact this
theorem lit3 (w : World) : BV.ok (w.alloc (.cells #[.int .u8 1, .int .u8 2, .int .u8 3] 5)) (fun _ => True) ⟨some ⟨w.heap.size, 0, none⟩, 3, [1, 2, 3]⟩ := by
  refine ⟨?_, by simp, by simp [maxLen]⟩
  have e : ([1, 2, 3] : List UInt8).map bv = [.int .u8 1, .int .u8 2, .int .u8 3] := by kernel_rfl
  unfold By
  rw [e]
  exact (Rd.lit rfl rfl (by simp)).mono (fun _ _ _ => trivial)
theorem lit4 (w : World) : BV.ok (w.alloc (.cells #[.int .u8 4, .int .u8 5, .int .u8 6, .int .u8 7] 5)) (fun _ => True) ⟨some ⟨w.heap.size, 0, none⟩, 4, [4, 5, 6, 7]⟩ := by
  refine ⟨?_, by simp, by simp [maxLen]⟩
  have e : ([4, 5, 6, 7] : List UInt8).map bv = [.int .u8 4, .int .u8 5, .int .u8 6, .int .u8 7] := by kernel_rfl
  unfold By
  rw [e]
  exact (Rd.lit rfl rfl (by simp)).mono (fun _ _ _ => trivial)
theorem litK (w : World) : Kps (w.alloc (.cells #[.int .i64 1, .int .i64 5] 61)) (fun b => w.heap.size ≤ b) (some ⟨w.heap.size, 0, none⟩) [(1, 5)] :=
  ⟨(Rd.lit (w := w) (t := 61) (size := 2) (n := 1) (xs := [((1 : Int), (5 : Int))].flatMap keepC) rfl rfl rfl).mono (fun _ _ hz => hz), by simp⟩

set_option maxRecDepth 100000 in
set_option maxHeartbeats 2000000 in
theorem lives11_any (w : World) : Calls Try.prog 7 #[] w fun e w' => e = .returned (.bool true) ∧ Below w.heap.size w w' := by
  have wf1 : (Lit.int .i64 1).wf = true := by decide
  go_enter Try.func7, Try.ntmps7
  go_wp2_with fail
  refine (diskNew_any 100 _).mono ?_
  rintro e w1 ⟨tb, mb, rfl, h1, htb, hmb, hb1⟩
  have HM := make_any tb mb _ _ 0 w1 h1 (DOk.new 100) (by omega)
  rw [dl_make] at HM
  replace HM := Lib.hid HM
  clear h1
  go_wp2_with fail
  refine HM.out.mono ?_
  rintro e w2 ⟨rfl, h2⟩
  have hb2 := hb1.trans (h2.low htb hmb hb1.size)
  obtain ⟨L2, h2⟩ := h2.at_
  have ba2 : Below w2.heap.size w2 (w2.alloc (.cells #[.int .u8 1, .int .u8 2, .int .u8 3] 5)) := (Below.refl _ _).alloc (Nat.le_refl _) _
  have HA := append_any tb mb L2 dl1 1 1 ⟨some ⟨w2.heap.size, 0, none⟩, 3, [1, 2, 3]⟩ _ (h2.below ba2) dok1 (by omega) wf1 (lit3 w2) (by simp)
  rw [dl_append] at HA
  replace HA := Lib.hid HA
  have hb2a := hb2.trans (ba2.mono hb2.size)
  clear h2 HM ba2 hb1
  go_wp2_with fail
  refine HA.out.mono ?_
  rintro e w3 ⟨rfl, h3⟩
  have hb3 := hb2a.trans (h3.low htb hmb hb2a.size)
  obtain ⟨L3, h3⟩ := h3.at_
  have HS := sync_any tb mb L3 dl2 1 1 _ h3 dok2 (by omega) wf1
  rw [dl_sync] at HS
  replace HS := Lib.hid HS
  clear h3 HA hb2 hb2a
  go_wp2_with fail
  refine HS.out.mono ?_
  rintro e w4 ⟨rfl, h4⟩
  have hb4 := hb3.trans (h4.low htb hmb hb3.size)
  obtain ⟨L4, h4⟩ := h4.at_
  have ba4 : Below w4.heap.size w4 (w4.alloc (.cells #[.int .u8 4, .int .u8 5, .int .u8 6, .int .u8 7] 5)) := (Below.refl _ _).alloc (Nat.le_refl _) _
  have HA := append_any tb mb L4 dl3 1 1 ⟨some ⟨w4.heap.size, 0, none⟩, 4, [4, 5, 6, 7]⟩ _ (h4.below ba4) dok3 (by omega) wf1 (lit4 w4) (by simp)
  rw [dl_append2] at HA
  replace HA := Lib.hid HA
  have hb4a := hb4.trans (ba4.mono hb4.size)
  clear h4 HS ba4 hb3
  go_wp2_with fail
  refine HA.out.mono ?_
  rintro e w5 ⟨rfl, h5⟩
  have hb5 := hb4a.trans (h5.low htb hmb hb4a.size)
  obtain ⟨L5, h5⟩ := h5.at_
  have ba5 : Below w5.heap.size w5 (w5.alloc (.cells #[.int .i64 1, .int .i64 5] 61)) := (Below.refl _ _).alloc (Nat.le_refl _) _
  have HC := crash_any tb mb L5 dl4 1 (some ⟨w5.heap.size, 0, none⟩) 1 [(1, 5)] (fun b => w5.heap.size ≤ b) _ (h5.below ba5) dok4 (by omega) (litK w5) (fun b _ hz e => by
    have q1 := h5.blk.lt
    have q2 := h5.map.lt
    omega)
  rw [dl_crash] at HC
  replace HC := Lib.hid HC
  have hb5a := hb5.trans (ba5.mono hb5.size)
  clear h5 HA ba5 hb4 hb4a
  go_wp2_with fail
  refine HC.out.mono ?_
  rintro e w6 ⟨rfl, h6⟩
  have hb6 := hb5a.trans (h6.low htb hmb hb5a.size)
  obtain ⟨L6, h6⟩ := h6.at_
  have HR := read_any tb mb L6 dl5 1 1 _ h6 dok5 wf1
  rw [dl_read] at HR
  replace HR := Lib.hid HR
  have H6 := Lib.hid h6
  clear h6 HC hb5 hb5a
  go_wp2_with fail
  refine HR.out.mono ?_
  rintro e w7 ⟨A, c, l, rfl, hl, _, hb7⟩
  have e5 : l.length = 5 := by rw [show l = [1, 2, 3, 4, 5] from hl.out]; rfl
  rw [e5]
  have hw7 := hb6.trans (hb7.mono hb6.size)
  have HU := sure_any tb mb L6 dl5 1 _ (H6.out.below hb7) wf1
  rw [dl_sure] at HU
  replace HU := Lib.hid HU
  clear H6 HR hl hb6 hb7
  go_wp2_with fail
  refine HU.out.mono ?_
  rintro e w8 ⟨rfl, rfl⟩
  go_wp2_with fail
  go_ret
  exact ⟨rfl, hw7⟩
end Go.Proofs.Ytmdbfhfjaapeoaa

/- DiskPlays is true for every input: whatever is called, one thing after the other, wherever the power goes, what each call answers, and what all files have, are the document's; a clone goes its own way. No condition beyond the row's own. -/
namespace Go.Proofs.Ytmdbfhfjaapeoaa
open Go.RowKit Go.Maps

theorem do11_any (tb mb : Nat) (L : List (Int × FV)) (D V : DP) (k : Nat) (v : Value) (o : OpD) (w : World) (hd : DiskAt w tb mb L D) (hok : DOk D k) (hk : k < 1000000) (hv : RefAt w v V) (hokV : DOk V k) (ho : o.ok w (fun b => ¬ (b = tb ∨ b = mb))) (hx : o.x.l.length ≤ 20000) (hK : o.K.length ≤ 20000) :
    Calls Try.prog 12 #[.pointer (some ⟨tb, 0, none⟩), v, .agg #[.int .i64 o.kind, .int .i64 o.file, .int .i64 o.n, .slice o.x.A o.x.l.length o.x.c, .slice o.kA o.K.length o.kc]] w fun e w' => ∃ v', e = .returned (.tuple #[v', .bool (okS D V o)]) ∧ RefAt w' v' (stepS V o) ∧ (∃ L', DiskAt w' tb mb L' (stepS D o)) ∧ Fr (fun g => g = tb ∨ g = mb) w w' := by
  obtain ⟨A2, c2, L2, rfl, hF, hc, hp⟩ := hv.at_
  obtain ⟨kind, file, n, ⟨xA, xc, xl⟩, kA, kc, K⟩ := o
  dsimp only at *
  by_cases h1 : kind = 1
  · subst h1
    have := do_make tb mb L D V k A2 c2 L2 file n xA xc xl kA kc K w hd hok hk hv hokV ho hx hK
    simpa only [okS, stepS, if_true] using this
  by_cases h2 : kind = 2
  · subst h2
    have := do_append tb mb L D V k A2 c2 L2 file n xA xc xl kA kc K w hd hok hk hv hokV ho hx hK
    simpa only [okS, stepS, if_neg h1, if_true] using this
  by_cases h3 : kind = 3
  · subst h3
    have := do_sync tb mb L D V k A2 c2 L2 file n xA xc xl kA kc K w hd hok hk hv hokV ho hx hK
    simpa only [okS, stepS, if_neg h1, if_neg h2, if_true] using this
  by_cases h4 : kind = 4
  · subst h4
    have := do_drop tb mb L D V k A2 c2 L2 file n xA xc xl kA kc K w hd hok hk hv hokV ho hx hK
    simpa only [okS, stepS, if_neg h1, if_neg h2, if_neg h3, if_true] using this
  by_cases h5 : kind = 5
  · subst h5
    have := do_read tb mb L D V k A2 c2 L2 file n xA xc xl kA kc K w hd hok hk hv hokV ho hx hK
    simpa only [okS, stepS, if_neg h1, if_neg h2, if_neg h3, if_neg h4, if_true] using this
  by_cases h6 : kind = 6
  · subst h6
    have := do_stop tb mb L D V k A2 c2 L2 file n xA xc xl kA kc K w hd hok hk hv hokV ho hx hK
    simpa only [okS, stepS, if_neg h1, if_neg h2, if_neg h3, if_neg h4, if_neg h5, if_true] using this
  by_cases h7 : kind = 7
  · subst h7
    have := do_crash tb mb L D V k A2 c2 L2 file n xA xc xl kA kc K w hd hok hk hv hokV ho hx hK
    simpa only [okS, stepS, if_neg h1, if_neg h2, if_neg h3, if_neg h4, if_neg h5, if_neg h6, if_true] using this
  have := do_other tb mb L D V k A2 c2 L2 kind h1 h2 h3 h4 h5 h6 h7 file n xA xc xl kA kc K w hd hok hk hv hokV ho hx hK
  simpa only [okS, stepS, if_neg h1, if_neg h2, if_neg h3, if_neg h4, if_neg h5, if_neg h6, if_neg h7] using this
theorem DiskAt.putR {w w' : World} {tb mb g : Nat} {L : List (Int × FV)} {D : DP} {B : Option Addr} {m d : Nat} {i j k : Int} (h : DiskAt w tb mb L D) (hb : Blk w g 38 #[.slice B m d, .int .i64 i, .int .i64 j, .int .i64 k]) (f : Fr (fun x => x = g) w w') (h1 : tb ≠ g) (h2 : mb ≠ g) : DiskAt w' tb mb L D :=
  h.fr f h1 h2 (fun x hx => hb.noBytesR (h.ok x hx).1)
theorem RefAt.putR {w w' : World} {g : Nat} {D : DP} {v : Value} {B : Option Addr} {m d : Nat} {i j k : Int} (h : RefAt w v D) (hb : Blk w g 38 #[.slice B m d, .int .i64 i, .int .i64 j, .int .i64 k]) (f : Fr (fun x => x = g) w w') : RefAt w' v D := by
  obtain ⟨A, c, L2, e, hF, hc, hp⟩ := h.at_
  exact ⟨A, c, L2, e, hF.fr_disk hb f, hc, hp⟩
/-- what the rounds keep -/
structure PlRel (w : World) (tb mb wb i : Nat) (wr : World) : Prop where
  at_ : ∃ D L A c, ∃ L2 : List (Int × FV), DOk D i ∧ DiskAt wr tb mb L D ∧ Blk wr wb 38 #[.slice A L2.length c, .int .i64 D.last, .int .i64 D.room, .int .i64 D.left] ∧ RefAt wr (refV A L2.length c D.last D.room D.left) D
  below : Below w.heap.size w wr

set_option maxRecDepth 100000 in
set_option maxHeartbeats 4000000 in
theorem diskPlays_any (room : Int) (A0 : Option Addr) (c0 : Nat) (l : List OpD) (w : World) (h : OpsD w (fun b => b < w.heap.size) A0 l) :
    Calls Try.prog 4 #[.int .i64 room, .slice A0 l.length c0] w fun e w' => e = .returned (.bool true) ∧ Below w.heap.size w w' := by
  have HL := Lib.hid (light11_any A0 c0 l _ w h)
  have HOP := Lib.hid h
  clear h
  rcases hli : lightD l with _ | _
  · rw [hli] at HL
    go_enter Try.func4, Try.ntmps4
    go_wp2_with fail
    refine HL.out.mono ?_
    rintro e w1 ⟨rfl, hb1⟩
    go_wp2_with fail
    refine (lives11_any _).mono ?_
    rintro e w9 ⟨rfl, hb9⟩
    go_wp2_with fail
    go_ret
    exact ⟨rfl, hb1.trans (hb9.mono hb1.size)⟩
  · rw [hli] at HL
    have hll := lightD_len hli
    obtain ⟨hl200, _, hsz⟩ := hll
    have HSZ := Lib.hid hsz
    clear hsz hli
    go_enter Try.func4, Try.ntmps4
    go_wp2_with fail
    refine HL.out.mono ?_
    rintro e w1 ⟨rfl, hb1⟩
    go_wp2_with fail
    refine (diskNew_any room _).mono ?_
    rintro e w2 ⟨tb, mb, rfl, hd2, htb, hmb, hb2⟩
    have hw2 := hb1.trans (hb2.mono hb1.size)
    have HD2 := Lib.hid hd2
    have ltb : w.heap.size ≤ tb := Nat.le_trans hb1.size htb
    have lmb : w.heap.size ≤ mb := Nat.le_trans hb1.size hmb
    have gtb := hd2.blk.lt
    have gmb := hd2.map.lt
    clear HL hb1 hb2 hd2 htb hmb
    go_wp2_with fail
    refine (refNew_any room _).mono ?_
    rintro e w3 ⟨rfl, hb3⟩
    have hw3 := hw2.trans (hb3.mono hw2.size)
    have hba : Below w3.heap.size w3 (w3.alloc (.cells #[.slice none 0 0, .int .i64 0, .int .i64 (newD room).room, .int .i64 (-1)] 38)) := (Below.refl _ _).alloc (Nat.le_refl _) _
    have y3 := Blk.new w3 38 #[.slice none 0 0, .int .i64 0, .int .i64 (newD room).room, .int .i64 (-1)]
    have hw4 := hw3.trans (hba.mono hw3.size)
    have HD4 := Lib.hid ((HD2.out.below hb3).below hba)
    have gb2 := hb3.size
    obtain ⟨wb, hwb⟩ : ∃ wb, wb = w3.heap.size := ⟨_, rfl⟩
    have hw2s := hw2.size
    have PL0 : Hid (PlRel w tb mb wb 0 (w3.alloc (.cells #[.slice none 0 0, .int .i64 0, .int .i64 (newD room).room, .int .i64 (-1)] 38))) := Lib.hid ⟨⟨newD room, [], none, 0, [], DOk.new room, HD4.out, (by rw [hwb]; exact y3), ⟨none, 0, [], rfl, Fls.nil _, Nat.le_refl _, rfl⟩⟩, hw4⟩
    go_upto_region 4 with (fail)
    rw [← hwb]
    generalize w3.alloc (.cells #[.slice none 0 0, .int .i64 0, .int .i64 (newD room).room, .int .i64 (-1)] 38) = w4 at *
    have gwb1 : tb ≠ wb := by omega
    have gwb2 : mb ≠ wb := by omega
    have gwb3 : w.heap.size ≤ wb := by omega
    clear HD2 HD4 hb3 hba y3 hw3 hw2 hwb gtb gmb gb2 hw2s
    go_wp2_with fail
    go_loopw [22] (fun iv wr => ∃ i : Nat, i ≤ l.length ∧ iv = .int .i64 (i : Int) ∧ PlRel w tb mb wb i wr) (fun iv _ => l.length - (intOf iv).toNat)
    case atStart => exact ⟨0, Nat.zero_le _, rfl, PL0.out⟩
    case round =>
      obtain ⟨i, hi, rfl, hpl⟩ := hrel
      obtain ⟨D, L, A, c, L2, hok, hd, hbk, hv⟩ := hpl.at_
      have hwr := hpl.below
      obtain ⟨c1, hc1⟩ : ∃ c1, c1 = L2.length := ⟨_, rfl⟩
      rw [← hc1] at hbk hv
      clear PL0 hpl hc1
      by_cases hlt : i < l.length
      · obtain ⟨ob, off, hA0, hzb, hbb, e0, e1, e2, e3, e4⟩ := (HOP.out.below hwr).at_ hlt
        have hoo := (HOP.out.below hwr).ok _ (List.getElem_mem hlt)
        have hos := HSZ.out _ (List.getElem_mem hlt)
        generalize l[i] = o at *
        have HOO := Lib.hid (hoo.mono (Z' := fun b => ¬ (b = tb ∨ b = mb)) (fun b _ hz e => by rcases e with rfl | rfl <;> omega))
        have hn63 := hoo.n.2
        have HOS := Lib.hid hos
        have HOK := Lib.hid hok
        have HD := Lib.hid hd
        have HV := Lib.hid hv
        subst hA0
        have hba : Below wr.heap.size wr (wr.alloc (.cells #[.int .i64 o.kind, .int .i64 o.file, .int .i64 o.n, .slice o.x.A o.x.l.length o.x.c, .slice o.kA o.K.length o.kc] 35)) := (Below.refl _ _).alloc (Nat.le_refl _) _
        have x1 := Blk.new wr 35 #[.int .i64 o.kind, .int .i64 o.file, .int .i64 o.n, .slice o.x.A o.x.l.length o.x.c, .slice o.kA o.K.length o.kc]
        have HC := Lib.hid (diskClone_any tb mb L D _ (hd.below hba))
        clear hoo hos hok hd hv
        go_wp2_with fail
        refine HC.out.mono ?_
        rintro e w2 ⟨cb, cm, rfl, hcl, hcb, hcm, hb2⟩
        have hbw := hba.trans (hb2.mono hba.size)
        have hw2 := hwr.trans (hbw.mono hwr.size)
        have x2 := x1.below hb2
        have y2 := hbk.below hbw
        have HD2 := HD.out.below hbw
        have HV2 := HV.out.below hbw
        have t1 := HD.out.blk.lt
        have t2 := HD.out.map.lt
        have t3 := hba.size
        have hnc1 : cb ≠ tb := by omega
        have hnc2 : cb ≠ mb := by omega
        have hnc3 : cm ≠ tb := by omega
        have hnc4 : cm ≠ mb := by omega
        have hdo := do11_any tb mb L D D i _ o w2 HD2 HOK.out (by omega) HV2 HOK.out (HOO.out.below hbw) HOS.out.1 HOS.out.2
        rw [okS_same] at hdo
        obtain ⟨D', hD'⟩ : ∃ D', D' = stepS D o := ⟨_, rfl⟩
        rw [← hD'] at hdo
        have HOK' : Hid (DOk D' (i + 1)) := Lib.hid (by rw [hD']; exact HOK.out.step o hn63)
        have HDO := Lib.hid hdo
        have HCL := Lib.hid hcl
        have HV2h := Lib.hid HV2
        have HD2h := Lib.hid HD2
        clear hdo hcl HV2 HD2 hD' HC HV HD HOO HOS hbk x1 hb2 hba hbw t1 t2 t3 hcb hcm e0 e1 e2 e3 e4
        have o0 := x2.cell 0
        have o1 := x2.cell 1
        have o2 := x2.cell 2
        have o3 := x2.cell 3
        have o4 := x2.cell 4
        simp only [List.getElem?_toArray, List.getElem?_cons_zero, List.getElem?_cons_succ] at o0 o1 o2 o3 o4
        have p0 := y2.cell 0
        have p1 := y2.cell 1
        have p2 := y2.cell 2
        have p3 := y2.cell 3
        simp only [List.getElem?_toArray, List.getElem?_cons_zero, List.getElem?_cons_succ] at p0 p1 p2 p3
        go_wp2_with fail
        refine HDO.out.mono ?_
        rintro e w3 ⟨v3, rfl, hr3, ⟨L3, hd3⟩, hf3⟩
        obtain ⟨A5, c5, L5, rfl, _, _, _⟩ := hr3.at_
        have hw3 : Below w.heap.size w w3 := hw2.trans (hf3.below (B := w.heap.size) hw2.size (fun k hk e => by rcases e with rfl | rfl <;> omega))
        have hba : Below w3.heap.size w3 (w3.alloc (.cells #[.slice A5 L5.length c5, .int .i64 D'.last, .int .i64 D'.room, .int .i64 D'.left] 38)) := (Below.refl _ _).alloc (Nat.le_refl _) _
        have z4 := Blk.new w3 38 #[.slice A5 L5.length c5, .int .i64 D'.last, .int .i64 D'.room, .int .i64 D'.left]
        have y4 := (y2.fr hf3 (by omega)).below hba
        have HR4 := Lib.hid (hr3.below hba)
        have HD4 := Lib.hid (hd3.below hba)
        have HC4 := Lib.hid ((HCL.out.fr hf3 (by omega) (by omega) (fun x hx => (HD2h.out.bytes (HCL.out.ok x hx).1).mono (fun _ _ hz => hz.2))).below hba)
        have HV4 := Lib.hid ((HV2h.out.disk HD2h.out hf3).below hba)
        have hw4 := hw3.trans (hba.mono hw3.size)
        have lwb := (y2.fr hf3 (by omega)).lt
        clear HDO hr3 hd3 hf3 HCL HV2h HD2h x2 y2 o0 o1 o2 o3 o4 p0 p1 p2 p3
        go_upto_region 9 with (fail)
        obtain ⟨vb, hvb⟩ : ∃ vb, vb = w3.heap.size := ⟨_, rfl⟩
        rw [← hvb] at z4 lwb ⊢
        generalize w3.alloc (.cells #[.slice A5 L5.length c5, .int .i64 D'.last, .int .i64 D'.room, .int .i64 D'.left] 38) = w4 at *
        clear hba hvb hw3
        have p0 := z4.cell 0
        have p1 := z4.cell 1
        have p2 := z4.cell 2
        have p3 := z4.cell 3
        simp only [List.getElem?_toArray, List.getElem?_cons_zero, List.getElem?_cons_succ] at p0 p1 p2 p3
        go_wp2_with fail
        refine (same11_any tb mb L3 D' (i + 1) _ w4 HD4.out HR4.out HOK'.out (by omega)).mono ?_
        rintro e w5 ⟨rfl, hb5⟩
        have hw5 := hw4.trans (hb5.mono hw4.size)
        have z5 := z4.below hb5
        have y5 := y4.below hb5
        have HR5 := Lib.hid (HR4.out.below hb5)
        have HD5 := Lib.hid (HD4.out.below hb5)
        have HC5 := Lib.hid (HC4.out.below hb5)
        have HV5 := Lib.hid (HV4.out.below hb5)
        clear HR4 HD4 HC4 HV4 z4 y4 hb5 p0 p1 p2 p3
        have p0 := y5.cell 0
        have p1 := y5.cell 1
        have p2 := y5.cell 2
        have p3 := y5.cell 3
        simp only [List.getElem?_toArray, List.getElem?_cons_zero, List.getElem?_cons_succ] at p0 p1 p2 p3
        go_wp2_with fail
        refine (same11_any cb cm L D i _ w5 HC5.out HV5.out HOK.out (by omega)).mono ?_
        rintro e w6 ⟨rfl, hb6⟩
        have hw6 := hw5.trans (hb6.mono hw5.size)
        have z6 := z5.below hb6
        have y6 := y5.below hb6
        have HR6 := HR5.out.below hb6
        have HD6 := HD5.out.below hb6
        have kS : Fr (fun x => x = wb) w6 ((((w6.setCell ⟨wb, 0, none⟩ (.slice A5 L5.length c5)).setCell ⟨wb, 1, none⟩ (.int .i64 D'.last)).setCell ⟨wb, 2, none⟩ (.int .i64 D'.room)).setCell ⟨wb, 3, none⟩ (.int .i64 D'.left)) := (((((Fr.refl (fun x => x = wb) w6).setAt wb _ rfl _).setAt wb _ rfl _).setAt wb _ rfl _).setAt wb _ rfl _)
        have yS := ((((y6.set_ 0 (.slice A5 L5.length c5)).set_ 1 (.int .i64 D'.last)).set_ 2 (.int .i64 D'.room)).set_ 3 (.int .i64 D'.left))
        simp only [List.setIfInBounds_toArray, List.set_cons_zero, List.set_cons_succ] at yS
        have hwS : Below w.heap.size w ((((w6.setCell ⟨wb, 0, none⟩ (.slice A5 L5.length c5)).setCell ⟨wb, 1, none⟩ (.int .i64 D'.last)).setCell ⟨wb, 2, none⟩ (.int .i64 D'.room)).setCell ⟨wb, 3, none⟩ (.int .i64 D'.left)) := hw6.trans (kS.below (B := w.heap.size) hw6.size (fun k hk e => by omega))
        have PLS : Hid (PlRel w tb mb wb (i + 1) ((((w6.setCell ⟨wb, 0, none⟩ (.slice A5 L5.length c5)).setCell ⟨wb, 1, none⟩ (.int .i64 D'.last)).setCell ⟨wb, 2, none⟩ (.int .i64 D'.room)).setCell ⟨wb, 3, none⟩ (.int .i64 D'.left))) := Lib.hid ⟨⟨D', L3, A5, c5, L5, HOK'.out, HD6.putR y6 kS gwb1 gwb2, yS, HR6.putR y6 kS⟩, hwS⟩
        have fz := fun o => y6.frozen o
        clear HR5 HD5 HC5 HV5 z5 y5 hb6 p0 p1 p2 p3 HR6 HD6 kS yS hwS HOK HOK'
        have p0 := z6.cell 0
        have p1 := z6.cell 1
        have p2 := z6.cell 2
        have p3 := z6.cell 3
        simp only [List.getElem?_toArray, List.getElem?_cons_zero, List.getElem?_cons_succ] at p0 p1 p2 p3
        have r0 := y6.cell 0
        have r1 := y6.cell 1
        have r2 := y6.cell 2
        have r3 := y6.cell 3
        simp only [List.getElem?_toArray, List.getElem?_cons_zero, List.getElem?_cons_succ] at r0 r1 r2 r3
        go_wp2_with fail
        go_roundw
        case rel => exact ⟨i + 1, hlt, by go_num, PLS.out⟩
        case measure => simp [intOf]; omega
      · have e : i = l.length := by omega
        subst e
        have HS := Lib.hid (same11_any tb mb L D l.length _ wr hd hv hok (by omega))
        have p0 := hbk.cell 0
        have p1 := hbk.cell 1
        have p2 := hbk.cell 2
        have p3 := hbk.cell 3
        simp only [List.getElem?_toArray, List.getElem?_cons_zero, List.getElem?_cons_succ] at p0 p1 p2 p3
        clear hd hv hok hbk
        go_wp2_with fail
        refine HS.out.mono ?_
        rintro e w5 ⟨rfl, hb5⟩
        have hw5 := hwr.trans (hb5.mono hwr.size)
        go_wp2_with fail
        refine (lives11_any _).mono ?_
        rintro e w9 ⟨rfl, hb9⟩
        go_wp2_with fail
        go_ret
        exact ⟨rfl, hw5.trans (hb9.mono hw5.size)⟩

end Go.Proofs.Ytmdbfhfjaapeoaa

/- DiskKeeps is true for every input: what was synced is never lost, whatever is called behind that on other files, and whatever crashes keep. No condition beyond the row's own. -/
namespace Go.Proofs.Ytmdbfhfjaapeoaa
open Go.RowKit Go.Maps

/-- the first file begins with these bytes, and they are sure -/
def KeepD (D : DP) (b : List UInt8) : Prop := ∃ x s, getZ D.L 1 = some (x, s) ∧ b <+: x ∧ (b.length : Int) ≤ s
theorem KeepD.count {D : DP} {b : List UInt8} (h : KeepD D b) : KeepD (countS D) b := by
  unfold KeepD at *
  rw [(count_left D).1]
  exact h
theorem getZ_crash (K : List (Int × Int)) (L : List (Int × FP)) (n : Int) : getZ (L.map (crashF K)) n = (getZ L n).map fun f => (f.1.take (manyS K n f).toNat, manyS K n f) := by
  induction L with
  | nil => rfl
  | cons x l ih =>
    rw [List.map_cons, getZ_cons, getZ_cons, ih]
    show (if x.1 = n then _ else _) = _
    split
    · rename_i e
      rw [← e]
      rfl
    · rfl
theorem KeepD.crash {D : DP} {k : Nat} {b : List UInt8} (h : KeepD D b) (hok : DOk D k) (K : List (Int × Int)) : KeepD (crashS D K) b := by
  obtain ⟨x, s, hg, hb, hs⟩ := h
  have hm := many_bd hok K (getZ_mem hg)
  dsimp only at hm
  refine ⟨x.take (manyS K 1 (x, s)).toNat, manyS K 1 (x, s), ?_, ?_, by omega⟩
  · show getZ (D.L.map (crashF K)) 1 = _
    rw [getZ_crash, hg]
    rfl
  · obtain ⟨t, rfl⟩ := hb
    rw [List.take_append, List.take_of_length_le (l := b) (by omega)]
    exact List.prefix_append _ _
theorem KeepD.step {D : DP} {k : Nat} {b : List UInt8} (h : KeepD D b) (hok : DOk D k) (o : OpD) (ho : ¬ (o.kind = 4 ∧ o.file = 1)) : KeepD (stepS D o) b := by
  have h0 := h
  obtain ⟨x, s, hg, hb, hs⟩ := h
  have h1 : (1 : Int) ∈ keysZ D.L := getZ_isSome.1 (by rw [hg]; rfl)
  have hl := (hok.key 1 h1).2
  have hf : ∀ n, n = 1 → fileS D n = (x, s) := fun n e => by subst e; unfold fileS; rw [hg]; rfl
  unfold stepS
  split
  · unfold makeS
    split
    · exact h0
    · refine KeepD.count ⟨x, s, ?_, hb, hs⟩
      show getZ (putZ D.L (D.last + 1) ([], 0)) 1 = _
      rw [getZ_put, if_neg (by omega)]
      exact hg
  split
  · unfold appendS
    split
    · exact h0
    split
    · exact h0
    · refine KeepD.count ?_
      by_cases e : o.file = 1
      · refine ⟨x ++ o.x.l, s, ?_, hb.trans (List.prefix_append _ _), hs⟩
        show getZ (putZ D.L o.file _) 1 = _
        rw [getZ_put, if_pos e.symm, hf _ e]
      · refine ⟨x, s, ?_, hb, hs⟩
        show getZ (putZ D.L o.file _) 1 = _
        rw [getZ_put, if_neg (fun e2 => e e2.symm)]
        exact hg
  split
  · unfold syncS
    split
    · exact h0
    · refine KeepD.count ?_
      by_cases e : o.file = 1
      · refine ⟨x, (x.length : Int), ?_, hb, by have := hb.length_le; omega⟩
        show getZ (putZ D.L o.file _) 1 = _
        rw [getZ_put, if_pos e.symm, hf _ e]
      · refine ⟨x, s, ?_, hb, hs⟩
        show getZ (putZ D.L o.file _) 1 = _
        rw [getZ_put, if_neg (fun e2 => e e2.symm)]
        exact hg
  split
  · rename_i h4
    unfold dropD
    split
    · exact h0
    · refine KeepD.count ⟨x, s, ?_, hb, hs⟩
      show getZ (withoutZ D.L o.file) 1 = _
      rw [getZ_without, if_neg (fun e2 => ho ⟨h4, e2.symm⟩)]
      exact hg
  split
  · exact h0
  split
  · unfold stopS
    split
    · exact h0
    · exact h0
  split
  · exact KeepD.crash h0 hok o.K
  · exact h0
def dk1 : DP := ⟨[(1, ([], 0))], 1, 1048576, -1⟩
def dk2 (b : List UInt8) : DP := ⟨[(1, (b, 0))], 1, 1048576, -1⟩
def dk3 (b : List UInt8) : DP := ⟨[(1, (b, (b.length : Int)))], 1, 1048576, -1⟩
theorem dk_make : makeS (newD 1048576) = (dk1, 1, 0) := by kernel_rfl
theorem dk_append (b : List UInt8) (h : b.length ≤ 1000) : appendS dk1 1 b = (dk2 b, 0) := by
  unfold appendS
  rw [if_neg (by decide), if_neg (by simp [usedS, dk1]; omega)]
  rfl
theorem dk_sync (b : List UInt8) : syncS (dk2 b) 1 = (dk3 b, 0) := by
  unfold syncS
  have : askS (dk2 b) 1 = 0 := rfl
  rw [if_neg (by rw [this]; decide)]
  rfl
theorem dkok1 : DOk dk1 1 := by have := (DOk.new 1048576).make; rw [dk_make] at this; exact this
theorem dkok2 (b : List UInt8) (h : b.length ≤ 1000) : DOk (dk2 b) 1 := by have := dkok1.append 1 b; rw [dk_append b h] at this; exact this
theorem dkok3 (b : List UInt8) (h : b.length ≤ 1000) : DOk (dk3 b) 1 := by have := (dkok2 b h).sync 1; rw [dk_sync] at this; exact this
theorem dk_keep (b : List UInt8) : KeepD (dk3 b) b := ⟨b, (b.length : Int), rfl, List.prefix_refl _, Int.le_refl _⟩
/-- what the rounds keep -/
structure KpRel (w : World) (tb mb : Nat) (b : List UInt8) (i : Nat) (wr : World) : Prop where
  at_ : ∃ D L, DOk D (i + 1) ∧ KeepD D b ∧ DiskAt wr tb mb L D
  below : Below w.heap.size w wr
theorem refNew_at (room : Int) (w : World) : RefAt w (refV none 0 0 0 (newD room).room (-1)) (newD room) := ⟨none, 0, [], rfl, Fls.nil _, Nat.le_refl _, rfl⟩

set_option maxRecDepth 100000 in
set_option maxHeartbeats 4000000 in
theorem diskKeeps_any (A0 : Option Addr) (c0 : Nat) (l : List OpD) (y : BV) (w : World) (h : OpsD w (fun b => b < w.heap.size) A0 l) (hy : y.ok w (fun b => b < w.heap.size)) (hyl : y.l.length ≤ 140737488355328) :
    Calls Try.prog 3 #[.slice A0 l.length c0, .slice y.A y.l.length y.c] w fun e w' => e = .returned (.bool true) ∧ Below w.heap.size w w' := by
  obtain ⟨yA, yc, yl⟩ := y
  dsimp only at *
  have HL := Lib.hid (light11_any A0 c0 l _ w h)
  have HOP := Lib.hid h
  have HY := Lib.hid (BV.ok.mono hy (Z' := fun _ => True) (fun _ _ _ => trivial))
  have wf1 : (Lit.int .i64 1).wf = true := by decide
  clear h hy
  rcases hli : lightD l with _ | _
  · rw [hli] at HL
    go_enter Try.func3, Try.ntmps3
    go_wp2_with fail
    refine HL.out.mono ?_
    rintro e w1 ⟨rfl, hb1⟩
    go_wp2_with fail
    refine (lives11_any _).mono ?_
    rintro e w9 ⟨rfl, hb9⟩
    go_wp2_with fail
    go_ret
    exact ⟨rfl, hb1.trans (hb9.mono hb1.size)⟩
  · rw [hli] at HL
    by_cases hbig : 1000 < yl.length
    · have hbb : decide ((1000 : Int) < (yl.length : Int)) = true := decide_eq_true (by omega)
      clear hli
      go_enter Try.func3, Try.ntmps3
      go_wp2_with fail
      refine HL.out.mono ?_
      rintro e w1 ⟨rfl, hb1⟩
      go_wp2_with fail
      refine (lives11_any _).mono ?_
      rintro e w9 ⟨rfl, hb9⟩
      go_wp2_with fail
      go_ret
      exact ⟨rfl, hb1.trans (hb9.mono hb1.size)⟩
    · have hbb : decide ((1000 : Int) < (yl.length : Int)) = false := decide_eq_false (by omega)
      have hy1 : yl.length ≤ 1000 := by omega
      have hll := lightD_len hli
      obtain ⟨hl200, _, hsz⟩ := hll
      have HSZ := Lib.hid hsz
      clear hsz hli hbig
      go_enter Try.func3, Try.ntmps3
      go_wp2_with fail
      refine HL.out.mono ?_
      rintro e w1 ⟨rfl, hb1⟩
      go_wp2_with fail
      refine (diskNew_any 1048576 _).mono ?_
      rintro e w2 ⟨tb, mb, rfl, hd2, htb, hmb, hb2⟩
      have hw2 := hb1.trans (hb2.mono hb1.size)
      have ltb : w.heap.size ≤ tb := Nat.le_trans hb1.size htb
      have lmb : w.heap.size ≤ mb := Nat.le_trans hb1.size hmb
      have HM := make_any tb mb _ _ 0 w2 hd2 (DOk.new 1048576) (by omega)
      rw [dk_make] at HM
      replace HM := Lib.hid HM
      clear HL hb1 hb2 hd2 htb hmb hbb
      go_wp2_with fail
      refine HM.out.mono ?_
      rintro e w3 ⟨rfl, h3⟩
      have hw3 := hw2.trans (h3.low ltb lmb hw2.size)
      obtain ⟨L3, hd3⟩ := h3.at_
      have HA := append_any tb mb L3 dk1 1 1 ⟨yA, yc, yl⟩ w3 hd3 dkok1 (by omega) wf1 (HY.out.below hw3) (by dsimp only; omega)
      rw [dk_append yl hy1] at HA
      replace HA := Lib.hid HA
      clear HM hd3 h3
      go_wp2_with fail
      refine HA.out.mono ?_
      rintro e w4 ⟨rfl, h4⟩
      have hw4 := hw3.trans (h4.low ltb lmb hw3.size)
      obtain ⟨L4, hd4⟩ := h4.at_
      have HS := sync_any tb mb L4 (dk2 yl) 1 1 w4 hd4 (dkok2 yl hy1) (by omega) wf1
      rw [dk_sync] at HS
      replace HS := Lib.hid HS
      clear HA hd4 h4
      go_wp2_with fail
      refine HS.out.mono ?_
      rintro e w5 ⟨rfl, h5⟩
      have hw5 := hw4.trans (h5.low ltb lmb hw4.size)
      obtain ⟨L5, hd5⟩ := h5.at_
      have KP0 : Hid (KpRel w tb mb yl 0 w5) := Lib.hid ⟨⟨dk3 yl, L5, dkok3 yl hy1, dk_keep yl, hd5⟩, hw5⟩
      clear HS hd5 h5
      go_wp2_with fail
      go_loopw [44] (fun iv wr => ∃ i : Nat, i ≤ l.length ∧ iv = .int .i64 (i : Int) ∧ KpRel w tb mb yl i wr) (fun iv _ => l.length - (intOf iv).toNat)
      case atStart => exact ⟨0, Nat.zero_le _, rfl, KP0.out⟩
      case round =>
        obtain ⟨i, hi, rfl, hkp⟩ := hrel
        obtain ⟨D, L, hok, hke, hd⟩ := hkp.at_
        have hwr := hkp.below
        clear KP0 hkp
        by_cases hlt : i < l.length
        · obtain ⟨ob, off, hA0, hzb, hbb, e0, e1, e2, e3, e4⟩ := (HOP.out.below hwr).at_ hlt
          have hoo := (HOP.out.below hwr).ok _ (List.getElem_mem hlt)
          have hos := HSZ.out _ (List.getElem_mem hlt)
          generalize l[i] = o at *
          subst hA0
          have hba : Below wr.heap.size wr (wr.alloc (.cells #[.int .i64 o.kind, .int .i64 o.file, .int .i64 o.n, .slice o.x.A o.x.l.length o.x.c, .slice o.kA o.K.length o.kc] 35)) := (Below.refl _ _).alloc (Nat.le_refl _) _
          have x1 := Blk.new wr 35 #[.int .i64 o.kind, .int .i64 o.file, .int .i64 o.n, .slice o.x.A o.x.l.length o.x.c, .slice o.kA o.K.length o.kc]
          have hw1 := hwr.trans (hba.mono hwr.size)
          have HOO := Lib.hid ((hoo.mono (Z' := fun b => ¬ (b = tb ∨ b = mb)) (fun b _ hz e => by rcases e with rfl | rfl <;> omega)).below hba)
          have hn63 := hoo.n.2
          have t1 := hd.blk.lt
          have t2 := hd.map.lt
          have HOS := Lib.hid hos
          have HOK := Lib.hid hok
          have HKE := Lib.hid hke
          have HD := Lib.hid (hd.below hba)
          clear hoo hos hok hke hd
          go_upto_region 10 with (fail)
          obtain ⟨xb, hxb⟩ : ∃ xb, xb = wr.heap.size := ⟨_, rfl⟩
          rw [← hxb] at x1 ⊢
          rw [← hxb] at t1 t2
          generalize wr.alloc (.cells #[.int .i64 o.kind, .int .i64 o.file, .int .i64 o.n, .slice o.x.A o.x.l.length o.x.c, .slice o.kA o.K.length o.kc] 35) = w1 at *
          clear hxb hba e0 e1 e2 e3 e4 hbb
          have o0 := x1.cell 0
          have o1 := x1.cell 1
          simp only [List.getElem?_toArray, List.getElem?_cons_zero, List.getElem?_cons_succ] at o0 o1
          by_cases h4 : o.kind = 4
          · by_cases hf : o.file = 1
            · have h4b : (o.kind != 4) = false := by simpa using h4
              have hfb : (o.file != 1) = false := by simpa using hf
              have KP3 : Hid (KpRel w tb mb yl (i + 1) w1) := Lib.hid ⟨⟨D, L, HOK.out.mono (by omega), HKE.out, HD.out⟩, hw1⟩
              clear h4 hf x1 HD HOK HOO HOS HKE
              go_wp2_with fail
              go_roundw
              case rel => exact ⟨i + 1, hlt, by go_num, KP3.out⟩
              case measure => simp [intOf]; omega
            · have h4b : (o.kind != 4) = false := by simpa using h4
              have hfb : (o.file != 1) = true := by simpa using hf
              have hno : ¬ (o.kind = 4 ∧ o.file = 1) := fun e => hf e.2
              clear h4 hf
              go_upto_region 11 with (fail)
              clear o0 o1 h4b hfb
              have HDO := Lib.hid (fun (W : World) (hW : Below w1.heap.size w1 W) => do11_any tb mb L D (newD 0) (i + 1) _ o W (HD.out.below hW) HOK.out (by omega) (refNew_at 0 W) ((DOk.new 0).mono (by omega)) (HOO.out.below hW) HOS.out.1 HOS.out.2)
              have hC0 : Below w1.heap.size w1 w1.drew := (Below.refl _ _).drew
              refine wp_region_line (.tell 0 (.tell 2 (.one 1 (.one 3 .done)))) (fun W => Fr (fun x => x = tb ∨ x = mb) w1 W) (by kernel_rfl) (by kernel_rfl) ?_
              refine pl_val (by (simp only [List.getElem?_toArray, List.getElem?_cons_zero]; rfl)) (by kernel_rfl) ⟨_, (by (intro w' hC; clear hC; (try go_simp); (try with_reducible rfl); done)), _, (by (simp only [Act.put, List.setIfInBounds_toArray, List.set_cons_zero, List.set_cons_succ]; rfl)), ?_⟩
              refine pl_val (by (simp only [List.getElem?_toArray, List.getElem?_cons_succ, List.getElem?_cons_zero]; rfl)) (by kernel_rfl) ⟨_, (by (intro w' hC; have o0 := (x1.fr hC (by omega)).cell 0; have o1 := (x1.fr hC (by omega)).cell 1; have o2 := (x1.fr hC (by omega)).cell 2; have o3 := (x1.fr hC (by omega)).cell 3; have o4 := (x1.fr hC (by omega)).cell 4; simp only [List.getElem?_toArray, List.getElem?_cons_zero, List.getElem?_cons_succ] at o0 o1 o2 o3 o4; clear hC; (try go_simp); (try with_reducible rfl); done)), _, (by (simp only [Act.put, List.setIfInBounds_toArray, List.set_cons_zero, List.set_cons_succ]; rfl)), ?_⟩
              refine pl_one (by (simp only [List.getElem?_toArray, List.getElem?_cons_succ, List.getElem?_cons_zero]; rfl)) (Fr.refl _ w1).drew ?_
              refine al_call (by kernel_rfl) (by go_simp; done) (refNew_any 0 w1.drew) ?_
              rintro e w2 ⟨rfl, hb2⟩
              replace hb2 : Below w1.heap.size w1 w2 := hC0.trans (hb2.mono (Nat.le_refl _))
              refine ⟨_, rfl, _, (by (simp only [Act.put, List.setIfInBounds_toArray, List.set_cons_zero, List.set_cons_succ]; rfl)), ?_⟩
              refine pl_one (by (simp only [List.getElem?_toArray, List.getElem?_cons_succ, List.getElem?_cons_zero]; rfl)) (Fr.of_below hb2 _) ?_
              refine al_call (by kernel_rfl) (by go_simp; done) (HDO.out w2 hb2) ?_
              rintro e w3 ⟨v3, rfl, _, ⟨L3, hd3⟩, hf3⟩
              have hw3 : Below w.heap.size w w3 := (hw1.trans (hb2.mono hw1.size)).trans (hf3.below (B := w.heap.size) (hw1.trans (hb2.mono hw1.size)).size (fun k hk e => by rcases e with rfl | rfl <;> omega))
              have KP3 : Hid (KpRel w tb mb yl (i + 1) w3) := Lib.hid ⟨⟨_, L3, HOK.out.step o hn63, HKE.out.step HOK.out o hno, hd3⟩, hw3⟩
              refine ⟨_, rfl, _, (by (simp only [Act.put, List.setIfInBounds_toArray, List.set_cons_zero, List.set_cons_succ]; rfl)), ?_⟩
              refine pl_end ((Fr.of_below hb2 _).trans hf3 (fun _ _ e => e)) ?_
              simp only [Plan.count, Nat.reduceAdd, List.drop_succ_cons, List.drop_zero]
              clear HDO hC0 hb2 hd3 hf3 HD HOK HOO HOS HKE x1
              go_wp2_with fail
              go_roundw
              case rel => exact ⟨i + 1, hlt, by go_num, KP3.out⟩
              case measure => simp [intOf]; omega
          · have h4b : (o.kind != 4) = true := by simpa using h4
            have hno : ¬ (o.kind = 4 ∧ o.file = 1) := fun e => h4 e.1
            clear h4
            go_upto_region 11 with (fail)
            clear o0 o1 h4b
            have HDO := Lib.hid (fun (W : World) (hW : Below w1.heap.size w1 W) => do11_any tb mb L D (newD 0) (i + 1) _ o W (HD.out.below hW) HOK.out (by omega) (refNew_at 0 W) ((DOk.new 0).mono (by omega)) (HOO.out.below hW) HOS.out.1 HOS.out.2)
            have hC0 : Below w1.heap.size w1 w1.drew := (Below.refl _ _).drew
            refine wp_region_line (.tell 0 (.tell 2 (.one 1 (.one 3 .done)))) (fun W => Fr (fun x => x = tb ∨ x = mb) w1 W) (by kernel_rfl) (by kernel_rfl) ?_
            refine pl_val (by (simp only [List.getElem?_toArray, List.getElem?_cons_zero]; rfl)) (by kernel_rfl) ⟨_, (by (intro w' hC; clear hC; (try go_simp); (try with_reducible rfl); done)), _, (by (simp only [Act.put, List.setIfInBounds_toArray, List.set_cons_zero, List.set_cons_succ]; rfl)), ?_⟩
            refine pl_val (by (simp only [List.getElem?_toArray, List.getElem?_cons_succ, List.getElem?_cons_zero]; rfl)) (by kernel_rfl) ⟨_, (by (intro w' hC; have o0 := (x1.fr hC (by omega)).cell 0; have o1 := (x1.fr hC (by omega)).cell 1; have o2 := (x1.fr hC (by omega)).cell 2; have o3 := (x1.fr hC (by omega)).cell 3; have o4 := (x1.fr hC (by omega)).cell 4; simp only [List.getElem?_toArray, List.getElem?_cons_zero, List.getElem?_cons_succ] at o0 o1 o2 o3 o4; clear hC; (try go_simp); (try with_reducible rfl); done)), _, (by (simp only [Act.put, List.setIfInBounds_toArray, List.set_cons_zero, List.set_cons_succ]; rfl)), ?_⟩
            refine pl_one (by (simp only [List.getElem?_toArray, List.getElem?_cons_succ, List.getElem?_cons_zero]; rfl)) (Fr.refl _ w1).drew ?_
            refine al_call (by kernel_rfl) (by go_simp; done) (refNew_any 0 w1.drew) ?_
            rintro e w2 ⟨rfl, hb2⟩
            replace hb2 : Below w1.heap.size w1 w2 := hC0.trans (hb2.mono (Nat.le_refl _))
            refine ⟨_, rfl, _, (by (simp only [Act.put, List.setIfInBounds_toArray, List.set_cons_zero, List.set_cons_succ]; rfl)), ?_⟩
            refine pl_one (by (simp only [List.getElem?_toArray, List.getElem?_cons_succ, List.getElem?_cons_zero]; rfl)) (Fr.of_below hb2 _) ?_
            refine al_call (by kernel_rfl) (by go_simp; done) (HDO.out w2 hb2) ?_
            rintro e w3 ⟨v3, rfl, _, ⟨L3, hd3⟩, hf3⟩
            have hw3 : Below w.heap.size w w3 := (hw1.trans (hb2.mono hw1.size)).trans (hf3.below (B := w.heap.size) (hw1.trans (hb2.mono hw1.size)).size (fun k hk e => by rcases e with rfl | rfl <;> omega))
            have KP3 : Hid (KpRel w tb mb yl (i + 1) w3) := Lib.hid ⟨⟨_, L3, HOK.out.step o hn63, HKE.out.step HOK.out o hno, hd3⟩, hw3⟩
            refine ⟨_, rfl, _, (by (simp only [Act.put, List.setIfInBounds_toArray, List.set_cons_zero, List.set_cons_succ]; rfl)), ?_⟩
            refine pl_end ((Fr.of_below hb2 _).trans hf3 (fun _ _ e => e)) ?_
            simp only [Plan.count, Nat.reduceAdd, List.drop_succ_cons, List.drop_zero]
            clear HDO hC0 hb2 hd3 hf3 HD HOK HOO HOS HKE x1
            go_wp2_with fail
            go_roundw
            case rel => exact ⟨i + 1, hlt, by go_num, KP3.out⟩
            case measure => simp [intOf]; omega
        · have e : i = l.length := by omega
          subst e
          have HC := crash_any tb mb L D (l.length + 1) none 0 [] (fun b => ¬ (b = tb ∨ b = mb)) wr hd hok (by omega) ⟨Rd.nil, by simp⟩ (fun _ _ hz => hz)
          have hke2 := hke.crash hok []
          have hok2 := hok.crash []
          obtain ⟨x, s, hg, hpre, hs⟩ := hke2
          have hrd : readS (crashS D []) 1 = (x, 0) := by
            have ha : askS (crashS D []) 1 = 0 := by
              unfold askS
              rw [if_neg (show ¬ ((crashS D []).left = 0) from by show ¬ ((-1 : Int) = 0); decide), hg]
              simp
            unfold readS fileS
            rw [if_neg (by simpa using ha), hg]
            rfl
          generalize crashS D [] = D2 at *
          have HOK2 := Lib.hid hok2
          have HRD := Lib.hid hrd
          have HPR := Lib.hid hpre
          replace HC := Lib.hid HC
          clear hd hok hke hok2 hrd hpre hg hs
          go_wp2_with fail
          refine HC.out.mono ?_
          rintro e w6 ⟨rfl, h6⟩
          have hw6 := hwr.trans (h6.low ltb lmb hwr.size)
          obtain ⟨L6, hd6⟩ := h6.at_
          have HR := read_any tb mb L6 D2 (l.length + 1) 1 w6 hd6 HOK2.out wf1
          rw [HRD.out] at HR
          replace HR := Lib.hid HR
          clear HC hd6 h6 HRD
          go_wp2_with fail
          refine HR.out.mono ?_
          rintro e w7 ⟨A7, c7, l7, rfl, hl7, ho7, hb7⟩
          have hw7 := hw6.trans (hb7.mono hw6.size)
          have hpre : yl <+: l7 := by rw [show l7 = x from hl7.out]; exact HPR.out
          have hle := hpre.length_le
          have htk : l7.take yl.length = yl := (List.prefix_iff_eq_take.1 hpre).symm
          have hroom := (Row.of_own ho7).room
          have HSH := Lib.hid (fun W => bytes_slice_head A7 l7.length c7 yl.length (by omega) W)
          have hsh := HSH.out
          have HSM := refSame_any A7 yA c7 yc (l7.take yl.length) yl _ _ w7 (by
            have := ho7.rd.take (k := yl.length) hle
            unfold By
            rw [List.length_take, Nat.min_eq_left hle, List.map_take]
            simpa using this) (HY.out.below hw7).1
          rw [htk] at HSM
          rw [show (yl == yl) = true by simp] at HSM
          replace HSM := Lib.hid HSM
          have hge : decide ((yl.length : Int) ≤ (l7.length : Int)) = true := decide_eq_true (by omega)
          clear HR hl7 ho7 hb7 HPR hpre htk
          go_wp2_with fail
          refine HSM.out.mono ?_
          rintro e w8 ⟨rfl, rfl⟩
          go_wp2_with fail
          refine (lives11_any _).mono ?_
          rintro e w9 ⟨rfl, hb9⟩
          go_wp2_with fail
          go_ret
          exact ⟨rfl, hw7.trans (hb9.mono hw7.size)⟩

end Go.Proofs.Ytmdbfhfjaapeoaa

/- tenderlaw11.Op: as an argument, in slices. -/
namespace Go.Proofs.Ytmdbfhfjaapeoaa
open Go.RowKit Go.WideShapes Go.ChangeShapes Go.ChangeAt Go.Deep Go.Joins

section
variable {H : Type} {enc : TypeId × Value → H} {w : World} {spare : Nat → Bool} {held : Bool}
theorem listD5 {α : Type} {l : List α} (h : l.length = 5) : ∃ a0 a1 a2 a3 a4, l = [a0, a1, a2, a3, a4] := by
  match l, h with
  | [a0, a1, a2, a3, a4], _ => exact ⟨_, _, _, _, _, rfl⟩
theorem listD2 {α : Type} {l : List α} (h : l.length = 2) : ∃ a0 a1, l = [a0, a1] := by
  match l, h with
  | [a0, a1], _ => exact ⟨_, _, rfl⟩
set_option maxRecDepth 100000 in
theorem open_keepD {n : Nat} {cs : List Value} {x : DataW H × List MemPlace} (h : DataW.trod enc Try.prog w 0 spare held n 61 cs = some x) (hw : Within 61 x) :
    ∃ o : Int × Int, cs = keepC o ∧ True := by
  obtain ⟨ys, n', hcl, hyl, hf⟩ := open_st Try.underlying61 (by kernel_rfl) h (by kernel_rfl) hw
  obtain ⟨a0, a1, rfl⟩ := listD2 hcl
  obtain ⟨y0, y1, rfl⟩ := listD2 hyl
  obtain ⟨k, e, _, wk⟩ := DataW.trod_int Try.underlying3 (hf 0 _ _ _ rfl rfl rfl).1
  obtain rfl := List.singleton_inj.1 e
  obtain ⟨m, e, _, wm⟩ := DataW.trod_int Try.underlying3 (hf 1 _ _ _ rfl rfl rfl).1
  obtain rfl := List.singleton_inj.1 e
  exact ⟨(k, m), rfl, trivial⟩
set_option maxRecDepth 100000 in
theorem open_opD {n : Nat} {cs : List Value} {x : DataW H × List MemPlace} (h : DataW.trod enc Try.prog w 0 spare held n 35 cs = some x) (hw : Within 35 x) :
    ∃ o : OpD, cs = o.cells ∧ o.ok w (fun b => b < w.heap.size) := by
  obtain ⟨ys, n', hcl, hyl, hf⟩ := open_st Try.underlying35 (by kernel_rfl) h (by kernel_rfl) hw
  obtain ⟨a0, a1, a2, a3, a4, rfl⟩ := listD5 hcl
  obtain ⟨y0, y1, y2, y3, y4, rfl⟩ := listD5 hyl
  obtain ⟨k, e, _, wk⟩ := DataW.trod_int Try.underlying3 (hf 0 _ _ _ rfl rfl rfl).1
  obtain rfl := List.singleton_inj.1 e
  obtain ⟨m, e, _, wm⟩ := DataW.trod_int Try.underlying3 (hf 1 _ _ _ rfl rfl rfl).1
  obtain rfl := List.singleton_inj.1 e
  obtain ⟨q, e, _, wq⟩ := DataW.trod_int Try.underlying3 (hf 2 _ _ _ rfl rfl rfl).1
  obtain rfl := List.singleton_inj.1 e
  obtain ⟨b, rfl, hb, hbl⟩ := open_bv (hf 3 _ _ _ rfl rfl rfl).1 (hf 3 _ _ _ rfl rfl rfl).2
  obtain ⟨kA, kc, kl, rfl, _, _, hk1, hk2, hk3⟩ := open_sl (w := w) (enc := enc) (spare := spare) (held := held) keepC _ 2 16 (t := 33) (e := 61) Try.underlying33 (by kernel_rfl) (by kernel_rfl) (by omega) (fun n cs x hx hx2 => open_keepD hx hx2) (hf 4 _ _ _ rfl rfl rfl).1 (hf 4 _ _ _ rfl rfl rfl).2
  have hrb := reachBytes_lt
  exact ⟨⟨k, m, q, b, kA, kc, kl⟩, rfl, i64_bd wk, i64_bd wm, i64_bd wq, hb, hbl, hk1, by dsimp only; omega⟩
set_option maxRecDepth 100000 in
theorem open_opDv {r : Reach} {b0 : Nat} {v : Value} {d : DataW H} {p : List MemPlace} (hv : Value.okWide Try.prog w r b0 35 v) (h : DataW.Trod enc Try.prog w 0 spare held 35 v d p) (hw : Within 35 (d, p)) :
    ∃ o : OpD, v = .agg #[.int .i64 o.kind, .int .i64 o.file, .int .i64 o.n, .slice o.x.A o.x.l.length o.x.c, .slice o.kA o.K.length o.kc] ∧ o.ok w (fun b => b < w.heap.size) := by
  obtain ⟨cs, rfl, hsz⟩ := okWide_struct Try.underlying35 hv
  obtain ⟨l⟩ := cs
  obtain ⟨n, hn⟩ := h
  obtain ⟨o, e, ho⟩ := open_opD (cs := l) hn hw
  subst e
  exact ⟨o, rfl, ho⟩
set_option maxRecDepth 100000 in
theorem open_opsD {n : Nat} {v : Value} {x : DataW H × List MemPlace} (h : DataW.trod enc Try.prog w 0 spare held n 22 [v] = some x) (hw : Within 22 x) :
    ∃ (A : Option Addr) (c : Nat) (l : List OpD), v = .slice A l.length c ∧ OpsD w (fun b => b < w.heap.size) A l := by
  obtain ⟨A, c, l, rfl, _, _, h3, h4, h5⟩ := open_sl (w := w) (enc := enc) (spare := spare) (held := held) OpD.cells (fun o => o.ok w (fun b => b < w.heap.size)) 5 72 (t := 22) (e := 35) Try.underlying22 (by kernel_rfl) (by kernel_rfl) (by omega) (fun n cs x hx hx2 => open_opD hx hx2) h hw
  refine ⟨A, c, l, rfl, h3, h4, ?_⟩
  have := reachBytes_lt
  omega
end
end Go.Proofs.Ytmdbfhfjaapeoaa
