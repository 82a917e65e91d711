/- tenderref42: Common, Turns. -/
import Derived.Test.YtdnljmncdbcgeaaGreatA13
import Derived.ChangeMaps5

namespace Go.Proofs.YtdnljmncdbcgeaaGreat
open Go.RowKit Go.Maps

def cameM (MS : List MO) (side : Int) (p : List UInt8) (j : Nat) : Bool := !(at0 (plainL (rowM MS side (j : Int))) p == at0 (plainL (rowM MS side ((j : Int) - 1))) p)

set_option maxRecDepth 100000 in
set_option maxHeartbeats 4000000 in
theorem refCommon_any (WA : Option Addr) (wc : Nat) (MS : List MO) (p : List UInt8) (k2 : Int) (A2 : Option Addr) (c2 : Nat) (l2 : List UInt8) (Z : Nat → Prop) (a b : Int) (w : World) (h : MosR w WA MS) (hp : p.length ≤ 1048576) (hn : MS.length ≤ 1000) (hy : By w Z A2 l2) :
    Calls Tryz.prog 15 #[.slice WA MS.length wc, .string ⟨⟨p⟩⟩, .agg #[.int .i64 k2, .slice A2 l2.length c2], .int .i64 a, .int .i64 b] w fun e w' => e = .returned (.bool (someG (bothM MS p (k2, l2)) MS.length a b)) ∧ Below w.heap.size w w' := by
  have hb0 : Below w.heap.size w (w.alloc (.cells #[.int .i64 k2, .slice A2 l2.length c2] 25)) := (Below.refl _ _).alloc (Nat.le_refl _) _
  have hk0 := Blk.new w 25 #[.int .i64 k2, .slice A2 l2.length c2]
  have HM := Lib.hid (h.below hb0)
  have HY := Lib.hid (hy.below hb0)
  obtain ⟨lb, hlb⟩ : ∃ lb, lb = w.heap.size := ⟨_, rfl⟩
  rw [← hlb] at hk0
  have HK := Lib.hid hk0
  obtain ⟨V, hV⟩ : ∃ V, V = someG (bothM MS p (k2, l2)) MS.length a b := ⟨_, rfl⟩
  rw [← hV]
  have HV := Lib.hid hV
  clear h hy hV hk0
  go_enter Tryz.func15, Tryz.ntmps15
  go_upto_region 1 with (fail)
  rw [← hlb]
  clear hlb
  generalize w.alloc (.cells #[.int .i64 k2, .slice A2 l2.length c2] 25) = w0 at *
  go_wp2_with fail
  go_loopw [11] (fun iv wr => ∃ i : Nat, i ≤ MS.length ∧ iv = .int .i64 (i : Int) ∧ Hid (∀ j : Nat, j < i → a ≤ (j : Int) → (j : Int) < b → bothM MS p (k2, l2) j = false) ∧ Below w0.heap.size w0 wr) (fun iv _ => MS.length - (intOf iv).toNat)
  case atStart => exact ⟨0, Nat.zero_le _, rfl, Lib.hid (fun j hj => by omega), Below.refl _ _⟩
  case round =>
    obtain ⟨i, hi, rfl, hs, hb⟩ := hrel
    have hwr := hb0.trans (hb.mono hb0.size)
    by_cases hlt : i < MS.length
    · have hyx := HY.out.below hb
      obtain ⟨k11, A11, c11, l11, ha1, hy1, hat1⟩ := refLeaf wc (HM.out.below hb) 1 p (i : Int) hp hn
      have HAT1 := Lib.hid hat1
      have HSM1 := Lib.hid (fun W (hW : Below wr.heap.size wr W) => leafSameR_any k11 k2 A11 A2 c11 c2 l11 l2 _ _ W (hy1.below hW) (hyx.below hW))
      obtain ⟨sm1, hsm1⟩ : ∃ sm1, sm1 = (k11 == k2 && l11 == l2) := ⟨_, rfl⟩
      rw [← hsm1] at HSM1
      have HSE1 : Hid (seenM MS 1 p (k2, l2) i = sm1) := Lib.hid (by unfold seenM; rw [ha1.out, hsm1]; rfl)
      clear hat1 hy1 hsm1 ha1
      obtain ⟨k21, A21, c21, l21, ha2, hy2, hat2⟩ := refLeaf wc (HM.out.below hb) 2 p (i : Int) hp hn
      have HAT2 := Lib.hid hat2
      have HSM2 := Lib.hid (fun W (hW : Below wr.heap.size wr W) => leafSameR_any k21 k2 A21 A2 c21 c2 l21 l2 _ _ W (hy2.below hW) (hyx.below hW))
      obtain ⟨sm2, hsm2⟩ : ∃ sm2, sm2 = (k21 == k2 && l21 == l2) := ⟨_, rfl⟩
      rw [← hsm2] at HSM2
      have HSE2 : Hid (seenM MS 2 p (k2, l2) i = sm2) := Lib.hid (by unfold seenM; rw [ha2.out, hsm2]; rfl)
      clear hat2 hy2 hsm2 ha2
      clear hyx
      by_cases h1 : a ≤ (i : Int)
      · have d1 : decide (a ≤ (i : Int)) = true := decide_eq_true h1
        by_cases h2 : (i : Int) < b
        · have d2 : decide ((i : Int) < b) = true := decide_eq_true h2
          rcases sm1 with _ | _
          · have HN : Hid (∀ j : Nat, j < i + 1 → a ≤ (j : Int) → (j : Int) < b → bothM MS p (k2, l2) j = false) := Lib.hid (fun j hj h3 h4 => by
              by_cases e : j = i
              · rw [e]; unfold bothM; rw [HSE1.out]; rfl
              · exact hs.out j (by omega) h3 h4)
            go_wp2_with fail
            refine wp_region_b 24 (by kernel_rfl) (by kernel_rfl) ?_
            simp only [List.take_succ_cons, List.take_zero, List.drop_succ_cons, List.drop_zero]
            refine lb_move _ (by kernel_rfl) rfl ⟨_, (by ((try simp [go_sem]); (try rfl); done)), _, (by (simp only [Act.put, List.setIfInBounds_toArray, List.set_cons_zero, List.set_cons_succ]; rfl)), ?_⟩
            refine lb_move _ (by kernel_rfl) rfl ⟨_, (by ((try simp [go_sem]); (try rfl); done)), _, (by (simp only [Act.put, List.setIfInBounds_toArray, List.set_cons_zero, List.set_cons_succ]; rfl)), ?_⟩
            refine lb_val (by kernel_rfl) ⟨_, (by (intro w' hC; clear hC; (try go_simp); (try with_reducible rfl); done)), _, (by (simp only [Act.put, List.setIfInBounds_toArray, List.set_cons_zero, List.set_cons_succ]; rfl)), ?_⟩
            refine lb_move _ (by kernel_rfl) rfl ⟨_, (by ((try simp [go_sem]); (try rfl); done)), _, (by (simp only [Act.put, List.setIfInBounds_toArray, List.set_cons_zero, List.set_cons_succ]; rfl)), ?_⟩
            first | (refine lb_skip (by rfl) ⟨_, (by (simp only [Act.put, List.setIfInBounds_toArray, List.set_cons_zero, List.set_cons_succ]; rfl)), ?_⟩) | (refine lb_move _ (by kernel_rfl) rfl ⟨_, (by ((try simp [go_sem]); (try rfl); done)), _, (by (simp only [Act.put, List.setIfInBounds_toArray, List.set_cons_zero, List.set_cons_succ]; rfl)), ?_⟩)
            first | (refine lb_skip (by rfl) ⟨_, (by (simp only [Act.put, List.setIfInBounds_toArray, List.set_cons_zero, List.set_cons_succ]; rfl)), ?_⟩) | (refine lb_move _ (by kernel_rfl) rfl ⟨_, (by ((try simp [go_sem]); (try rfl); done)), _, (by (simp only [Act.put, List.setIfInBounds_toArray, List.set_cons_zero, List.set_cons_succ]; rfl)), ?_⟩)
            first | (refine lb_skip (by rfl) ⟨_, (by (simp only [Act.put, List.setIfInBounds_toArray, List.set_cons_zero, List.set_cons_succ]; rfl)), ?_⟩) | (refine lb_val (by kernel_rfl) ⟨_, (by (intro w' hC; clear hC; (try go_simp); (try with_reducible rfl); done)), _, (by (simp only [Act.put, List.setIfInBounds_toArray, List.set_cons_zero, List.set_cons_succ]; rfl)), ?_⟩)
            refine lb_val (by kernel_rfl) ⟨_, (by (intro w' hC; clear hC; (try go_simp); (try with_reducible rfl); done)), _, (by (simp only [Act.put, List.setIfInBounds_toArray, List.set_cons_zero, List.set_cons_succ]; rfl)), ?_⟩
            refine lb_move _ (by kernel_rfl) rfl ⟨_, (by ((try simp [go_sem]); (try rfl); done)), _, (by (simp only [Act.put, List.setIfInBounds_toArray, List.set_cons_zero, List.set_cons_succ]; rfl)), ?_⟩
            first | (refine lb_skip (by rfl) ⟨_, (by (simp only [Act.put, List.setIfInBounds_toArray, List.set_cons_zero, List.set_cons_succ]; rfl)), ?_⟩) | (refine lb_move _ (by kernel_rfl) rfl ⟨_, (by ((try simp [go_sem]); (try rfl); done)), _, (by (simp only [Act.put, List.setIfInBounds_toArray, List.set_cons_zero, List.set_cons_succ]; rfl)), ?_⟩)
            first | (refine lb_skip (by rfl) ⟨_, (by (simp only [Act.put, List.setIfInBounds_toArray, List.set_cons_zero, List.set_cons_succ]; rfl)), ?_⟩) | (refine lb_move _ (by kernel_rfl) rfl ⟨_, (by ((try simp [go_sem]); (try rfl); done)), _, (by (simp only [Act.put, List.setIfInBounds_toArray, List.set_cons_zero, List.set_cons_succ]; rfl)), ?_⟩)
            first | (refine lb_skip (by rfl) ⟨_, (by (simp only [Act.put, List.setIfInBounds_toArray, List.set_cons_zero, List.set_cons_succ]; rfl)), ?_⟩) | (refine lb_move _ (by kernel_rfl) rfl ⟨_, (by ((try simp [go_sem]); (try rfl); done)), _, (by (simp only [Act.put, List.setIfInBounds_toArray, List.set_cons_zero, List.set_cons_succ]; rfl)), ?_⟩)
            first | (refine lb_skip (by rfl) ⟨_, (by (simp only [Act.put, List.setIfInBounds_toArray, List.set_cons_zero, List.set_cons_succ]; rfl)), ?_⟩) | (refine lb_call (by kernel_rfl) (fun w' hC => HAT1.out w' hC) (by (intro w'; go_simp; done)) ⟨_, (by (simp only [Act.put, List.setIfInBounds_toArray, List.set_cons_zero, List.set_cons_succ]; rfl)), ?_⟩)
            first | (refine lb_skip (by rfl) ⟨_, (by (simp only [Act.put, List.setIfInBounds_toArray, List.set_cons_zero, List.set_cons_succ]; rfl)), ?_⟩) | (refine lb_val (by kernel_rfl) ⟨_, (by (intro w' hC; (have y0 := ((HK.out.below hb).below hC).cell 0; have y1 := ((HK.out.below hb).below hC).cell 1; simp only [List.getElem?_toArray, List.getElem?_cons_zero, List.getElem?_cons_succ] at y0 y1); clear hC; (try go_simp); (try with_reducible rfl); done)), _, (by (simp only [Act.put, List.setIfInBounds_toArray, List.set_cons_zero, List.set_cons_succ]; rfl)), ?_⟩)
            first | (refine lb_skip (by rfl) ⟨_, (by (simp only [Act.put, List.setIfInBounds_toArray, List.set_cons_zero, List.set_cons_succ]; rfl)), ?_⟩) | (refine lb_call (by kernel_rfl) (fun w' hC => HSM1.out w' hC) (by (intro w'; go_simp; done)) ⟨_, (by (simp only [Act.put, List.setIfInBounds_toArray, List.set_cons_zero, List.set_cons_succ]; rfl)), ?_⟩)
            refine lb_val (by kernel_rfl) ⟨_, (by (intro w' hC; clear hC; (try go_simp); (try with_reducible rfl); done)), _, (by (simp only [Act.put, List.setIfInBounds_toArray, List.set_cons_zero, List.set_cons_succ]; rfl)), ?_⟩
            refine lb_move _ (by kernel_rfl) rfl ⟨_, (by ((try simp [go_sem]); (try rfl); done)), _, (by (simp only [Act.put, List.setIfInBounds_toArray, List.set_cons_zero, List.set_cons_succ]; rfl)), ?_⟩
            first | (refine lb_skip (by rfl) ⟨_, (by (simp only [Act.put, List.setIfInBounds_toArray, List.set_cons_zero, List.set_cons_succ]; rfl)), ?_⟩) | (refine lb_move _ (by kernel_rfl) rfl ⟨_, (by ((try simp [go_sem]); (try rfl); done)), _, (by (simp only [Act.put, List.setIfInBounds_toArray, List.set_cons_zero, List.set_cons_succ]; rfl)), ?_⟩)
            first | (refine lb_skip (by rfl) ⟨_, (by (simp only [Act.put, List.setIfInBounds_toArray, List.set_cons_zero, List.set_cons_succ]; rfl)), ?_⟩) | (refine lb_move _ (by kernel_rfl) rfl ⟨_, (by ((try simp [go_sem]); (try rfl); done)), _, (by (simp only [Act.put, List.setIfInBounds_toArray, List.set_cons_zero, List.set_cons_succ]; rfl)), ?_⟩)
            first | (refine lb_skip (by rfl) ⟨_, (by (simp only [Act.put, List.setIfInBounds_toArray, List.set_cons_zero, List.set_cons_succ]; rfl)), ?_⟩) | (refine lb_move _ (by kernel_rfl) rfl ⟨_, (by ((try simp [go_sem]); (try rfl); done)), _, (by (simp only [Act.put, List.setIfInBounds_toArray, List.set_cons_zero, List.set_cons_succ]; rfl)), ?_⟩)
            first | (refine lb_skip (by rfl) ⟨_, (by (simp only [Act.put, List.setIfInBounds_toArray, List.set_cons_zero, List.set_cons_succ]; rfl)), ?_⟩) | (refine lb_call (by kernel_rfl) (fun w' hC => HAT2.out w' hC) (by (intro w'; go_simp; done)) ⟨_, (by (simp only [Act.put, List.setIfInBounds_toArray, List.set_cons_zero, List.set_cons_succ]; rfl)), ?_⟩)
            first | (refine lb_skip (by rfl) ⟨_, (by (simp only [Act.put, List.setIfInBounds_toArray, List.set_cons_zero, List.set_cons_succ]; rfl)), ?_⟩) | (refine lb_val (by kernel_rfl) ⟨_, (by (intro w' hC; (have y0 := ((HK.out.below hb).below hC).cell 0; have y1 := ((HK.out.below hb).below hC).cell 1; simp only [List.getElem?_toArray, List.getElem?_cons_zero, List.getElem?_cons_succ] at y0 y1); clear hC; (try go_simp); (try with_reducible rfl); done)), _, (by (simp only [Act.put, List.setIfInBounds_toArray, List.set_cons_zero, List.set_cons_succ]; rfl)), ?_⟩)
            first | (refine lb_skip (by rfl) ⟨_, (by (simp only [Act.put, List.setIfInBounds_toArray, List.set_cons_zero, List.set_cons_succ]; rfl)), ?_⟩) | (refine lb_call (by kernel_rfl) (fun w' hC => HSM2.out w' hC) (by (intro w'; go_simp; done)) ⟨_, (by (simp only [Act.put, List.setIfInBounds_toArray, List.set_cons_zero, List.set_cons_succ]; rfl)), ?_⟩)
            refine lb_val (by kernel_rfl) ⟨_, (by (intro w' hC; clear hC; (try go_simp); (try with_reducible rfl); done)), _, (by (simp only [Act.put, List.setIfInBounds_toArray, List.set_cons_zero, List.set_cons_succ]; rfl)), ?_⟩
            refine .nil ?_
            intro w2 hb2
            have hw2 := hb.trans (hb2.mono hb.size)
            go_wp2_with fail
            go_roundw
            case rel => exact ⟨i + 1, hlt, by go_num, HN, hw2⟩
            case measure => simp [intOf]; omega
          · rcases sm2 with _ | _
            · have HN : Hid (∀ j : Nat, j < i + 1 → a ≤ (j : Int) → (j : Int) < b → bothM MS p (k2, l2) j = false) := Lib.hid (fun j hj h3 h4 => by
                by_cases e : j = i
                · rw [e]; unfold bothM; rw [HSE1.out, HSE2.out]; rfl
                · exact hs.out j (by omega) h3 h4)
              go_wp2_with fail
              refine wp_region_b 24 (by kernel_rfl) (by kernel_rfl) ?_
              simp only [List.take_succ_cons, List.take_zero, List.drop_succ_cons, List.drop_zero]
              refine lb_move _ (by kernel_rfl) rfl ⟨_, (by ((try simp [go_sem]); (try rfl); done)), _, (by (simp only [Act.put, List.setIfInBounds_toArray, List.set_cons_zero, List.set_cons_succ]; rfl)), ?_⟩
              refine lb_move _ (by kernel_rfl) rfl ⟨_, (by ((try simp [go_sem]); (try rfl); done)), _, (by (simp only [Act.put, List.setIfInBounds_toArray, List.set_cons_zero, List.set_cons_succ]; rfl)), ?_⟩
              refine lb_val (by kernel_rfl) ⟨_, (by (intro w' hC; clear hC; (try go_simp); (try with_reducible rfl); done)), _, (by (simp only [Act.put, List.setIfInBounds_toArray, List.set_cons_zero, List.set_cons_succ]; rfl)), ?_⟩
              refine lb_move _ (by kernel_rfl) rfl ⟨_, (by ((try simp [go_sem]); (try rfl); done)), _, (by (simp only [Act.put, List.setIfInBounds_toArray, List.set_cons_zero, List.set_cons_succ]; rfl)), ?_⟩
              first | (refine lb_skip (by rfl) ⟨_, (by (simp only [Act.put, List.setIfInBounds_toArray, List.set_cons_zero, List.set_cons_succ]; rfl)), ?_⟩) | (refine lb_move _ (by kernel_rfl) rfl ⟨_, (by ((try simp [go_sem]); (try rfl); done)), _, (by (simp only [Act.put, List.setIfInBounds_toArray, List.set_cons_zero, List.set_cons_succ]; rfl)), ?_⟩)
              first | (refine lb_skip (by rfl) ⟨_, (by (simp only [Act.put, List.setIfInBounds_toArray, List.set_cons_zero, List.set_cons_succ]; rfl)), ?_⟩) | (refine lb_move _ (by kernel_rfl) rfl ⟨_, (by ((try simp [go_sem]); (try rfl); done)), _, (by (simp only [Act.put, List.setIfInBounds_toArray, List.set_cons_zero, List.set_cons_succ]; rfl)), ?_⟩)
              first | (refine lb_skip (by rfl) ⟨_, (by (simp only [Act.put, List.setIfInBounds_toArray, List.set_cons_zero, List.set_cons_succ]; rfl)), ?_⟩) | (refine lb_val (by kernel_rfl) ⟨_, (by (intro w' hC; clear hC; (try go_simp); (try with_reducible rfl); done)), _, (by (simp only [Act.put, List.setIfInBounds_toArray, List.set_cons_zero, List.set_cons_succ]; rfl)), ?_⟩)
              refine lb_val (by kernel_rfl) ⟨_, (by (intro w' hC; clear hC; (try go_simp); (try with_reducible rfl); done)), _, (by (simp only [Act.put, List.setIfInBounds_toArray, List.set_cons_zero, List.set_cons_succ]; rfl)), ?_⟩
              refine lb_move _ (by kernel_rfl) rfl ⟨_, (by ((try simp [go_sem]); (try rfl); done)), _, (by (simp only [Act.put, List.setIfInBounds_toArray, List.set_cons_zero, List.set_cons_succ]; rfl)), ?_⟩
              first | (refine lb_skip (by rfl) ⟨_, (by (simp only [Act.put, List.setIfInBounds_toArray, List.set_cons_zero, List.set_cons_succ]; rfl)), ?_⟩) | (refine lb_move _ (by kernel_rfl) rfl ⟨_, (by ((try simp [go_sem]); (try rfl); done)), _, (by (simp only [Act.put, List.setIfInBounds_toArray, List.set_cons_zero, List.set_cons_succ]; rfl)), ?_⟩)
              first | (refine lb_skip (by rfl) ⟨_, (by (simp only [Act.put, List.setIfInBounds_toArray, List.set_cons_zero, List.set_cons_succ]; rfl)), ?_⟩) | (refine lb_move _ (by kernel_rfl) rfl ⟨_, (by ((try simp [go_sem]); (try rfl); done)), _, (by (simp only [Act.put, List.setIfInBounds_toArray, List.set_cons_zero, List.set_cons_succ]; rfl)), ?_⟩)
              first | (refine lb_skip (by rfl) ⟨_, (by (simp only [Act.put, List.setIfInBounds_toArray, List.set_cons_zero, List.set_cons_succ]; rfl)), ?_⟩) | (refine lb_move _ (by kernel_rfl) rfl ⟨_, (by ((try simp [go_sem]); (try rfl); done)), _, (by (simp only [Act.put, List.setIfInBounds_toArray, List.set_cons_zero, List.set_cons_succ]; rfl)), ?_⟩)
              first | (refine lb_skip (by rfl) ⟨_, (by (simp only [Act.put, List.setIfInBounds_toArray, List.set_cons_zero, List.set_cons_succ]; rfl)), ?_⟩) | (refine lb_call (by kernel_rfl) (fun w' hC => HAT1.out w' hC) (by (intro w'; go_simp; done)) ⟨_, (by (simp only [Act.put, List.setIfInBounds_toArray, List.set_cons_zero, List.set_cons_succ]; rfl)), ?_⟩)
              first | (refine lb_skip (by rfl) ⟨_, (by (simp only [Act.put, List.setIfInBounds_toArray, List.set_cons_zero, List.set_cons_succ]; rfl)), ?_⟩) | (refine lb_val (by kernel_rfl) ⟨_, (by (intro w' hC; (have y0 := ((HK.out.below hb).below hC).cell 0; have y1 := ((HK.out.below hb).below hC).cell 1; simp only [List.getElem?_toArray, List.getElem?_cons_zero, List.getElem?_cons_succ] at y0 y1); clear hC; (try go_simp); (try with_reducible rfl); done)), _, (by (simp only [Act.put, List.setIfInBounds_toArray, List.set_cons_zero, List.set_cons_succ]; rfl)), ?_⟩)
              first | (refine lb_skip (by rfl) ⟨_, (by (simp only [Act.put, List.setIfInBounds_toArray, List.set_cons_zero, List.set_cons_succ]; rfl)), ?_⟩) | (refine lb_call (by kernel_rfl) (fun w' hC => HSM1.out w' hC) (by (intro w'; go_simp; done)) ⟨_, (by (simp only [Act.put, List.setIfInBounds_toArray, List.set_cons_zero, List.set_cons_succ]; rfl)), ?_⟩)
              refine lb_val (by kernel_rfl) ⟨_, (by (intro w' hC; clear hC; (try go_simp); (try with_reducible rfl); done)), _, (by (simp only [Act.put, List.setIfInBounds_toArray, List.set_cons_zero, List.set_cons_succ]; rfl)), ?_⟩
              refine lb_move _ (by kernel_rfl) rfl ⟨_, (by ((try simp [go_sem]); (try rfl); done)), _, (by (simp only [Act.put, List.setIfInBounds_toArray, List.set_cons_zero, List.set_cons_succ]; rfl)), ?_⟩
              first | (refine lb_skip (by rfl) ⟨_, (by (simp only [Act.put, List.setIfInBounds_toArray, List.set_cons_zero, List.set_cons_succ]; rfl)), ?_⟩) | (refine lb_move _ (by kernel_rfl) rfl ⟨_, (by ((try simp [go_sem]); (try rfl); done)), _, (by (simp only [Act.put, List.setIfInBounds_toArray, List.set_cons_zero, List.set_cons_succ]; rfl)), ?_⟩)
              first | (refine lb_skip (by rfl) ⟨_, (by (simp only [Act.put, List.setIfInBounds_toArray, List.set_cons_zero, List.set_cons_succ]; rfl)), ?_⟩) | (refine lb_move _ (by kernel_rfl) rfl ⟨_, (by ((try simp [go_sem]); (try rfl); done)), _, (by (simp only [Act.put, List.setIfInBounds_toArray, List.set_cons_zero, List.set_cons_succ]; rfl)), ?_⟩)
              first | (refine lb_skip (by rfl) ⟨_, (by (simp only [Act.put, List.setIfInBounds_toArray, List.set_cons_zero, List.set_cons_succ]; rfl)), ?_⟩) | (refine lb_move _ (by kernel_rfl) rfl ⟨_, (by ((try simp [go_sem]); (try rfl); done)), _, (by (simp only [Act.put, List.setIfInBounds_toArray, List.set_cons_zero, List.set_cons_succ]; rfl)), ?_⟩)
              first | (refine lb_skip (by rfl) ⟨_, (by (simp only [Act.put, List.setIfInBounds_toArray, List.set_cons_zero, List.set_cons_succ]; rfl)), ?_⟩) | (refine lb_call (by kernel_rfl) (fun w' hC => HAT2.out w' hC) (by (intro w'; go_simp; done)) ⟨_, (by (simp only [Act.put, List.setIfInBounds_toArray, List.set_cons_zero, List.set_cons_succ]; rfl)), ?_⟩)
              first | (refine lb_skip (by rfl) ⟨_, (by (simp only [Act.put, List.setIfInBounds_toArray, List.set_cons_zero, List.set_cons_succ]; rfl)), ?_⟩) | (refine lb_val (by kernel_rfl) ⟨_, (by (intro w' hC; (have y0 := ((HK.out.below hb).below hC).cell 0; have y1 := ((HK.out.below hb).below hC).cell 1; simp only [List.getElem?_toArray, List.getElem?_cons_zero, List.getElem?_cons_succ] at y0 y1); clear hC; (try go_simp); (try with_reducible rfl); done)), _, (by (simp only [Act.put, List.setIfInBounds_toArray, List.set_cons_zero, List.set_cons_succ]; rfl)), ?_⟩)
              first | (refine lb_skip (by rfl) ⟨_, (by (simp only [Act.put, List.setIfInBounds_toArray, List.set_cons_zero, List.set_cons_succ]; rfl)), ?_⟩) | (refine lb_call (by kernel_rfl) (fun w' hC => HSM2.out w' hC) (by (intro w'; go_simp; done)) ⟨_, (by (simp only [Act.put, List.setIfInBounds_toArray, List.set_cons_zero, List.set_cons_succ]; rfl)), ?_⟩)
              refine lb_val (by kernel_rfl) ⟨_, (by (intro w' hC; clear hC; (try go_simp); (try with_reducible rfl); done)), _, (by (simp only [Act.put, List.setIfInBounds_toArray, List.set_cons_zero, List.set_cons_succ]; rfl)), ?_⟩
              refine .nil ?_
              intro w2 hb2
              have hw2 := hb.trans (hb2.mono hb.size)
              go_wp2_with fail
              go_roundw
              case rel => exact ⟨i + 1, hlt, by go_num, HN, hw2⟩
              case measure => simp [intOf]; omega
            · have hVt : V = true := by rw [HV.out]; exact some_true hlt h1 h2 (by unfold bothM; rw [HSE1.out, HSE2.out]; rfl)
              subst hVt
              go_wp2_with fail
              refine wp_region_b 24 (by kernel_rfl) (by kernel_rfl) ?_
              simp only [List.take_succ_cons, List.take_zero, List.drop_succ_cons, List.drop_zero]
              refine lb_move _ (by kernel_rfl) rfl ⟨_, (by ((try simp [go_sem]); (try rfl); done)), _, (by (simp only [Act.put, List.setIfInBounds_toArray, List.set_cons_zero, List.set_cons_succ]; rfl)), ?_⟩
              refine lb_move _ (by kernel_rfl) rfl ⟨_, (by ((try simp [go_sem]); (try rfl); done)), _, (by (simp only [Act.put, List.setIfInBounds_toArray, List.set_cons_zero, List.set_cons_succ]; rfl)), ?_⟩
              refine lb_val (by kernel_rfl) ⟨_, (by (intro w' hC; clear hC; (try go_simp); (try with_reducible rfl); done)), _, (by (simp only [Act.put, List.setIfInBounds_toArray, List.set_cons_zero, List.set_cons_succ]; rfl)), ?_⟩
              refine lb_move _ (by kernel_rfl) rfl ⟨_, (by ((try simp [go_sem]); (try rfl); done)), _, (by (simp only [Act.put, List.setIfInBounds_toArray, List.set_cons_zero, List.set_cons_succ]; rfl)), ?_⟩
              first | (refine lb_skip (by rfl) ⟨_, (by (simp only [Act.put, List.setIfInBounds_toArray, List.set_cons_zero, List.set_cons_succ]; rfl)), ?_⟩) | (refine lb_move _ (by kernel_rfl) rfl ⟨_, (by ((try simp [go_sem]); (try rfl); done)), _, (by (simp only [Act.put, List.setIfInBounds_toArray, List.set_cons_zero, List.set_cons_succ]; rfl)), ?_⟩)
              first | (refine lb_skip (by rfl) ⟨_, (by (simp only [Act.put, List.setIfInBounds_toArray, List.set_cons_zero, List.set_cons_succ]; rfl)), ?_⟩) | (refine lb_move _ (by kernel_rfl) rfl ⟨_, (by ((try simp [go_sem]); (try rfl); done)), _, (by (simp only [Act.put, List.setIfInBounds_toArray, List.set_cons_zero, List.set_cons_succ]; rfl)), ?_⟩)
              first | (refine lb_skip (by rfl) ⟨_, (by (simp only [Act.put, List.setIfInBounds_toArray, List.set_cons_zero, List.set_cons_succ]; rfl)), ?_⟩) | (refine lb_val (by kernel_rfl) ⟨_, (by (intro w' hC; clear hC; (try go_simp); (try with_reducible rfl); done)), _, (by (simp only [Act.put, List.setIfInBounds_toArray, List.set_cons_zero, List.set_cons_succ]; rfl)), ?_⟩)
              refine lb_val (by kernel_rfl) ⟨_, (by (intro w' hC; clear hC; (try go_simp); (try with_reducible rfl); done)), _, (by (simp only [Act.put, List.setIfInBounds_toArray, List.set_cons_zero, List.set_cons_succ]; rfl)), ?_⟩
              refine lb_move _ (by kernel_rfl) rfl ⟨_, (by ((try simp [go_sem]); (try rfl); done)), _, (by (simp only [Act.put, List.setIfInBounds_toArray, List.set_cons_zero, List.set_cons_succ]; rfl)), ?_⟩
              first | (refine lb_skip (by rfl) ⟨_, (by (simp only [Act.put, List.setIfInBounds_toArray, List.set_cons_zero, List.set_cons_succ]; rfl)), ?_⟩) | (refine lb_move _ (by kernel_rfl) rfl ⟨_, (by ((try simp [go_sem]); (try rfl); done)), _, (by (simp only [Act.put, List.setIfInBounds_toArray, List.set_cons_zero, List.set_cons_succ]; rfl)), ?_⟩)
              first | (refine lb_skip (by rfl) ⟨_, (by (simp only [Act.put, List.setIfInBounds_toArray, List.set_cons_zero, List.set_cons_succ]; rfl)), ?_⟩) | (refine lb_move _ (by kernel_rfl) rfl ⟨_, (by ((try simp [go_sem]); (try rfl); done)), _, (by (simp only [Act.put, List.setIfInBounds_toArray, List.set_cons_zero, List.set_cons_succ]; rfl)), ?_⟩)
              first | (refine lb_skip (by rfl) ⟨_, (by (simp only [Act.put, List.setIfInBounds_toArray, List.set_cons_zero, List.set_cons_succ]; rfl)), ?_⟩) | (refine lb_move _ (by kernel_rfl) rfl ⟨_, (by ((try simp [go_sem]); (try rfl); done)), _, (by (simp only [Act.put, List.setIfInBounds_toArray, List.set_cons_zero, List.set_cons_succ]; rfl)), ?_⟩)
              first | (refine lb_skip (by rfl) ⟨_, (by (simp only [Act.put, List.setIfInBounds_toArray, List.set_cons_zero, List.set_cons_succ]; rfl)), ?_⟩) | (refine lb_call (by kernel_rfl) (fun w' hC => HAT1.out w' hC) (by (intro w'; go_simp; done)) ⟨_, (by (simp only [Act.put, List.setIfInBounds_toArray, List.set_cons_zero, List.set_cons_succ]; rfl)), ?_⟩)
              first | (refine lb_skip (by rfl) ⟨_, (by (simp only [Act.put, List.setIfInBounds_toArray, List.set_cons_zero, List.set_cons_succ]; rfl)), ?_⟩) | (refine lb_val (by kernel_rfl) ⟨_, (by (intro w' hC; (have y0 := ((HK.out.below hb).below hC).cell 0; have y1 := ((HK.out.below hb).below hC).cell 1; simp only [List.getElem?_toArray, List.getElem?_cons_zero, List.getElem?_cons_succ] at y0 y1); clear hC; (try go_simp); (try with_reducible rfl); done)), _, (by (simp only [Act.put, List.setIfInBounds_toArray, List.set_cons_zero, List.set_cons_succ]; rfl)), ?_⟩)
              first | (refine lb_skip (by rfl) ⟨_, (by (simp only [Act.put, List.setIfInBounds_toArray, List.set_cons_zero, List.set_cons_succ]; rfl)), ?_⟩) | (refine lb_call (by kernel_rfl) (fun w' hC => HSM1.out w' hC) (by (intro w'; go_simp; done)) ⟨_, (by (simp only [Act.put, List.setIfInBounds_toArray, List.set_cons_zero, List.set_cons_succ]; rfl)), ?_⟩)
              refine lb_val (by kernel_rfl) ⟨_, (by (intro w' hC; clear hC; (try go_simp); (try with_reducible rfl); done)), _, (by (simp only [Act.put, List.setIfInBounds_toArray, List.set_cons_zero, List.set_cons_succ]; rfl)), ?_⟩
              refine lb_move _ (by kernel_rfl) rfl ⟨_, (by ((try simp [go_sem]); (try rfl); done)), _, (by (simp only [Act.put, List.setIfInBounds_toArray, List.set_cons_zero, List.set_cons_succ]; rfl)), ?_⟩
              first | (refine lb_skip (by rfl) ⟨_, (by (simp only [Act.put, List.setIfInBounds_toArray, List.set_cons_zero, List.set_cons_succ]; rfl)), ?_⟩) | (refine lb_move _ (by kernel_rfl) rfl ⟨_, (by ((try simp [go_sem]); (try rfl); done)), _, (by (simp only [Act.put, List.setIfInBounds_toArray, List.set_cons_zero, List.set_cons_succ]; rfl)), ?_⟩)
              first | (refine lb_skip (by rfl) ⟨_, (by (simp only [Act.put, List.setIfInBounds_toArray, List.set_cons_zero, List.set_cons_succ]; rfl)), ?_⟩) | (refine lb_move _ (by kernel_rfl) rfl ⟨_, (by ((try simp [go_sem]); (try rfl); done)), _, (by (simp only [Act.put, List.setIfInBounds_toArray, List.set_cons_zero, List.set_cons_succ]; rfl)), ?_⟩)
              first | (refine lb_skip (by rfl) ⟨_, (by (simp only [Act.put, List.setIfInBounds_toArray, List.set_cons_zero, List.set_cons_succ]; rfl)), ?_⟩) | (refine lb_move _ (by kernel_rfl) rfl ⟨_, (by ((try simp [go_sem]); (try rfl); done)), _, (by (simp only [Act.put, List.setIfInBounds_toArray, List.set_cons_zero, List.set_cons_succ]; rfl)), ?_⟩)
              first | (refine lb_skip (by rfl) ⟨_, (by (simp only [Act.put, List.setIfInBounds_toArray, List.set_cons_zero, List.set_cons_succ]; rfl)), ?_⟩) | (refine lb_call (by kernel_rfl) (fun w' hC => HAT2.out w' hC) (by (intro w'; go_simp; done)) ⟨_, (by (simp only [Act.put, List.setIfInBounds_toArray, List.set_cons_zero, List.set_cons_succ]; rfl)), ?_⟩)
              first | (refine lb_skip (by rfl) ⟨_, (by (simp only [Act.put, List.setIfInBounds_toArray, List.set_cons_zero, List.set_cons_succ]; rfl)), ?_⟩) | (refine lb_val (by kernel_rfl) ⟨_, (by (intro w' hC; (have y0 := ((HK.out.below hb).below hC).cell 0; have y1 := ((HK.out.below hb).below hC).cell 1; simp only [List.getElem?_toArray, List.getElem?_cons_zero, List.getElem?_cons_succ] at y0 y1); clear hC; (try go_simp); (try with_reducible rfl); done)), _, (by (simp only [Act.put, List.setIfInBounds_toArray, List.set_cons_zero, List.set_cons_succ]; rfl)), ?_⟩)
              first | (refine lb_skip (by rfl) ⟨_, (by (simp only [Act.put, List.setIfInBounds_toArray, List.set_cons_zero, List.set_cons_succ]; rfl)), ?_⟩) | (refine lb_call (by kernel_rfl) (fun w' hC => HSM2.out w' hC) (by (intro w'; go_simp; done)) ⟨_, (by (simp only [Act.put, List.setIfInBounds_toArray, List.set_cons_zero, List.set_cons_succ]; rfl)), ?_⟩)
              refine lb_val (by kernel_rfl) ⟨_, (by (intro w' hC; clear hC; (try go_simp); (try with_reducible rfl); done)), _, (by (simp only [Act.put, List.setIfInBounds_toArray, List.set_cons_zero, List.set_cons_succ]; rfl)), ?_⟩
              refine .nil ?_
              intro w2 hb2
              have hw2 := hwr.trans (hb2.mono hwr.size)
              go_wp2_with fail
              go_ret
              exact ⟨rfl, hw2⟩
        · have d2 : decide ((i : Int) < b) = false := decide_eq_false h2
          have HN : Hid (∀ j : Nat, j < i + 1 → a ≤ (j : Int) → (j : Int) < b → bothM MS p (k2, l2) j = false) := Lib.hid (fun j hj h3 h4 => by
            by_cases e : j = i
            · rw [e] at h4; exact absurd h4 h2
            · exact hs.out j (by omega) h3 h4)
          go_wp2_with fail
          refine wp_region_b 24 (by kernel_rfl) (by kernel_rfl) ?_
          simp only [List.take_succ_cons, List.take_zero, List.drop_succ_cons, List.drop_zero]
          refine lb_move _ (by kernel_rfl) rfl ⟨_, (by ((try simp [go_sem]); (try rfl); done)), _, (by (simp only [Act.put, List.setIfInBounds_toArray, List.set_cons_zero, List.set_cons_succ]; rfl)), ?_⟩
          refine lb_move _ (by kernel_rfl) rfl ⟨_, (by ((try simp [go_sem]); (try rfl); done)), _, (by (simp only [Act.put, List.setIfInBounds_toArray, List.set_cons_zero, List.set_cons_succ]; rfl)), ?_⟩
          refine lb_val (by kernel_rfl) ⟨_, (by (intro w' hC; clear hC; (try go_simp); (try with_reducible rfl); done)), _, (by (simp only [Act.put, List.setIfInBounds_toArray, List.set_cons_zero, List.set_cons_succ]; rfl)), ?_⟩
          refine lb_move _ (by kernel_rfl) rfl ⟨_, (by ((try simp [go_sem]); (try rfl); done)), _, (by (simp only [Act.put, List.setIfInBounds_toArray, List.set_cons_zero, List.set_cons_succ]; rfl)), ?_⟩
          first | (refine lb_skip (by rfl) ⟨_, (by (simp only [Act.put, List.setIfInBounds_toArray, List.set_cons_zero, List.set_cons_succ]; rfl)), ?_⟩) | (refine lb_move _ (by kernel_rfl) rfl ⟨_, (by ((try simp [go_sem]); (try rfl); done)), _, (by (simp only [Act.put, List.setIfInBounds_toArray, List.set_cons_zero, List.set_cons_succ]; rfl)), ?_⟩)
          first | (refine lb_skip (by rfl) ⟨_, (by (simp only [Act.put, List.setIfInBounds_toArray, List.set_cons_zero, List.set_cons_succ]; rfl)), ?_⟩) | (refine lb_move _ (by kernel_rfl) rfl ⟨_, (by ((try simp [go_sem]); (try rfl); done)), _, (by (simp only [Act.put, List.setIfInBounds_toArray, List.set_cons_zero, List.set_cons_succ]; rfl)), ?_⟩)
          first | (refine lb_skip (by rfl) ⟨_, (by (simp only [Act.put, List.setIfInBounds_toArray, List.set_cons_zero, List.set_cons_succ]; rfl)), ?_⟩) | (refine lb_val (by kernel_rfl) ⟨_, (by (intro w' hC; clear hC; (try go_simp); (try with_reducible rfl); done)), _, (by (simp only [Act.put, List.setIfInBounds_toArray, List.set_cons_zero, List.set_cons_succ]; rfl)), ?_⟩)
          refine lb_val (by kernel_rfl) ⟨_, (by (intro w' hC; clear hC; (try go_simp); (try with_reducible rfl); done)), _, (by (simp only [Act.put, List.setIfInBounds_toArray, List.set_cons_zero, List.set_cons_succ]; rfl)), ?_⟩
          refine lb_move _ (by kernel_rfl) rfl ⟨_, (by ((try simp [go_sem]); (try rfl); done)), _, (by (simp only [Act.put, List.setIfInBounds_toArray, List.set_cons_zero, List.set_cons_succ]; rfl)), ?_⟩
          first | (refine lb_skip (by rfl) ⟨_, (by (simp only [Act.put, List.setIfInBounds_toArray, List.set_cons_zero, List.set_cons_succ]; rfl)), ?_⟩) | (refine lb_move _ (by kernel_rfl) rfl ⟨_, (by ((try simp [go_sem]); (try rfl); done)), _, (by (simp only [Act.put, List.setIfInBounds_toArray, List.set_cons_zero, List.set_cons_succ]; rfl)), ?_⟩)
          first | (refine lb_skip (by rfl) ⟨_, (by (simp only [Act.put, List.setIfInBounds_toArray, List.set_cons_zero, List.set_cons_succ]; rfl)), ?_⟩) | (refine lb_move _ (by kernel_rfl) rfl ⟨_, (by ((try simp [go_sem]); (try rfl); done)), _, (by (simp only [Act.put, List.setIfInBounds_toArray, List.set_cons_zero, List.set_cons_succ]; rfl)), ?_⟩)
          first | (refine lb_skip (by rfl) ⟨_, (by (simp only [Act.put, List.setIfInBounds_toArray, List.set_cons_zero, List.set_cons_succ]; rfl)), ?_⟩) | (refine lb_move _ (by kernel_rfl) rfl ⟨_, (by ((try simp [go_sem]); (try rfl); done)), _, (by (simp only [Act.put, List.setIfInBounds_toArray, List.set_cons_zero, List.set_cons_succ]; rfl)), ?_⟩)
          first | (refine lb_skip (by rfl) ⟨_, (by (simp only [Act.put, List.setIfInBounds_toArray, List.set_cons_zero, List.set_cons_succ]; rfl)), ?_⟩) | (refine lb_call (by kernel_rfl) (fun w' hC => HAT1.out w' hC) (by (intro w'; go_simp; done)) ⟨_, (by (simp only [Act.put, List.setIfInBounds_toArray, List.set_cons_zero, List.set_cons_succ]; rfl)), ?_⟩)
          first | (refine lb_skip (by rfl) ⟨_, (by (simp only [Act.put, List.setIfInBounds_toArray, List.set_cons_zero, List.set_cons_succ]; rfl)), ?_⟩) | (refine lb_val (by kernel_rfl) ⟨_, (by (intro w' hC; (have y0 := ((HK.out.below hb).below hC).cell 0; have y1 := ((HK.out.below hb).below hC).cell 1; simp only [List.getElem?_toArray, List.getElem?_cons_zero, List.getElem?_cons_succ] at y0 y1); clear hC; (try go_simp); (try with_reducible rfl); done)), _, (by (simp only [Act.put, List.setIfInBounds_toArray, List.set_cons_zero, List.set_cons_succ]; rfl)), ?_⟩)
          first | (refine lb_skip (by rfl) ⟨_, (by (simp only [Act.put, List.setIfInBounds_toArray, List.set_cons_zero, List.set_cons_succ]; rfl)), ?_⟩) | (refine lb_call (by kernel_rfl) (fun w' hC => HSM1.out w' hC) (by (intro w'; go_simp; done)) ⟨_, (by (simp only [Act.put, List.setIfInBounds_toArray, List.set_cons_zero, List.set_cons_succ]; rfl)), ?_⟩)
          refine lb_val (by kernel_rfl) ⟨_, (by (intro w' hC; clear hC; (try go_simp); (try with_reducible rfl); done)), _, (by (simp only [Act.put, List.setIfInBounds_toArray, List.set_cons_zero, List.set_cons_succ]; rfl)), ?_⟩
          refine lb_move _ (by kernel_rfl) rfl ⟨_, (by ((try simp [go_sem]); (try rfl); done)), _, (by (simp only [Act.put, List.setIfInBounds_toArray, List.set_cons_zero, List.set_cons_succ]; rfl)), ?_⟩
          first | (refine lb_skip (by rfl) ⟨_, (by (simp only [Act.put, List.setIfInBounds_toArray, List.set_cons_zero, List.set_cons_succ]; rfl)), ?_⟩) | (refine lb_move _ (by kernel_rfl) rfl ⟨_, (by ((try simp [go_sem]); (try rfl); done)), _, (by (simp only [Act.put, List.setIfInBounds_toArray, List.set_cons_zero, List.set_cons_succ]; rfl)), ?_⟩)
          first | (refine lb_skip (by rfl) ⟨_, (by (simp only [Act.put, List.setIfInBounds_toArray, List.set_cons_zero, List.set_cons_succ]; rfl)), ?_⟩) | (refine lb_move _ (by kernel_rfl) rfl ⟨_, (by ((try simp [go_sem]); (try rfl); done)), _, (by (simp only [Act.put, List.setIfInBounds_toArray, List.set_cons_zero, List.set_cons_succ]; rfl)), ?_⟩)
          first | (refine lb_skip (by rfl) ⟨_, (by (simp only [Act.put, List.setIfInBounds_toArray, List.set_cons_zero, List.set_cons_succ]; rfl)), ?_⟩) | (refine lb_move _ (by kernel_rfl) rfl ⟨_, (by ((try simp [go_sem]); (try rfl); done)), _, (by (simp only [Act.put, List.setIfInBounds_toArray, List.set_cons_zero, List.set_cons_succ]; rfl)), ?_⟩)
          first | (refine lb_skip (by rfl) ⟨_, (by (simp only [Act.put, List.setIfInBounds_toArray, List.set_cons_zero, List.set_cons_succ]; rfl)), ?_⟩) | (refine lb_call (by kernel_rfl) (fun w' hC => HAT2.out w' hC) (by (intro w'; go_simp; done)) ⟨_, (by (simp only [Act.put, List.setIfInBounds_toArray, List.set_cons_zero, List.set_cons_succ]; rfl)), ?_⟩)
          first | (refine lb_skip (by rfl) ⟨_, (by (simp only [Act.put, List.setIfInBounds_toArray, List.set_cons_zero, List.set_cons_succ]; rfl)), ?_⟩) | (refine lb_val (by kernel_rfl) ⟨_, (by (intro w' hC; (have y0 := ((HK.out.below hb).below hC).cell 0; have y1 := ((HK.out.below hb).below hC).cell 1; simp only [List.getElem?_toArray, List.getElem?_cons_zero, List.getElem?_cons_succ] at y0 y1); clear hC; (try go_simp); (try with_reducible rfl); done)), _, (by (simp only [Act.put, List.setIfInBounds_toArray, List.set_cons_zero, List.set_cons_succ]; rfl)), ?_⟩)
          first | (refine lb_skip (by rfl) ⟨_, (by (simp only [Act.put, List.setIfInBounds_toArray, List.set_cons_zero, List.set_cons_succ]; rfl)), ?_⟩) | (refine lb_call (by kernel_rfl) (fun w' hC => HSM2.out w' hC) (by (intro w'; go_simp; done)) ⟨_, (by (simp only [Act.put, List.setIfInBounds_toArray, List.set_cons_zero, List.set_cons_succ]; rfl)), ?_⟩)
          refine lb_val (by kernel_rfl) ⟨_, (by (intro w' hC; clear hC; (try go_simp); (try with_reducible rfl); done)), _, (by (simp only [Act.put, List.setIfInBounds_toArray, List.set_cons_zero, List.set_cons_succ]; rfl)), ?_⟩
          refine .nil ?_
          intro w2 hb2
          have hw2 := hb.trans (hb2.mono hb.size)
          go_wp2_with fail
          go_roundw
          case rel => exact ⟨i + 1, hlt, by go_num, HN, hw2⟩
          case measure => simp [intOf]; omega
      · have d1 : decide (a ≤ (i : Int)) = false := decide_eq_false h1
        have HN : Hid (∀ j : Nat, j < i + 1 → a ≤ (j : Int) → (j : Int) < b → bothM MS p (k2, l2) j = false) := Lib.hid (fun j hj h3 h4 => by
          by_cases e : j = i
          · rw [e] at h3; exact absurd h3 h1
          · exact hs.out j (by omega) h3 h4)
        go_wp2_with fail
        refine wp_region_b 24 (by kernel_rfl) (by kernel_rfl) ?_
        simp only [List.take_succ_cons, List.take_zero, List.drop_succ_cons, List.drop_zero]
        refine lb_move _ (by kernel_rfl) rfl ⟨_, (by ((try simp [go_sem]); (try rfl); done)), _, (by (simp only [Act.put, List.setIfInBounds_toArray, List.set_cons_zero, List.set_cons_succ]; rfl)), ?_⟩
        refine lb_move _ (by kernel_rfl) rfl ⟨_, (by ((try simp [go_sem]); (try rfl); done)), _, (by (simp only [Act.put, List.setIfInBounds_toArray, List.set_cons_zero, List.set_cons_succ]; rfl)), ?_⟩
        refine lb_val (by kernel_rfl) ⟨_, (by (intro w' hC; clear hC; (try go_simp); (try with_reducible rfl); done)), _, (by (simp only [Act.put, List.setIfInBounds_toArray, List.set_cons_zero, List.set_cons_succ]; rfl)), ?_⟩
        refine lb_move _ (by kernel_rfl) rfl ⟨_, (by ((try simp [go_sem]); (try rfl); done)), _, (by (simp only [Act.put, List.setIfInBounds_toArray, List.set_cons_zero, List.set_cons_succ]; rfl)), ?_⟩
        first | (refine lb_skip (by rfl) ⟨_, (by (simp only [Act.put, List.setIfInBounds_toArray, List.set_cons_zero, List.set_cons_succ]; rfl)), ?_⟩) | (refine lb_move _ (by kernel_rfl) rfl ⟨_, (by ((try simp [go_sem]); (try rfl); done)), _, (by (simp only [Act.put, List.setIfInBounds_toArray, List.set_cons_zero, List.set_cons_succ]; rfl)), ?_⟩)
        first | (refine lb_skip (by rfl) ⟨_, (by (simp only [Act.put, List.setIfInBounds_toArray, List.set_cons_zero, List.set_cons_succ]; rfl)), ?_⟩) | (refine lb_move _ (by kernel_rfl) rfl ⟨_, (by ((try simp [go_sem]); (try rfl); done)), _, (by (simp only [Act.put, List.setIfInBounds_toArray, List.set_cons_zero, List.set_cons_succ]; rfl)), ?_⟩)
        first | (refine lb_skip (by rfl) ⟨_, (by (simp only [Act.put, List.setIfInBounds_toArray, List.set_cons_zero, List.set_cons_succ]; rfl)), ?_⟩) | (refine lb_val (by kernel_rfl) ⟨_, (by (intro w' hC; clear hC; (try go_simp); (try with_reducible rfl); done)), _, (by (simp only [Act.put, List.setIfInBounds_toArray, List.set_cons_zero, List.set_cons_succ]; rfl)), ?_⟩)
        refine lb_val (by kernel_rfl) ⟨_, (by (intro w' hC; clear hC; (try go_simp); (try with_reducible rfl); done)), _, (by (simp only [Act.put, List.setIfInBounds_toArray, List.set_cons_zero, List.set_cons_succ]; rfl)), ?_⟩
        refine lb_move _ (by kernel_rfl) rfl ⟨_, (by ((try simp [go_sem]); (try rfl); done)), _, (by (simp only [Act.put, List.setIfInBounds_toArray, List.set_cons_zero, List.set_cons_succ]; rfl)), ?_⟩
        first | (refine lb_skip (by rfl) ⟨_, (by (simp only [Act.put, List.setIfInBounds_toArray, List.set_cons_zero, List.set_cons_succ]; rfl)), ?_⟩) | (refine lb_move _ (by kernel_rfl) rfl ⟨_, (by ((try simp [go_sem]); (try rfl); done)), _, (by (simp only [Act.put, List.setIfInBounds_toArray, List.set_cons_zero, List.set_cons_succ]; rfl)), ?_⟩)
        first | (refine lb_skip (by rfl) ⟨_, (by (simp only [Act.put, List.setIfInBounds_toArray, List.set_cons_zero, List.set_cons_succ]; rfl)), ?_⟩) | (refine lb_move _ (by kernel_rfl) rfl ⟨_, (by ((try simp [go_sem]); (try rfl); done)), _, (by (simp only [Act.put, List.setIfInBounds_toArray, List.set_cons_zero, List.set_cons_succ]; rfl)), ?_⟩)
        first | (refine lb_skip (by rfl) ⟨_, (by (simp only [Act.put, List.setIfInBounds_toArray, List.set_cons_zero, List.set_cons_succ]; rfl)), ?_⟩) | (refine lb_move _ (by kernel_rfl) rfl ⟨_, (by ((try simp [go_sem]); (try rfl); done)), _, (by (simp only [Act.put, List.setIfInBounds_toArray, List.set_cons_zero, List.set_cons_succ]; rfl)), ?_⟩)
        first | (refine lb_skip (by rfl) ⟨_, (by (simp only [Act.put, List.setIfInBounds_toArray, List.set_cons_zero, List.set_cons_succ]; rfl)), ?_⟩) | (refine lb_call (by kernel_rfl) (fun w' hC => HAT1.out w' hC) (by (intro w'; go_simp; done)) ⟨_, (by (simp only [Act.put, List.setIfInBounds_toArray, List.set_cons_zero, List.set_cons_succ]; rfl)), ?_⟩)
        first | (refine lb_skip (by rfl) ⟨_, (by (simp only [Act.put, List.setIfInBounds_toArray, List.set_cons_zero, List.set_cons_succ]; rfl)), ?_⟩) | (refine lb_val (by kernel_rfl) ⟨_, (by (intro w' hC; (have y0 := ((HK.out.below hb).below hC).cell 0; have y1 := ((HK.out.below hb).below hC).cell 1; simp only [List.getElem?_toArray, List.getElem?_cons_zero, List.getElem?_cons_succ] at y0 y1); clear hC; (try go_simp); (try with_reducible rfl); done)), _, (by (simp only [Act.put, List.setIfInBounds_toArray, List.set_cons_zero, List.set_cons_succ]; rfl)), ?_⟩)
        first | (refine lb_skip (by rfl) ⟨_, (by (simp only [Act.put, List.setIfInBounds_toArray, List.set_cons_zero, List.set_cons_succ]; rfl)), ?_⟩) | (refine lb_call (by kernel_rfl) (fun w' hC => HSM1.out w' hC) (by (intro w'; go_simp; done)) ⟨_, (by (simp only [Act.put, List.setIfInBounds_toArray, List.set_cons_zero, List.set_cons_succ]; rfl)), ?_⟩)
        refine lb_val (by kernel_rfl) ⟨_, (by (intro w' hC; clear hC; (try go_simp); (try with_reducible rfl); done)), _, (by (simp only [Act.put, List.setIfInBounds_toArray, List.set_cons_zero, List.set_cons_succ]; rfl)), ?_⟩
        refine lb_move _ (by kernel_rfl) rfl ⟨_, (by ((try simp [go_sem]); (try rfl); done)), _, (by (simp only [Act.put, List.setIfInBounds_toArray, List.set_cons_zero, List.set_cons_succ]; rfl)), ?_⟩
        first | (refine lb_skip (by rfl) ⟨_, (by (simp only [Act.put, List.setIfInBounds_toArray, List.set_cons_zero, List.set_cons_succ]; rfl)), ?_⟩) | (refine lb_move _ (by kernel_rfl) rfl ⟨_, (by ((try simp [go_sem]); (try rfl); done)), _, (by (simp only [Act.put, List.setIfInBounds_toArray, List.set_cons_zero, List.set_cons_succ]; rfl)), ?_⟩)
        first | (refine lb_skip (by rfl) ⟨_, (by (simp only [Act.put, List.setIfInBounds_toArray, List.set_cons_zero, List.set_cons_succ]; rfl)), ?_⟩) | (refine lb_move _ (by kernel_rfl) rfl ⟨_, (by ((try simp [go_sem]); (try rfl); done)), _, (by (simp only [Act.put, List.setIfInBounds_toArray, List.set_cons_zero, List.set_cons_succ]; rfl)), ?_⟩)
        first | (refine lb_skip (by rfl) ⟨_, (by (simp only [Act.put, List.setIfInBounds_toArray, List.set_cons_zero, List.set_cons_succ]; rfl)), ?_⟩) | (refine lb_move _ (by kernel_rfl) rfl ⟨_, (by ((try simp [go_sem]); (try rfl); done)), _, (by (simp only [Act.put, List.setIfInBounds_toArray, List.set_cons_zero, List.set_cons_succ]; rfl)), ?_⟩)
        first | (refine lb_skip (by rfl) ⟨_, (by (simp only [Act.put, List.setIfInBounds_toArray, List.set_cons_zero, List.set_cons_succ]; rfl)), ?_⟩) | (refine lb_call (by kernel_rfl) (fun w' hC => HAT2.out w' hC) (by (intro w'; go_simp; done)) ⟨_, (by (simp only [Act.put, List.setIfInBounds_toArray, List.set_cons_zero, List.set_cons_succ]; rfl)), ?_⟩)
        first | (refine lb_skip (by rfl) ⟨_, (by (simp only [Act.put, List.setIfInBounds_toArray, List.set_cons_zero, List.set_cons_succ]; rfl)), ?_⟩) | (refine lb_val (by kernel_rfl) ⟨_, (by (intro w' hC; (have y0 := ((HK.out.below hb).below hC).cell 0; have y1 := ((HK.out.below hb).below hC).cell 1; simp only [List.getElem?_toArray, List.getElem?_cons_zero, List.getElem?_cons_succ] at y0 y1); clear hC; (try go_simp); (try with_reducible rfl); done)), _, (by (simp only [Act.put, List.setIfInBounds_toArray, List.set_cons_zero, List.set_cons_succ]; rfl)), ?_⟩)
        first | (refine lb_skip (by rfl) ⟨_, (by (simp only [Act.put, List.setIfInBounds_toArray, List.set_cons_zero, List.set_cons_succ]; rfl)), ?_⟩) | (refine lb_call (by kernel_rfl) (fun w' hC => HSM2.out w' hC) (by (intro w'; go_simp; done)) ⟨_, (by (simp only [Act.put, List.setIfInBounds_toArray, List.set_cons_zero, List.set_cons_succ]; rfl)), ?_⟩)
        refine lb_val (by kernel_rfl) ⟨_, (by (intro w' hC; clear hC; (try go_simp); (try with_reducible rfl); done)), _, (by (simp only [Act.put, List.setIfInBounds_toArray, List.set_cons_zero, List.set_cons_succ]; rfl)), ?_⟩
        refine .nil ?_
        intro w2 hb2
        have hw2 := hb.trans (hb2.mono hb.size)
        go_wp2_with fail
        go_roundw
        case rel => exact ⟨i + 1, hlt, by go_num, HN, hw2⟩
        case measure => simp [intOf]; omega
    · have e : i = MS.length := by omega
      subst e
      have hVf : V = false := by rw [HV.out]; exact some_false hs.out
      subst hVf
      go_wp2_with fail
      go_ret
      exact ⟨rfl, hwr⟩
set_option maxRecDepth 100000 in
set_option maxHeartbeats 4000000 in
theorem refTurns_any (WA : Option Addr) (wc : Nat) (MS : List MO) (side : Int) (p : List UInt8) (w : World) (h : MosR w WA MS) (hp : p.length ≤ 1048576) (hn : MS.length ≤ 1000) :
    Calls Tryz.prog 17 #[.slice WA MS.length wc, .int .i64 side, .string ⟨⟨p⟩⟩] w fun e w' => IntOwn w' w.heap.size e ((List.range MS.length).filter (cameM MS side p)) ∧ Below w.heap.size w w' := by
  have HM := Lib.hid h
  obtain ⟨i0, hi0, hz0, hz1, hz2⟩ := info_parts int_info
  obtain ⟨G, hG⟩ : ∃ G, G = (List.range MS.length).filter (cameM MS side p) := ⟨_, rfl⟩
  rw [← hG]
  have HG := Lib.hid hG
  clear h hG
  go_enter Tryz.func17, Tryz.ntmps17
  go_wp2_with fail
  go_loopw [7, 8] (fun ov iv wr => ∃ (i : Nat) (A : Option Addr) (c : Nat) (l' : List Nat), i ≤ MS.length ∧ iv = .int .i64 (i : Int) ∧ ov = .slice A l'.length c ∧ Hid (l' = (List.range i).filter (cameM MS side p)) ∧ Row wr w.heap.size 3 1 A l'.length c (l'.map fun (n : Nat) => Value.int .i64 (n : Int)) ∧ Below w.heap.size w wr) (fun _ iv _ => MS.length - (intOf iv).toNat)
  case atStart => exact ⟨0, none, 0, [], Nat.zero_le _, rfl, rfl, Lib.hid rfl, Row.none_ _ _ _ _, Below.refl _ _⟩
  case round =>
    obtain ⟨i, A, c, l', hi, rfl, rfl, hl', hrow, hb⟩ := hrel
    by_cases hlt : i < MS.length
    · obtain ⟨k1, A1, c1, l1, ha1, hy1, hat1⟩ := refLeaf wc (HM.out.below hb) side p (i : Int) hp hn
      obtain ⟨k2, A2, c2, l2, ha2, hy2, hat2⟩ := refLeaf wc (HM.out.below hb) side p ((i : Int) - 1) hp hn
      have HAT1 := Lib.hid hat1
      have HAT2 := Lib.hid hat2
      have HSM := Lib.hid (fun W (hW : Below wr.heap.size wr W) => leafSameR_any k1 k2 A1 A2 c1 c2 l1 l2 _ _ W (hy1.below hW) (hy2.below hW))
      have hcm : cameM MS side p i = !(k1 == k2 && l1 == l2) := by unfold cameM; rw [ha1.out, ha2.out]; rfl
      obtain ⟨sm, hsm⟩ : ∃ sm, sm = (k1 == k2 && l1 == l2) := ⟨_, rfl⟩
      rw [← hsm] at HSM hcm
      have HCM := Lib.hid hcm
      have HST : Hid ((List.range (i + 1)).filter (cameM MS side p) = l' ++ (if sm = true then [] else [i])) := Lib.hid (by
        rw [List.range_succ, List.filter_append, ← hl'.out, List.filter_cons, HCM.out]
        cases sm <;> rfl)
      have hln : l'.length ≤ 1000 := by
        have h1 := List.length_filter_le (cameM MS side p) (List.range i)
        rw [← hl'.out, List.length_range] at h1
        omega
      clear hat1 hat2 hy1 hy2 ha1 ha2 hcm hsm hl'
      have HROW := Lib.hid hrow
      clear hrow
      go_wp2_with fail
      refine (HAT1.out wr (Below.refl _ _)).mono ?_
      rintro e w2 ⟨rfl, hb2⟩
      go_wp2_with fail
      refine (HAT2.out w2 hb2).mono ?_
      rintro e w3 ⟨rfl, hb3⟩
      have hb23 := hb2.trans (hb3.mono hb2.size)
      go_wp2_with fail
      refine (HSM.out w3 hb23).mono ?_
      rintro e w4 ⟨rfl, hb4⟩
      have hb24 := hb23.trans (hb4.mono hb23.size)
      have hw4 := hb.trans (hb24.mono hb.size)
      have hrow4 := HROW.out.below hb24
      clear HAT1 HAT2 HSM HROW
      cases sm
      · have HRW := Lib.hid (hrow4.below ((Below.refl _ w4).alloc (Nat.le_refl _) (.cells #[.int .i64 (i : Int)] 3)))
        have HRD : Hid (Rd (w4.alloc (.cells #[.int .i64 (i : Int)] 3)) (fun b => w4.heap.size ≤ b) 1 (some ⟨w4.heap.size, 0, none⟩) 1 [.int .i64 (i : Int)]) := Lib.hid (Rd.lit rfl rfl rfl)
        have hw5 := hw4.alloc hw4.size (.cells #[.int .i64 (i : Int)] 3)
        have hsz := hw5.size
        clear hrow4
        go_wp2_with (at_builtin; refine wpList_append_row _ rfl (.tmp 28) (.tmp 30) 41 rfl w.heap.size 3 i0 _ 1 8 Tryz.underlying41 hi0 hz0 hz1 hz2 rfl (by omega) rfl HRW.out rfl HRD.out (by simp [Value.oneCell']) (by simp only [maxLen]; omega) (by omega) hsz ?_; intro A' c' w6 h1 h2 h3)
        have hb6 : Below w.heap.size w w6 := hw5.trans ((Fr.of_grown h2 (S := fun b => ablk A = some b) (fun _ _ e => e)).below hsz (fun k hk e => by have := (HRW.out.lt k e).1; omega))
        have HR6 : Hid (Row w6 w.heap.size 3 1 A' (l' ++ [i]).length c' ((l' ++ [i]).map fun (n : Nat) => Value.int .i64 (n : Int))) := Lib.hid (by
          rw [List.length_append, List.map_append]; exact h1)
        clear h1 h2 h3 HRW HRD
        go_wp2_with fail
        go_roundw
        case rel => exact ⟨i + 1, A', c', l' ++ [i], hlt, by go_num, by rw [List.length_append]; rfl, Lib.hid HST.out.symm, HR6.out, hb6⟩
        case measure => simp [intOf]; omega
      · have HR4 := Lib.hid hrow4
        clear hrow4
        go_wp2_with fail
        go_roundw
        case rel => exact ⟨i + 1, A, c, l', hlt, by go_num, rfl, Lib.hid (by rw [HST.out]; simp), HR4.out, hw4⟩
        case measure => simp [intOf]; omega
    · have e : i = MS.length := by omega
      subst e
      have hlG : Hid (l' = G) := Lib.hid (by rw [hl'.out, HG.out])
      clear hl'
      go_wp2_with fail
      go_ret
      exact ⟨⟨A, c, l', rfl, hlG, hrow⟩, hb⟩

end Go.Proofs.YtdnljmncdbcgeaaGreat

/- WatchStays is true for every input: between two of its turns a path has what it had at the first of them. No condition beyond the row's own. -/
namespace Go.Proofs.YtdnljmncdbcgeaaGreat
open Go.RowKit Go.Maps

theorem lightW_all {l : List SV} (h : lightW l = true) : l.length ≤ 60 ∧ ∀ s ∈ l, s.x.1.length ≤ 200 ∧ s.x.2.x.l.length ≤ 20000 := by
  unfold lightW at h
  rw [Bool.and_eq_true, decide_eq_true_eq] at h
  exact ⟨h.2, fun s hs => (lightI_len h.1).2 s.x (List.mem_map.2 ⟨s, hs, rfl⟩)⟩
/-- did another thing come at this moment? -/
def cameS (H : List (List (List UInt8 × LP))) (p : List UInt8) (m : Nat) : Bool := !(atS H p (m : Int) == atS H p ((m : Int) - 1))
/-- so many turns are ahead of a moment -/
def aheadS (H : List (List (List UInt8 × LP))) (p : List UInt8) (m : Nat) : Nat := ((List.range m).filter (cameS H p)).length
theorem turned_came {H : List (List (List UInt8 × LP))} {p : List UInt8} {m : Nat} (h : m < H.length) : turnedG ((0, []) : LP) (H.map fun T => at0 T p) m = cameS H p m := by
  unfold turnedG cameS
  rw [atS_nat h]
  congr 1
  have h1 : (H.map fun T => at0 T p)[m]? = some (at0 (H[m]?.getD []) p) := by
    rw [List.getElem?_map, List.getElem?_eq_getElem h]; rfl
  have h2 : (if m = 0 then ((0, []) : LP) else (H.map fun T => at0 T p)[m - 1]?.getD (0, [])) = atS H p ((m : Int) - 1) := by
    by_cases e : m = 0
    · subst e
      rw [if_pos rfl]
      unfold atS
      rw [if_neg (by omega)]
    · rw [if_neg e, show ((m : Int) - 1) = ((m - 1 : Nat) : Int) by omega, atS_nat (by omega), List.getElem?_map]
      rw [List.getElem?_eq_getElem (by omega)]
      rfl
  rw [h1, h2]
  by_cases e : at0 (H[m]?.getD []) p = atS H p ((m : Int) - 1)
  · rw [e]; simp
  · rw [decide_eq_false (fun e2 => e (Option.some.inj e2))]
    symm
    simpa using e
theorem turns_came (H : List (List (List UInt8 × LP))) (p : List UInt8) : (turnsG 0 ((0, []) : LP) (H.map fun T => at0 T p)).map (·.1) = (List.range H.length).filter (cameS H p) := by
  have h := turns_at (H.map fun T => at0 T p) 0 ((0, []) : LP)
  rw [List.length_map] at h
  rw [h]
  have e : (fun (x : Nat) => x + 0) = id := rfl
  rw [e, List.map_id]
  exact List.filter_congr (fun m hm => turned_came (List.mem_range.1 hm))
theorem ahead_step (H : List (List (List UInt8 × LP))) (p : List UInt8) (m : Nat) : aheadS H p (m + 1) = aheadS H p m + (if cameS H p m = true then 1 else 0) := by
  unfold aheadS
  rw [List.range_succ, List.filter_append, List.length_append, List.filter_cons]
  split <;> simp
theorem ahead_le (H : List (List (List UInt8 × LP))) (p : List UInt8) : ∀ (d m : Nat), aheadS H p m ≤ aheadS H p (m + d)
  | 0, _ => Nat.le_refl _
  | d + 1, m => by
    have := ahead_le H p d m
    have h2 := ahead_step H p (m + d)
    rw [show m + (d + 1) = m + d + 1 by omega]
    split at h2 <;> omega
/-- the turn at hand is this moment's, just if something came -/
theorem turn_get {H : List (List (List UInt8 × LP))} {p : List UInt8} {G : List Nat} (hG : G = (List.range H.length).filter (cameS H p)) {m : Nat} (hm : m < H.length) :
    (cameS H p m = true → G[aheadS H p m]? = some m) ∧ (cameS H p m = false → ∀ t, G[aheadS H p m]? = some t → t ≠ m) := by
  obtain ⟨d, hd⟩ : ∃ d, H.length = m + (1 + d) := ⟨H.length - (m + 1), by omega⟩
  have hs : List.range H.length = List.range m ++ m :: (List.range' (m + 1) d) := by
    rw [hd, List.range_eq_range', List.range_eq_range', ← List.range'_append_1, ← List.range'_append_1]
    simp
  have hg : G = (List.range m).filter (cameS H p) ++ (m :: (List.range' (m + 1) d)).filter (cameS H p) := by
    rw [hG, hs, List.filter_append]
  have hget : G[aheadS H p m]? = ((m :: (List.range' (m + 1) d)).filter (cameS H p))[0]? := by
    show G[((List.range m).filter (cameS H p)).length]? = _
    rw [hg, List.getElem?_append_right (Nat.le_refl _), Nat.sub_self]
  rw [hget]
  constructor
  · intro h
    rw [List.filter_cons, if_pos h]
    rfl
  · intro h t ht
    rw [List.filter_cons, if_neg (by rw [h]; decide)] at ht
    have h1 := List.mem_of_getElem? ht
    have h2 := (List.mem_filter.1 h1).1
    rw [List.mem_range'_1] at h2
    omega
theorem ahead_len {H : List (List (List UInt8 × LP))} {p : List UInt8} {G : List Nat} (hG : G = (List.range H.length).filter (cameS H p)) : G.length = aheadS H p H.length := by rw [hG]; rfl

end Go.Proofs.YtdnljmncdbcgeaaGreat

/- what is asked of a log. -/
namespace Go.Proofs.YtdnljmncdbcgeaaGreat
open Go.RowKit

structure AV where
  sd : Int
  p : List UInt8
  o : LV
  fr : Int
  to : Int
def AV.cells (q : AV) : List Value := [.int .i64 q.sd, .string ⟨⟨q.p⟩⟩, .int .i64 q.o.k, .slice q.o.x.A q.o.x.l.length q.o.x.c, .int .i64 q.fr, .int .i64 q.to]
end Go.Proofs.YtdnljmncdbcgeaaGreat

/- Arguments opened: strings. -/
namespace Go.Proofs.YtdnljmncdbcgeaaGreat
open Go.RowKit Go.WideShapes Go.ChangeShapes Go.ChangeAt Go.ChangeMaps

section
variable {H : Type} {enc : TypeId × Value → H} {w : World} {spare : Nat → Bool} {held : Bool}
set_option maxRecDepth 100000 in
/-- a string -/
theorem open_str {r : Reach} {b0 : Nat} {v : Value} {d : DataW H} {p : List MemPlace} (hv : Value.okWide Tryz.prog w r b0 9 v) (h : DataW.Trod enc Tryz.prog w 0 spare held 9 v d p) (hw : Within 9 (d, p)) :
    ∃ s : ByteArray, v = .string s ∧ s.size ≤ 140737488355328 := by
  obtain ⟨s, rfl, hd, _, _⟩ := open_string Tryz.underlying9 hv h
  refine ⟨s, rfl, ?_⟩
  have h1 := hw s.data.toList.length (by rw [hd]; simp [DataW.weights])
  have h2 := reachBytes_lt
  have h3 : s.data.toList.length = s.size := tl_len s
  omega
end

end Go.Proofs.YtdnljmncdbcgeaaGreat

/- tenderlaw42.Ask: as an argument. -/
namespace Go.Proofs.YtdnljmncdbcgeaaGreat
open Go.RowKit Go.WideShapes Go.ChangeShapes Go.ChangeAt Go.ChangeMaps Go.Deep Go.Joins

section
variable {H : Type} {enc : TypeId × Value → H} {w : World} {spare : Nat → Bool} {held : Bool}
theorem list5q {α : Type} {l : List α} (h : l.length = 5) : ∃ a0 a1 a2 a3 a4, l = [a0, a1, a2, a3, a4] := by
  match l, h with
  | [a0, a1, a2, a3, a4], _ => exact ⟨_, _, _, _, _, rfl⟩
theorem list6q {α : Type} {l : List α} (h : l.length = 6) : ∃ a0 a1 a2 a3 a4 a5, l = [a0, a1, a2, a3, a4, a5] := by
  match l, h with
  | [a0, a1, a2, a3, a4, a5], _ => exact ⟨_, _, _, _, _, _, rfl⟩
set_option maxRecDepth 100000 in
theorem open_ask {n : Nat} {cs : List Value} {x : DataW H × List MemPlace} (h : DataW.trod enc Tryz.prog w 0 spare held n 27 cs = some x) (hw : Within 27 x) :
    ∃ q : AV, cs = q.cells ∧ q.o.okAt w (fun b => b < w.heap.size) ∧ q.p.length ≤ 140737488355328 := by
  obtain ⟨ys, n', hcl, hyl, hf⟩ := open_sti (N := 6) Tryz.underlying27 h (by kernel_rfl) hw
  obtain ⟨a0, a1, a2, a3, a4, a5, rfl⟩ := list6q hcl
  obtain ⟨y0, y1, y2, y3, y4, rfl⟩ := list5q hyl
  obtain ⟨f0, w0⟩ := hf 0 _ _ rfl rfl
  obtain ⟨f1, w1⟩ := hf 1 _ _ rfl rfl
  obtain ⟨f2, w2⟩ := hf 2 _ _ rfl rfl
  obtain ⟨f3, w3⟩ := hf 3 _ _ rfl rfl
  obtain ⟨f4, w4⟩ := hf 4 _ _ rfl rfl
  have c0 : Tryz.prog.cellsOf 3 = 1 := by kernel_rfl
  have c1 : Tryz.prog.cellsOf 9 = 1 := by kernel_rfl
  have c2 : Tryz.prog.cellsOf 25 = 2 := by kernel_rfl
  replace f0 : DataW.trod enc Tryz.prog w 0 spare held n' 3 (([a0, a1, a2, a3, a4, a5].drop 0).take (Tryz.prog.cellsOf 3)) = some y0 := f0
  replace f1 : DataW.trod enc Tryz.prog w 0 spare held n' 9 (([a0, a1, a2, a3, a4, a5].drop 1).take (Tryz.prog.cellsOf 9)) = some y1 := f1
  replace f2 : DataW.trod enc Tryz.prog w 0 spare held n' 25 (([a0, a1, a2, a3, a4, a5].drop 2).take (Tryz.prog.cellsOf 25)) = some y2 := f2
  replace f3 : DataW.trod enc Tryz.prog w 0 spare held n' 3 (([a0, a1, a2, a3, a4, a5].drop 4).take (Tryz.prog.cellsOf 3)) = some y3 := f3
  replace f4 : DataW.trod enc Tryz.prog w 0 spare held n' 3 (([a0, a1, a2, a3, a4, a5].drop 5).take (Tryz.prog.cellsOf 3)) = some y4 := f4
  rw [c0] at f0 f3 f4
  rw [c1] at f1
  rw [c2] at f2
  obtain ⟨sd, e0, _, _⟩ := DataW.trod_int Tryz.underlying3 f0
  obtain ⟨p, e1, hx1, _⟩ := DataW.trod_string Tryz.underlying9 f1
  obtain ⟨o, e2, ho⟩ := open_leaf f2 w2
  obtain ⟨fr, e3, _, _⟩ := DataW.trod_int Tryz.underlying3 f3
  obtain ⟨to, e4, _, _⟩ := DataW.trod_int Tryz.underlying3 f4
  obtain rfl : a0 = .int .i64 sd := by simpa using e0
  obtain rfl : a1 = .string p := by simpa using e1
  obtain ⟨k, xx⟩ := o
  obtain ⟨rfl, rfl⟩ : a2 = .int .i64 k ∧ a3 = .slice xx.A xx.l.length xx.c := by simpa [LV.cells] using e2
  obtain rfl : a4 = .int .i64 fr := by simpa using e3
  obtain rfl : a5 = .int .i64 to := by simpa using e4
  rw [hx1] at w1
  exact ⟨⟨sd, p.data.toList, ⟨k, xx⟩, fr, to⟩, rfl, ho, str_withini w1⟩
set_option maxRecDepth 100000 in
theorem open_askv {r : Reach} {b0 : Nat} {v : Value} {d : DataW H} {p : List MemPlace} (hv : Value.okWide Tryz.prog w r b0 27 v) (h : DataW.Trod enc Tryz.prog w 0 spare held 27 v d p) (hw : Within 27 (d, p)) :
    ∃ q : AV, v = .agg q.cells.toArray ∧ q.o.okAt w (fun b => b < w.heap.size) ∧ q.p.length ≤ 140737488355328 := by
  obtain ⟨cs, rfl, hsz⟩ := okWide_struct Tryz.underlying27 hv
  obtain ⟨l⟩ := cs
  obtain ⟨n, hn⟩ := h
  obtain ⟨q, e, ho⟩ := open_ask (cs := l) hn hw
  subst e
  exact ⟨q, rfl, ho⟩
end
end Go.Proofs.YtdnljmncdbcgeaaGreat
