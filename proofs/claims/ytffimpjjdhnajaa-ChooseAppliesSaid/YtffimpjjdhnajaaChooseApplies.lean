/- ChooseApplies is true for every input: what comes of any choices over any changes is the document's. No condition beyond the row's own. -/
import Derived.Test.YtffimpjjdhnajaaChooseLives
namespace Go.Proofs.Ytffimpjjdhnajaa
open Go.RowKit Go.WideShapes Go.ChangeShapes Go.ChangeAt

set_option maxRecDepth 100000 in
set_option maxHeartbeats 2000000 in
theorem chooseApplies_any (A B : Option Addr) (c d : Nat) (l : List CV) (ch : List HV) (w : World) (h : Chs w (fun b => b < w.heap.size) A l) (hch : Hvs w (fun b => b < w.heap.size) B ch) :
    Calls Try.prog 10 #[.slice A l.length c, .slice B ch.length d] w fun e w' => e = .returned (.bool true) ∧ Below w.heap.size w w' := by
  have HL := Lib.hid (fun w' hb => lightF_any A c l _ w' (h.below hb) : ∀ w', Below w.heap.size w w' → Calls Try.prog 35 #[.slice A l.length c] w' fun e w'' => e = .returned (.bool (lightF l)) ∧ Below w'.heap.size w' w'')
  have HH := Lib.hid (fun w' hb => lightH_any B d ch _ w' (hch.below hb) : ∀ w', Below w.heap.size w w' → Calls Try.prog 44 #[.slice B ch.length d] w' fun e w'' => e = .returned (.bool (lightH ch)) ∧ Below w'.heap.size w' w'')
  cases hL : lightF l
  · rw [hL] at HL
    go_enter Try.func10, Try.ntmps10
    go_wp2_with fail
    refine (HL.out _ (Below.refl _ _)).mono ?_
    rintro e w1 ⟨rfl, hw1⟩
    go_wp2_with fail
    refine (lives27_any _).mono ?_
    rintro e w9 ⟨rfl, hb9⟩
    go_wp2_with fail
    go_ret
    exact ⟨rfl, hw1.trans (hb9.mono hw1.size)⟩
  · rw [hL] at HL
    have hlen := lightF_len hL
    cases hM : lightH ch
    · rw [hM] at HH
      go_enter Try.func10, Try.ntmps10
      go_wp2_with fail
      refine (HL.out _ (Below.refl _ _)).mono ?_
      rintro e w1 ⟨rfl, hw1⟩
      go_wp2_with fail
      refine (HH.out _ hw1).mono ?_
      rintro e w2 ⟨rfl, hb⟩
      have hw2 := hw1.trans (hb.mono hw1.size)
      go_wp2_with fail
      refine (lives27_any _).mono ?_
      rintro e w9 ⟨rfl, hb9⟩
      go_wp2_with fail
      go_ret
      exact ⟨rfl, hw2.trans (hb9.mono hw2.size)⟩
    · rw [hM] at HH
      have hcl := lightH_len hM
      clear hL hM
      go_enter Try.func10, Try.ntmps10
      go_wp2_with fail
      refine (HL.out _ (Below.refl _ _)).mono ?_
      rintro e w1 ⟨rfl, hw1⟩
      go_wp2_with fail
      refine (HH.out _ hw1).mono ?_
      rintro e w2 ⟨rfl, hb⟩
      have hw2 := hw1.trans (hb.mono hw1.size)
      clear hb hw1 HL HH
      have HCL := Lib.hid (fun v (hv : Below w.heap.size w v) => (h.below hv).mono (Z' := fun b => b < v.heap.size) (fun b hb _ => hb))
      have HCH := Lib.hid (fun v (hv : Below w.heap.size w v) => (⟨(hch.below hv).rd.mono (fun b hb _ => hb), hch.p, hch.len⟩ : Hvs v (fun b => b < v.heap.size) B ch))
      have HPX : Hid (∀ x, Turns l x → ∀ o ∈ x, o.p.size ≤ 140737488355328) := fun x hx o ho => by
        obtain ⟨i, hi⟩ := List.mem_iff_getElem?.1 ho
        obtain ⟨q, hq, e⟩ := List.mem_map.1 (hx.path hi)
        rw [← e]
        exact h.p q hq
      have HPY : Hid (∀ x y, Turns l x → Turns (x.map (choM ch)) y → ∀ o ∈ y, o.p.size ≤ 140737488355328) := fun x y hx hy o ho => by
        obtain ⟨i, hi⟩ := List.mem_iff_getElem?.1 ho
        obtain ⟨q, hq, e⟩ := List.mem_map.1 (hy.path hi)
        obtain ⟨r, hr, rfl⟩ := List.mem_map.1 hq
        rw [← e, choM_p]
        exact HPX.out x hx r hr

      go_wp2_with fail
      refine (choApply_any A B c d l ch w2 (HCL.out _ hw2) (HCH.out _ hw2) (by omega)).mono ?_
      rintro e w3 ⟨A3, c3, x, y, rfl, hx, hy, hry, hb3⟩
      have hw3 := hw2.trans (hb3.mono hw2.size)
      go_wp2_with fail
      refine (choApplyR_any A B c d l ch w3 (HCL.out _ hw3) (HCH.out _ hw3) (by omega)).mono ?_
      rintro e w4 ⟨A4, c4, x', y', rfl, hx', hy', hry', hb4⟩
      obtain rfl := hx'.unique hx
      obtain rfl := (hy'.unique hy).symm
      have hw4 := hw3.trans (hb4.mono hw3.size)
      have hyp := HPY.out _ _ hx'.1 hy.1
      have hyl : y.length ≤ 140737488355328 := by
        have h1 := hy.1.le.1
        have h2 := hx'.1.le.1
        rw [List.length_map] at h1
        omega
      have HS := Lib.hid (sameR_any A3 A4 c3 c4 y y _ _ w4 ⟨hry.below hb4, hyp, hyl⟩ ⟨hry', hyp, hyl⟩)
      rw [(sameCs_iff y y).2 rfl] at HS
      clear hry hry' hy hy' hx' hyp hyl hb4 hb3
      go_wp2_with fail
      refine HS.out.mono ?_
      rintro e w5 ⟨rfl, hb5⟩
      have hw5 := hw4.trans (hb5.mono hw4.size)

      go_wp2_with fail
      refine (lives27_any _).mono ?_
      rintro e w9 ⟨rfl, hb9⟩
      go_wp2_with fail
      go_ret
      exact ⟨rfl, hw5.trans (hb9.mono hw5.size)⟩
end Go.Proofs.Ytffimpjjdhnajaa
