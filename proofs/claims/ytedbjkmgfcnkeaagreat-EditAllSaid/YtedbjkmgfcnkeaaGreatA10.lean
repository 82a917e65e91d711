/- tenderref03: User. -/
import Derived.Test.YtedbjkmgfcnkeaaGreatA09

namespace Go.Proofs.YtedbjkmgfcnkeaaGreat
open Go.RowKit

theorem refUser_any (s : ByteArray) (hs : s.size ≤ 9223372036854775807) (w : World) : Calls Tryz.prog 73 #[.string s] w fun e w' => e = .returned (.bool (userB (tl s))) ∧ Below w.heap.size w w' := by
  have HG := Lib.hid (fun w => refGood_any s hs w)
  cases h : goodB (tl s)
  · have hr : userB (tl s) = false := by unfold userB; rw [h]; rfl
    rw [hr]
    rw [h] at HG
    clear hr h
    go_enter Tryz.func73, Tryz.ntmps73
    go_wp2_with fail
    refine (HG.out _).mono ?_
    rintro e w1 ⟨rfl, hb⟩
    go_wp2_with fail
    go_ret
    exact ⟨rfl, hb⟩
  · have h0 : 0 < s.size := by have := List.length_pos_iff.2 (goodB_ne h); rwa [tl_len] at this
    obtain ⟨R, hR⟩ : ∃ R, R = userB (tl s) := ⟨_, rfl⟩
    have HR : Hid (R = !((tl s).head? == some 126)) := by show _ = _; rw [hR]; unfold userB; rw [h]; rfl
    rw [← hR]
    rw [h] at HG
    clear hR h
    go_enter Tryz.func73, Tryz.ntmps73
    go_wp2_with fail
    refine (HG.out _).mono ?_
    rintro e w1 ⟨rfl, hb⟩
    go_wp2_with fail
    go_ret
    refine ⟨ret_b ?_, hb⟩
    rw [HR.out]
    have e : (tl s).head? = some s[0] := by
      obtain ⟨⟨l⟩⟩ := s
      cases l with
      | nil => exact (Nat.lt_irrefl 0 h0).elim
      | cons c l => rfl
    rw [e, Bool.eq_iff_iff]
    generalize s[0] = c
    by_cases hc : c = 126
    · subst hc; decide
    · have h2 : ¬ c.toNat = 126 := fun e => hc (UInt8.toNat_inj.1 e)
      simp [hc]
      omega
end Go.Proofs.YtedbjkmgfcnkeaaGreat

/- edit.Check and tenderref10.Check. -/
namespace Go.Proofs.YtedbjkmgfcnkeaaGreat
open Go.RowKit


set_option maxRecDepth 100000 in
set_option maxHeartbeats 1000000 in
theorem editCheck_any (k : Int) (p t : List UInt8) (A : Option Addr) (n c : Nat) (w : World) (hp : p.length ≤ 140737488355328) (ht : t.length ≤ 140737488355328) (hn : n ≤ 140737488355328) :
    Calls Tryz.prog 54 #[.agg #[.int .i64 k, .string ⟨⟨p⟩⟩, .string ⟨⟨t⟩⟩, .slice A n c]] w fun e w' => e = .returned (.int .i64 (checkX k p t n)) ∧ Below w.heap.size w w' := by
  obtain ⟨M, hM⟩ : ∃ M, M = checkX k p t n := ⟨_, rfl⟩
  rw [← hM]
  have HM := Lib.hid hM
  have hw0 : Below w.heap.size w (w.alloc (.cells #[.int .i64 k, .string ⟨⟨p⟩⟩, .string ⟨⟨t⟩⟩, .slice A n c] 35)) := (by repeat (first | exact Below.refl _ _ | refine Below.alloc ?_ (by simp) _ | refine Below.setCell ?_ (by simp) _ | refine Below.drew ?_))
  have x0 := Blk.new w 35 #[.int .i64 k, .string ⟨⟨p⟩⟩, .string ⟨⟨t⟩⟩, .slice A n c]
  have HU1 := Lib.hid (fun W => user_any ⟨⟨p⟩⟩ (by show p.length ≤ _; omega) W)
  have HU2 := Lib.hid (fun W => user_any ⟨⟨t⟩⟩ (by show t.length ≤ _; omega) W)
  have HV := Lib.hid (fun W => under_any ⟨⟨t⟩⟩ ⟨⟨p⟩⟩ (by show t.length ≤ _; omega) (by show p.length ≤ _; omega) W)
  rw [show tl ⟨⟨p⟩⟩ = p from rfl] at HU1 HV
  rw [show tl ⟨⟨t⟩⟩ = t from rfl] at HU2 HV
  clear hM
  have q0 := x0.cell 0
  have q1 := x0.cell 1
  have q2 := x0.cell 2
  have q3 := x0.cell 3
  simp only [List.getElem?_toArray, List.getElem?_cons_zero, List.getElem?_cons_succ] at q0 q1 q2 q3
  rcases hu1 : userB p with _ | _
  · rw [hu1] at HU1
    obtain rfl : M = 23 := by rw [HM.out]; unfold checkX; rw [if_pos (.inl hu1)]
    go_enter Tryz.func54, Tryz.ntmps54
    go_wp2_with fail
    refine (HU1.out _).mono ?_
    rintro e w1 ⟨rfl, hb1⟩
    have x1 := x0.below hb1
    have hw1 := hw0.trans (hb1.mono hw0.size)
    clear q0 q1 q2 q3 hb1
    have q0 := x1.cell 0
    have q1 := x1.cell 1
    have q2 := x1.cell 2
    have q3 := x1.cell 3
    simp only [List.getElem?_toArray, List.getElem?_cons_zero, List.getElem?_cons_succ] at q0 q1 q2 q3
    go_wp2_with fail
    go_ret
    exact ⟨rfl, hw1⟩
  · rw [hu1] at HU1
    by_cases hk5 : k = 5
    · subst hk5
      rcases hu2 : userB t with _ | _
      · rw [hu2] at HU2
        obtain rfl : M = 23 := by rw [HM.out]; unfold checkX; rw [if_pos (.inr ⟨rfl, hu2⟩)]
        go_enter Tryz.func54, Tryz.ntmps54
        go_wp2_with fail
        refine (HU1.out _).mono ?_
        rintro e w1 ⟨rfl, hb1⟩
        have x1 := x0.below hb1
        have hw1 := hw0.trans (hb1.mono hw0.size)
        clear q0 q1 q2 q3 hb1
        have q0 := x1.cell 0
        have q1 := x1.cell 1
        have q2 := x1.cell 2
        have q3 := x1.cell 3
        simp only [List.getElem?_toArray, List.getElem?_cons_zero, List.getElem?_cons_succ] at q0 q1 q2 q3
        go_wp2_with fail
        refine (HU2.out _).mono ?_
        rintro e w2 ⟨rfl, hb2⟩
        have x2 := x1.below hb2
        have hw2 := hw1.trans (hb2.mono hw1.size)
        clear q0 q1 q2 q3 hb2
        have q0 := x2.cell 0
        have q1 := x2.cell 1
        have q2 := x2.cell 2
        have q3 := x2.cell 3
        simp only [List.getElem?_toArray, List.getElem?_cons_zero, List.getElem?_cons_succ] at q0 q1 q2 q3
        go_wp2_with fail
        go_ret
        exact ⟨rfl, hw2⟩
      · rw [hu2] at HU2
        by_cases htp : t = p
        · obtain rfl : M = 2 := by rw [HM.out]; unfold checkX; rw [if_neg (by simp [hu1, hu2]), if_pos (.inr (.inr ⟨rfl, .inl htp⟩))]
          subst htp
          have htb : (t == t) = true := by simp
          go_enter Tryz.func54, Tryz.ntmps54
          go_wp2_with fail
          refine (HU1.out _).mono ?_
          rintro e w1 ⟨rfl, hb1⟩
          have x1 := x0.below hb1
          have hw1 := hw0.trans (hb1.mono hw0.size)
          clear q0 q1 q2 q3 hb1
          have q0 := x1.cell 0
          have q1 := x1.cell 1
          have q2 := x1.cell 2
          have q3 := x1.cell 3
          simp only [List.getElem?_toArray, List.getElem?_cons_zero, List.getElem?_cons_succ] at q0 q1 q2 q3
          go_wp2_with fail
          refine (HU2.out _).mono ?_
          rintro e w2 ⟨rfl, hb2⟩
          have x2 := x1.below hb2
          have hw2 := hw1.trans (hb2.mono hw1.size)
          clear q0 q1 q2 q3 hb2
          have q0 := x2.cell 0
          have q1 := x2.cell 1
          have q2 := x2.cell 2
          have q3 := x2.cell 3
          simp only [List.getElem?_toArray, List.getElem?_cons_zero, List.getElem?_cons_succ] at q0 q1 q2 q3
          go_wp2_with fail
          go_ret
          exact ⟨rfl, hw2⟩
        · have htb : (t == p) = false := by simpa using htp
          rcases huv : underB t p with _ | _
          · rw [huv] at HV
            by_cases hn2 : 4096 < n
            · obtain rfl : M = 13 := by rw [HM.out]; unfold checkX; rw [if_neg (by simp [hu1, hu2]), if_neg (by simp [htp, huv]), if_pos hn2]
              have hn3 : (n : Int) > 4096 := by omega
              go_enter Tryz.func54, Tryz.ntmps54
              go_wp2_with fail
              refine (HU1.out _).mono ?_
              rintro e w1 ⟨rfl, hb1⟩
              have x1 := x0.below hb1
              have hw1 := hw0.trans (hb1.mono hw0.size)
              clear q0 q1 q2 q3 hb1
              have q0 := x1.cell 0
              have q1 := x1.cell 1
              have q2 := x1.cell 2
              have q3 := x1.cell 3
              simp only [List.getElem?_toArray, List.getElem?_cons_zero, List.getElem?_cons_succ] at q0 q1 q2 q3
              go_wp2_with fail
              refine (HU2.out _).mono ?_
              rintro e w2 ⟨rfl, hb2⟩
              have x2 := x1.below hb2
              have hw2 := hw1.trans (hb2.mono hw1.size)
              clear q0 q1 q2 q3 hb2
              have q0 := x2.cell 0
              have q1 := x2.cell 1
              have q2 := x2.cell 2
              have q3 := x2.cell 3
              simp only [List.getElem?_toArray, List.getElem?_cons_zero, List.getElem?_cons_succ] at q0 q1 q2 q3
              go_wp2_with fail
              refine (HV.out _).mono ?_
              rintro e w3 ⟨rfl, hb3⟩
              have x3 := x2.below hb3
              have hw3 := hw2.trans (hb3.mono hw2.size)
              clear q0 q1 q2 q3 hb3
              have q0 := x3.cell 0
              have q1 := x3.cell 1
              have q2 := x3.cell 2
              have q3 := x3.cell 3
              simp only [List.getElem?_toArray, List.getElem?_cons_zero, List.getElem?_cons_succ] at q0 q1 q2 q3
              go_wp2_with fail
              go_ret
              exact ⟨rfl, hw3⟩
            · obtain rfl : M = 0 := by rw [HM.out]; unfold checkX; rw [if_neg (by simp [hu1, hu2]), if_neg (by simp [htp, huv]), if_neg hn2]
              have hn3 : (n : Int) ≤ 4096 := by omega
              go_enter Tryz.func54, Tryz.ntmps54
              go_wp2_with fail
              refine (HU1.out _).mono ?_
              rintro e w1 ⟨rfl, hb1⟩
              have x1 := x0.below hb1
              have hw1 := hw0.trans (hb1.mono hw0.size)
              clear q0 q1 q2 q3 hb1
              have q0 := x1.cell 0
              have q1 := x1.cell 1
              have q2 := x1.cell 2
              have q3 := x1.cell 3
              simp only [List.getElem?_toArray, List.getElem?_cons_zero, List.getElem?_cons_succ] at q0 q1 q2 q3
              go_wp2_with fail
              refine (HU2.out _).mono ?_
              rintro e w2 ⟨rfl, hb2⟩
              have x2 := x1.below hb2
              have hw2 := hw1.trans (hb2.mono hw1.size)
              clear q0 q1 q2 q3 hb2
              have q0 := x2.cell 0
              have q1 := x2.cell 1
              have q2 := x2.cell 2
              have q3 := x2.cell 3
              simp only [List.getElem?_toArray, List.getElem?_cons_zero, List.getElem?_cons_succ] at q0 q1 q2 q3
              go_wp2_with fail
              refine (HV.out _).mono ?_
              rintro e w3 ⟨rfl, hb3⟩
              have x3 := x2.below hb3
              have hw3 := hw2.trans (hb3.mono hw2.size)
              clear q0 q1 q2 q3 hb3
              have q0 := x3.cell 0
              have q1 := x3.cell 1
              have q2 := x3.cell 2
              have q3 := x3.cell 3
              simp only [List.getElem?_toArray, List.getElem?_cons_zero, List.getElem?_cons_succ] at q0 q1 q2 q3
              go_wp2_with fail
              go_ret
              exact ⟨rfl, hw3⟩
          · rw [huv] at HV
            obtain rfl : M = 2 := by rw [HM.out]; unfold checkX; rw [if_neg (by simp [hu1, hu2]), if_pos (.inr (.inr ⟨rfl, .inr huv⟩))]
            go_enter Tryz.func54, Tryz.ntmps54
            go_wp2_with fail
            refine (HU1.out _).mono ?_
            rintro e w1 ⟨rfl, hb1⟩
            have x1 := x0.below hb1
            have hw1 := hw0.trans (hb1.mono hw0.size)
            clear q0 q1 q2 q3 hb1
            have q0 := x1.cell 0
            have q1 := x1.cell 1
            have q2 := x1.cell 2
            have q3 := x1.cell 3
            simp only [List.getElem?_toArray, List.getElem?_cons_zero, List.getElem?_cons_succ] at q0 q1 q2 q3
            go_wp2_with fail
            refine (HU2.out _).mono ?_
            rintro e w2 ⟨rfl, hb2⟩
            have x2 := x1.below hb2
            have hw2 := hw1.trans (hb2.mono hw1.size)
            clear q0 q1 q2 q3 hb2
            have q0 := x2.cell 0
            have q1 := x2.cell 1
            have q2 := x2.cell 2
            have q3 := x2.cell 3
            simp only [List.getElem?_toArray, List.getElem?_cons_zero, List.getElem?_cons_succ] at q0 q1 q2 q3
            go_wp2_with fail
            refine (HV.out _).mono ?_
            rintro e w3 ⟨rfl, hb3⟩
            have x3 := x2.below hb3
            have hw3 := hw2.trans (hb3.mono hw2.size)
            clear q0 q1 q2 q3 hb3
            have q0 := x3.cell 0
            have q1 := x3.cell 1
            have q2 := x3.cell 2
            have q3 := x3.cell 3
            simp only [List.getElem?_toArray, List.getElem?_cons_zero, List.getElem?_cons_succ] at q0 q1 q2 q3
            go_wp2_with fail
            go_ret
            exact ⟨rfl, hw3⟩
    · have hk5b : (k == 5) = false := by simpa using hk5
      by_cases hr : 1 ≤ k ∧ k ≤ 5
      · by_cases hn2 : 4096 < n
        · obtain rfl : M = 13 := by rw [HM.out]; unfold checkX; rw [if_neg (by simp [hu1, hk5]), if_neg (by simp [hk5]; omega), if_pos hn2]
          have hn3 : (n : Int) > 4096 := by omega
          obtain rfl | rfl | rfl | rfl : k = 1 ∨ k = 2 ∨ k = 3 ∨ k = 4 := by omega
          all_goals
            go_enter Tryz.func54, Tryz.ntmps54
            go_wp2_with fail
            refine (HU1.out _).mono ?_
            rintro e w1 ⟨rfl, hb1⟩
            have x1 := x0.below hb1
            have hw1 := hw0.trans (hb1.mono hw0.size)
            clear q0 q1 q2 q3 hb1
            have q0 := x1.cell 0
            have q1 := x1.cell 1
            have q2 := x1.cell 2
            have q3 := x1.cell 3
            simp only [List.getElem?_toArray, List.getElem?_cons_zero, List.getElem?_cons_succ] at q0 q1 q2 q3
            go_wp2_with fail
            go_ret
            exact ⟨rfl, hw1⟩
        · obtain rfl : M = 0 := by rw [HM.out]; unfold checkX; rw [if_neg (by simp [hu1, hk5]), if_neg (by simp [hk5]; omega), if_neg hn2]
          have hn3 : (n : Int) ≤ 4096 := by omega
          obtain rfl | rfl | rfl | rfl : k = 1 ∨ k = 2 ∨ k = 3 ∨ k = 4 := by omega
          all_goals
            go_enter Tryz.func54, Tryz.ntmps54
            go_wp2_with fail
            refine (HU1.out _).mono ?_
            rintro e w1 ⟨rfl, hb1⟩
            have x1 := x0.below hb1
            have hw1 := hw0.trans (hb1.mono hw0.size)
            clear q0 q1 q2 q3 hb1
            have q0 := x1.cell 0
            have q1 := x1.cell 1
            have q2 := x1.cell 2
            have q3 := x1.cell 3
            simp only [List.getElem?_toArray, List.getElem?_cons_zero, List.getElem?_cons_succ] at q0 q1 q2 q3
            go_wp2_with fail
            go_ret
            exact ⟨rfl, hw1⟩
      · obtain rfl : M = 2 := by rw [HM.out]; unfold checkX; rw [if_neg (by simp [hu1, hk5]), if_pos (by omega)]
        have h1 : (k == 1) = false := by simp; omega
        have h2 : (k == 2) = false := by simp; omega
        have h3 : (k == 3) = false := by simp; omega
        have h4 : (k == 4) = false := by simp; omega
        by_cases hk : k < 1
        · clear h1
          go_enter Tryz.func54, Tryz.ntmps54
          go_wp2_with fail
          refine (HU1.out _).mono ?_
          rintro e w1 ⟨rfl, hb1⟩
          have x1 := x0.below hb1
          have hw1 := hw0.trans (hb1.mono hw0.size)
          clear q0 q1 q2 q3 hb1
          have q0 := x1.cell 0
          have q1 := x1.cell 1
          have q2 := x1.cell 2
          have q3 := x1.cell 3
          simp only [List.getElem?_toArray, List.getElem?_cons_zero, List.getElem?_cons_succ] at q0 q1 q2 q3
          go_wp2_with fail
          go_ret
          exact ⟨rfl, hw1⟩
        · have hkg : 5 < k := by omega
          have hkl : ¬ k < 1 := by omega
          go_enter Tryz.func54, Tryz.ntmps54
          go_wp2_with fail
          refine (HU1.out _).mono ?_
          rintro e w1 ⟨rfl, hb1⟩
          have x1 := x0.below hb1
          have hw1 := hw0.trans (hb1.mono hw0.size)
          clear q0 q1 q2 q3 hb1
          have q0 := x1.cell 0
          have q1 := x1.cell 1
          have q2 := x1.cell 2
          have q3 := x1.cell 3
          simp only [List.getElem?_toArray, List.getElem?_cons_zero, List.getElem?_cons_succ] at q0 q1 q2 q3
          go_wp2_with fail
          go_ret
          exact ⟨rfl, hw1⟩


set_option maxRecDepth 100000 in
set_option maxHeartbeats 1000000 in
theorem editCheckR_any (k : Int) (p t : List UInt8) (A : Option Addr) (n c : Nat) (w : World) (hp : p.length ≤ 140737488355328) (ht : t.length ≤ 140737488355328) (hn : n ≤ 140737488355328) :
    Calls Tryz.prog 63 #[.agg #[.int .i64 k, .string ⟨⟨p⟩⟩, .string ⟨⟨t⟩⟩, .slice A n c]] w fun e w' => e = .returned (.int .i64 (checkX k p t n)) ∧ Below w.heap.size w w' := by
  obtain ⟨M, hM⟩ : ∃ M, M = checkX k p t n := ⟨_, rfl⟩
  rw [← hM]
  have HM := Lib.hid hM
  have hw0 : Below w.heap.size w (w.alloc (.cells #[.int .i64 k, .string ⟨⟨p⟩⟩, .string ⟨⟨t⟩⟩, .slice A n c] 35)) := (by repeat (first | exact Below.refl _ _ | refine Below.alloc ?_ (by simp) _ | refine Below.setCell ?_ (by simp) _ | refine Below.drew ?_))
  have x0 := Blk.new w 35 #[.int .i64 k, .string ⟨⟨p⟩⟩, .string ⟨⟨t⟩⟩, .slice A n c]
  have HU1 := Lib.hid (fun W => refUser_any ⟨⟨p⟩⟩ (by show p.length ≤ _; omega) W)
  have HU2 := Lib.hid (fun W => refUser_any ⟨⟨t⟩⟩ (by show t.length ≤ _; omega) W)
  have HV := Lib.hid (fun W => refUnder_any ⟨⟨t⟩⟩ ⟨⟨p⟩⟩ (by show t.length ≤ _; omega) (by show p.length ≤ _; omega) W)
  rw [show tl ⟨⟨p⟩⟩ = p from rfl] at HU1 HV
  rw [show tl ⟨⟨t⟩⟩ = t from rfl] at HU2 HV
  clear hM
  have q0 := x0.cell 0
  have q1 := x0.cell 1
  have q2 := x0.cell 2
  have q3 := x0.cell 3
  simp only [List.getElem?_toArray, List.getElem?_cons_zero, List.getElem?_cons_succ] at q0 q1 q2 q3
  rcases hu1 : userB p with _ | _
  · rw [hu1] at HU1
    obtain rfl : M = 23 := by rw [HM.out]; unfold checkX; rw [if_pos (.inl hu1)]
    go_enter Tryz.func63, Tryz.ntmps63
    go_wp2_with fail
    refine (HU1.out _).mono ?_
    rintro e w1 ⟨rfl, hb1⟩
    have x1 := x0.below hb1
    have hw1 := hw0.trans (hb1.mono hw0.size)
    clear q0 q1 q2 q3 hb1
    have q0 := x1.cell 0
    have q1 := x1.cell 1
    have q2 := x1.cell 2
    have q3 := x1.cell 3
    simp only [List.getElem?_toArray, List.getElem?_cons_zero, List.getElem?_cons_succ] at q0 q1 q2 q3
    go_wp2_with fail
    go_ret
    exact ⟨rfl, hw1⟩
  · rw [hu1] at HU1
    by_cases hk5 : k = 5
    · subst hk5
      rcases hu2 : userB t with _ | _
      · rw [hu2] at HU2
        obtain rfl : M = 23 := by rw [HM.out]; unfold checkX; rw [if_pos (.inr ⟨rfl, hu2⟩)]
        go_enter Tryz.func63, Tryz.ntmps63
        go_wp2_with fail
        refine (HU1.out _).mono ?_
        rintro e w1 ⟨rfl, hb1⟩
        have x1 := x0.below hb1
        have hw1 := hw0.trans (hb1.mono hw0.size)
        clear q0 q1 q2 q3 hb1
        have q0 := x1.cell 0
        have q1 := x1.cell 1
        have q2 := x1.cell 2
        have q3 := x1.cell 3
        simp only [List.getElem?_toArray, List.getElem?_cons_zero, List.getElem?_cons_succ] at q0 q1 q2 q3
        go_wp2_with fail
        refine (HU2.out _).mono ?_
        rintro e w2 ⟨rfl, hb2⟩
        have x2 := x1.below hb2
        have hw2 := hw1.trans (hb2.mono hw1.size)
        clear q0 q1 q2 q3 hb2
        have q0 := x2.cell 0
        have q1 := x2.cell 1
        have q2 := x2.cell 2
        have q3 := x2.cell 3
        simp only [List.getElem?_toArray, List.getElem?_cons_zero, List.getElem?_cons_succ] at q0 q1 q2 q3
        go_wp2_with fail
        go_ret
        exact ⟨rfl, hw2⟩
      · rw [hu2] at HU2
        by_cases htp : t = p
        · obtain rfl : M = 2 := by rw [HM.out]; unfold checkX; rw [if_neg (by simp [hu1, hu2]), if_pos (.inr (.inr ⟨rfl, .inl htp⟩))]
          subst htp
          have htb : (t == t) = true := by simp
          go_enter Tryz.func63, Tryz.ntmps63
          go_wp2_with fail
          refine (HU1.out _).mono ?_
          rintro e w1 ⟨rfl, hb1⟩
          have x1 := x0.below hb1
          have hw1 := hw0.trans (hb1.mono hw0.size)
          clear q0 q1 q2 q3 hb1
          have q0 := x1.cell 0
          have q1 := x1.cell 1
          have q2 := x1.cell 2
          have q3 := x1.cell 3
          simp only [List.getElem?_toArray, List.getElem?_cons_zero, List.getElem?_cons_succ] at q0 q1 q2 q3
          go_wp2_with fail
          refine (HU2.out _).mono ?_
          rintro e w2 ⟨rfl, hb2⟩
          have x2 := x1.below hb2
          have hw2 := hw1.trans (hb2.mono hw1.size)
          clear q0 q1 q2 q3 hb2
          have q0 := x2.cell 0
          have q1 := x2.cell 1
          have q2 := x2.cell 2
          have q3 := x2.cell 3
          simp only [List.getElem?_toArray, List.getElem?_cons_zero, List.getElem?_cons_succ] at q0 q1 q2 q3
          go_wp2_with fail
          go_ret
          exact ⟨rfl, hw2⟩
        · have htb : (t == p) = false := by simpa using htp
          rcases huv : underB t p with _ | _
          · rw [huv] at HV
            by_cases hn2 : 4096 < n
            · obtain rfl : M = 13 := by rw [HM.out]; unfold checkX; rw [if_neg (by simp [hu1, hu2]), if_neg (by simp [htp, huv]), if_pos hn2]
              have hn3 : (n : Int) > 4096 := by omega
              go_enter Tryz.func63, Tryz.ntmps63
              go_wp2_with fail
              refine (HU1.out _).mono ?_
              rintro e w1 ⟨rfl, hb1⟩
              have x1 := x0.below hb1
              have hw1 := hw0.trans (hb1.mono hw0.size)
              clear q0 q1 q2 q3 hb1
              have q0 := x1.cell 0
              have q1 := x1.cell 1
              have q2 := x1.cell 2
              have q3 := x1.cell 3
              simp only [List.getElem?_toArray, List.getElem?_cons_zero, List.getElem?_cons_succ] at q0 q1 q2 q3
              go_wp2_with fail
              refine (HU2.out _).mono ?_
              rintro e w2 ⟨rfl, hb2⟩
              have x2 := x1.below hb2
              have hw2 := hw1.trans (hb2.mono hw1.size)
              clear q0 q1 q2 q3 hb2
              have q0 := x2.cell 0
              have q1 := x2.cell 1
              have q2 := x2.cell 2
              have q3 := x2.cell 3
              simp only [List.getElem?_toArray, List.getElem?_cons_zero, List.getElem?_cons_succ] at q0 q1 q2 q3
              go_wp2_with fail
              refine (HV.out _).mono ?_
              rintro e w3 ⟨rfl, hb3⟩
              have x3 := x2.below hb3
              have hw3 := hw2.trans (hb3.mono hw2.size)
              clear q0 q1 q2 q3 hb3
              have q0 := x3.cell 0
              have q1 := x3.cell 1
              have q2 := x3.cell 2
              have q3 := x3.cell 3
              simp only [List.getElem?_toArray, List.getElem?_cons_zero, List.getElem?_cons_succ] at q0 q1 q2 q3
              go_wp2_with fail
              go_ret
              exact ⟨rfl, hw3⟩
            · obtain rfl : M = 0 := by rw [HM.out]; unfold checkX; rw [if_neg (by simp [hu1, hu2]), if_neg (by simp [htp, huv]), if_neg hn2]
              have hn3 : (n : Int) ≤ 4096 := by omega
              go_enter Tryz.func63, Tryz.ntmps63
              go_wp2_with fail
              refine (HU1.out _).mono ?_
              rintro e w1 ⟨rfl, hb1⟩
              have x1 := x0.below hb1
              have hw1 := hw0.trans (hb1.mono hw0.size)
              clear q0 q1 q2 q3 hb1
              have q0 := x1.cell 0
              have q1 := x1.cell 1
              have q2 := x1.cell 2
              have q3 := x1.cell 3
              simp only [List.getElem?_toArray, List.getElem?_cons_zero, List.getElem?_cons_succ] at q0 q1 q2 q3
              go_wp2_with fail
              refine (HU2.out _).mono ?_
              rintro e w2 ⟨rfl, hb2⟩
              have x2 := x1.below hb2
              have hw2 := hw1.trans (hb2.mono hw1.size)
              clear q0 q1 q2 q3 hb2
              have q0 := x2.cell 0
              have q1 := x2.cell 1
              have q2 := x2.cell 2
              have q3 := x2.cell 3
              simp only [List.getElem?_toArray, List.getElem?_cons_zero, List.getElem?_cons_succ] at q0 q1 q2 q3
              go_wp2_with fail
              refine (HV.out _).mono ?_
              rintro e w3 ⟨rfl, hb3⟩
              have x3 := x2.below hb3
              have hw3 := hw2.trans (hb3.mono hw2.size)
              clear q0 q1 q2 q3 hb3
              have q0 := x3.cell 0
              have q1 := x3.cell 1
              have q2 := x3.cell 2
              have q3 := x3.cell 3
              simp only [List.getElem?_toArray, List.getElem?_cons_zero, List.getElem?_cons_succ] at q0 q1 q2 q3
              go_wp2_with fail
              go_ret
              exact ⟨rfl, hw3⟩
          · rw [huv] at HV
            obtain rfl : M = 2 := by rw [HM.out]; unfold checkX; rw [if_neg (by simp [hu1, hu2]), if_pos (.inr (.inr ⟨rfl, .inr huv⟩))]
            go_enter Tryz.func63, Tryz.ntmps63
            go_wp2_with fail
            refine (HU1.out _).mono ?_
            rintro e w1 ⟨rfl, hb1⟩
            have x1 := x0.below hb1
            have hw1 := hw0.trans (hb1.mono hw0.size)
            clear q0 q1 q2 q3 hb1
            have q0 := x1.cell 0
            have q1 := x1.cell 1
            have q2 := x1.cell 2
            have q3 := x1.cell 3
            simp only [List.getElem?_toArray, List.getElem?_cons_zero, List.getElem?_cons_succ] at q0 q1 q2 q3
            go_wp2_with fail
            refine (HU2.out _).mono ?_
            rintro e w2 ⟨rfl, hb2⟩
            have x2 := x1.below hb2
            have hw2 := hw1.trans (hb2.mono hw1.size)
            clear q0 q1 q2 q3 hb2
            have q0 := x2.cell 0
            have q1 := x2.cell 1
            have q2 := x2.cell 2
            have q3 := x2.cell 3
            simp only [List.getElem?_toArray, List.getElem?_cons_zero, List.getElem?_cons_succ] at q0 q1 q2 q3
            go_wp2_with fail
            refine (HV.out _).mono ?_
            rintro e w3 ⟨rfl, hb3⟩
            have x3 := x2.below hb3
            have hw3 := hw2.trans (hb3.mono hw2.size)
            clear q0 q1 q2 q3 hb3
            have q0 := x3.cell 0
            have q1 := x3.cell 1
            have q2 := x3.cell 2
            have q3 := x3.cell 3
            simp only [List.getElem?_toArray, List.getElem?_cons_zero, List.getElem?_cons_succ] at q0 q1 q2 q3
            go_wp2_with fail
            go_ret
            exact ⟨rfl, hw3⟩
    · have hk5b : (k == 5) = false := by simpa using hk5
      by_cases hr : 1 ≤ k ∧ k ≤ 5
      · by_cases hn2 : 4096 < n
        · obtain rfl : M = 13 := by rw [HM.out]; unfold checkX; rw [if_neg (by simp [hu1, hk5]), if_neg (by simp [hk5]; omega), if_pos hn2]
          have hn3 : (n : Int) > 4096 := by omega
          obtain rfl | rfl | rfl | rfl : k = 1 ∨ k = 2 ∨ k = 3 ∨ k = 4 := by omega
          all_goals
            go_enter Tryz.func63, Tryz.ntmps63
            go_wp2_with fail
            refine (HU1.out _).mono ?_
            rintro e w1 ⟨rfl, hb1⟩
            have x1 := x0.below hb1
            have hw1 := hw0.trans (hb1.mono hw0.size)
            clear q0 q1 q2 q3 hb1
            have q0 := x1.cell 0
            have q1 := x1.cell 1
            have q2 := x1.cell 2
            have q3 := x1.cell 3
            simp only [List.getElem?_toArray, List.getElem?_cons_zero, List.getElem?_cons_succ] at q0 q1 q2 q3
            go_wp2_with fail
            go_ret
            exact ⟨rfl, hw1⟩
        · obtain rfl : M = 0 := by rw [HM.out]; unfold checkX; rw [if_neg (by simp [hu1, hk5]), if_neg (by simp [hk5]; omega), if_neg hn2]
          have hn3 : (n : Int) ≤ 4096 := by omega
          obtain rfl | rfl | rfl | rfl : k = 1 ∨ k = 2 ∨ k = 3 ∨ k = 4 := by omega
          all_goals
            go_enter Tryz.func63, Tryz.ntmps63
            go_wp2_with fail
            refine (HU1.out _).mono ?_
            rintro e w1 ⟨rfl, hb1⟩
            have x1 := x0.below hb1
            have hw1 := hw0.trans (hb1.mono hw0.size)
            clear q0 q1 q2 q3 hb1
            have q0 := x1.cell 0
            have q1 := x1.cell 1
            have q2 := x1.cell 2
            have q3 := x1.cell 3
            simp only [List.getElem?_toArray, List.getElem?_cons_zero, List.getElem?_cons_succ] at q0 q1 q2 q3
            go_wp2_with fail
            go_ret
            exact ⟨rfl, hw1⟩
      · obtain rfl : M = 2 := by rw [HM.out]; unfold checkX; rw [if_neg (by simp [hu1, hk5]), if_pos (by omega)]
        have h1 : (k == 1) = false := by simp; omega
        have h2 : (k == 2) = false := by simp; omega
        have h3 : (k == 3) = false := by simp; omega
        have h4 : (k == 4) = false := by simp; omega
        by_cases hk : k < 1
        · clear h1
          go_enter Tryz.func63, Tryz.ntmps63
          go_wp2_with fail
          refine (HU1.out _).mono ?_
          rintro e w1 ⟨rfl, hb1⟩
          have x1 := x0.below hb1
          have hw1 := hw0.trans (hb1.mono hw0.size)
          clear q0 q1 q2 q3 hb1
          have q0 := x1.cell 0
          have q1 := x1.cell 1
          have q2 := x1.cell 2
          have q3 := x1.cell 3
          simp only [List.getElem?_toArray, List.getElem?_cons_zero, List.getElem?_cons_succ] at q0 q1 q2 q3
          go_wp2_with fail
          go_ret
          exact ⟨rfl, hw1⟩
        · have hkg : 5 < k := by omega
          have hkl : ¬ k < 1 := by omega
          go_enter Tryz.func63, Tryz.ntmps63
          go_wp2_with fail
          refine (HU1.out _).mono ?_
          rintro e w1 ⟨rfl, hb1⟩
          have x1 := x0.below hb1
          have hw1 := hw0.trans (hb1.mono hw0.size)
          clear q0 q1 q2 q3 hb1
          have q0 := x1.cell 0
          have q1 := x1.cell 1
          have q2 := x1.cell 2
          have q3 := x1.cell 3
          simp only [List.getElem?_toArray, List.getElem?_cons_zero, List.getElem?_cons_succ] at q0 q1 q2 q3
          go_wp2_with fail
          go_ret
          exact ⟨rfl, hw1⟩

end Go.Proofs.YtedbjkmgfcnkeaaGreat

/- edit.Items. -/
namespace Go.Proofs.YtedbjkmgfcnkeaaGreat
open Go.RowKit Go.Maps

theorem TreeAt.rowOwn {w : World} {tb : Nat} {mo : Option Nat} {K : List (List UInt8 × LV)} (t : TreeAt w tb mo K) {base n size : Nat} {e : TypeId} {v : Value} {xs : List Value} (h : w.ownsRow base e size v n xs) (he : e ≠ 84) : ∀ g, v.ownBlock = some g → ¬ (g = tb ∨ mo = some g) := t.ownT h he
theorem ItsOwn.set {w w' : World} {base : Nat} {A : Option Addr} {c : Nat} {M K : List (List UInt8 × LV)} {tb : Nat} {mo : Option Nat} (h : ItsOwn w base A c M) (t : TreeAt w tb mo K) (k : Fr (fun g => g = tb ∨ mo = some g) w w') : ItsOwn w' base A c M :=
  ⟨own_fr h.row k (t.ownT h.row (by decide)), fun x hx => own_fr (h.byt x hx) k (t.ownT (h.byt x hx) (by decide))⟩
/-- items of the call's own, as a row, by what they tell -/
theorem ItsOwn.itsS {w : World} {base : Nat} {A : Option Addr} {c : Nat} {M : List (List UInt8 × LV)} {T : List (List UInt8 × LP)} (h : ItsOwn w base A c M) (hM : Hid (plainL M = T)) (hs : ∀ x ∈ T, x.1.length ≤ 1048576 ∧ x.2.2.length ≤ 4096) (hl : T.length ≤ 300) : Its w A M := by
  refine h.its (by rw [← plain_len, hM.out]; omega) (fun x hx => ?_)
  have := hs (x.1, x.2.p) (by rw [← hM.out]; exact List.mem_map.2 ⟨x, hx, rfl⟩)
  have h2 : x.2.x.l.length ≤ 4096 := this.2
  exact ⟨this.1, by omega⟩

set_option maxRecDepth 100000 in
set_option maxHeartbeats 4000000 in
theorem items_any (tb : Nat) (mo : Option Nat) (L : List (List UInt8 × LV)) (k : Int) (p t : List UInt8) (dA : Option Addr) (dc : Nat) (dl : List UInt8) (Z : Nat → Prop) (w : World) (h : TreeAt w tb mo L) (hp : p.length ≤ 1048576) (ht : t.length ≤ 1048576) (hy : By w Z dA dl) (hdl : dl.length ≤ 140737488355328) :
    Calls Tryz.prog 27 #[.pointer (some ⟨tb, 0, none⟩), .agg #[.int .i64 k, .string ⟨⟨p⟩⟩, .string ⟨⟨t⟩⟩, .slice dA dl.length dc]] w fun e w' => ∃ (A : Option Addr) (c : Nat) (M : List (List UInt8 × LV)), e = .returned (.tuple #[.slice A M.length c, .int .i64 (itemsS (plainL L) k p t dl).2]) ∧ Hid (plainL M = (itemsS (plainL L) k p t dl).1) ∧ ItsOwn w' w.heap.size A c M ∧ Below w.heap.size w w' := by
  have hok := h.plain
  obtain ⟨T, hT⟩ : ∃ T, T = plainL L := ⟨_, rfl⟩
  have hTT : Hid (plainL L = T) := Lib.hid hT.symm
  rw [← hT] at hok ⊢
  obtain ⟨R, hR⟩ : ∃ R, R = itemsS T k p t dl := ⟨_, rfl⟩
  rw [← hR]
  have HR := Lib.hid hR
  have HT := Lib.hid h
  have HY := Lib.hid hy
  have HOK := Lib.hid hok
  have hw0 : Below w.heap.size w (w.alloc (.cells #[.int .i64 k, .string ⟨⟨p⟩⟩, .string ⟨⟨t⟩⟩, .slice dA dl.length dc] 35)) := (by repeat (first | exact Below.refl _ _ | refine Below.alloc ?_ (by simp) _ | refine Below.setCell ?_ (by simp) _ | refine Below.drew ?_))
  have x0 := Blk.new w 35 #[.int .i64 k, .string ⟨⟨p⟩⟩, .string ⟨⟨t⟩⟩, .slice dA dl.length dc]
  have q0 := x0.cell 0
  have q1 := x0.cell 1
  have q2 := x0.cell 2
  have q3 := x0.cell 3
  simp only [List.getElem?_toArray, List.getElem?_cons_zero, List.getElem?_cons_succ] at q0 q1 q2 q3
  obtain ⟨ck, hck⟩ : ∃ ck, ck = checkX k p t dl.length := ⟨_, rfl⟩
  have HCK := Lib.hid (fun W => editCheck_any k p t dA dl.length dc W (by omega) (by omega) hdl)
  rw [← hck] at HCK
  have HK := Lib.hid hck
  clear h hT hR hok hy hck
  go_enter Tryz.func27, Tryz.ntmps27
  go_wp2_with fail
  refine (HCK.out _).mono ?_
  rintro e w1 ⟨rfl, hb1⟩
  have x1 := x0.below hb1
  have hw1 := hw0.trans (hb1.mono hw0.size)
  clear q0 q1 q2 q3 hb1 x0 hw0 HCK
  have q0 := x1.cell 0
  have q1 := x1.cell 1
  have q2 := x1.cell 2
  have q3 := x1.cell 3
  simp only [List.getElem?_toArray, List.getElem?_cons_zero, List.getElem?_cons_succ] at q0 q1 q2 q3
  by_cases hc0 : ck = 0
  · have hk15 : 1 ≤ k ∧ k ≤ 5 ∧ dl.length ≤ 4096 := by
      have := HK.out
      rw [hc0] at this
      unfold checkX at this
      split at this
      · cases this
      · split at this
        · cases this
        · rename_i h2
          split at this
          · cases this
          · omega
    have HR1 : Hid (R = if (planS T k p t dl).2 ≠ 0 then ([], (planS T k p t dl).2) else if (tryS T (planS T k p t dl).1).2 ≠ 0 then ([], (tryS T (planS T k p t dl).1).2) else ((planS T k p t dl).1, 0)) := Lib.hid (by
      rw [HR.out]; unfold itemsS; rw [← HK.out, if_neg (by simpa using hc0)])
    subst hc0
    have HPL := Lib.hid (plan_any tb mo L k p t dA dc dl Z w1 (HT.out.below hw1) hp ht (HY.out.below hw1) hk15.2.2 ⟨hk15.1, hk15.2.1⟩)
    rw [hTT.out] at HPL
    obtain ⟨S, hS⟩ : ∃ S, S = planS T k p t dl := ⟨_, rfl⟩
    rw [← hS] at HPL HR1
    have hSl := plan_small HOK.out k p t dl hp hk15.2.2
    rw [← hS] at hSl
    clear HR HK hS hk15
    go_wp2_with fail
    refine HPL.out.mono ?_
    rintro e w2 ⟨A, c, M, rfl, hM, hO, hb2⟩
    have hw2 := hw1.trans (hb2.mono hw1.size)
    have HO := Lib.hid (hO.base (base' := w.heap.size) hw1.size)
    have hMl : M.length ≤ 300 := by rw [← plain_len, hM.out]; exact hSl.1
    have HSM : Hid (∀ x ∈ M, x.1.length ≤ 1048576 ∧ x.2.x.l.length ≤ 140737488355328) := Lib.hid (fun x hx => by
      have := hSl.2 (x.1, x.2.p) (by rw [← hM.out]; exact List.mem_map.2 ⟨x, hx, rfl⟩)
      have h2 : x.2.x.l.length ≤ 4096 := this.2
      exact ⟨this.1, by omega⟩)
    clear hO hb2 HPL q0 q1 q2 q3 x1 hSl
    by_cases hs0 : S.2 = 0
    · have HR2 : Hid (R = if (tryS T S.1).2 ≠ 0 then ([], (tryS T S.1).2) else (S.1, 0)) := Lib.hid (by rw [HR1.out, if_neg (by simpa using hs0)])
      rw [hs0]
      rw [← hM.out] at HR2
      clear HR1 hs0 hM
      go_wp2_with fail
      refine (treeClone_any tb mo L w2 (HT.out.below hw2)).mono ?_
      rintro e w3 ⟨cb, mo', rfl, hcb, hmc, hC, hb3⟩
      have hw3 := hw2.trans (hb3.mono hw2.size)
      have HO3 := Lib.hid (HO.out.below hb3)
      have hcw : w.heap.size ≤ cb := Nat.le_trans hw2.size hcb
      have hmw : ∀ m, mo' = some m → w.heap.size ≤ m := fun m e => Nat.le_trans hw2.size (hmc m e)
      have HC := Lib.hid hC
      clear hC HO hb3 hmc hcb
      go_wp2_with fail
      go_loopw [31] (fun iv wr => ∃ (i : Nat) (m2 : Option Nat) (K : List (List UInt8 × LV)), i ≤ M.length ∧ iv = .int .i64 (i : Int) ∧ TreeAt wr cb m2 K ∧ Hid (tryS T (plainL (M.take i)) = (plainL K, 0)) ∧ (∀ m, m2 = some m → w.heap.size ≤ m) ∧ ItsOwn wr w.heap.size A c M ∧ Below w.heap.size w wr) (fun iv _ => M.length - (intOf iv).toNat)
      case atStart => exact ⟨0, mo', L, Nat.zero_le _, rfl, HC.out, by show _ = _; rw [hTT.out]; rfl, hmw, HO3.out, hw3⟩
      case round =>
        obtain ⟨i, m2, K, hi, rfl, hTK, hn, hm2, hOr, hb⟩ := hrel
        by_cases hlt : i < M.length
        · obtain ⟨b, off, hA, hbb, c0, c1, c2⟩ := item_at (Rd.of_own hOr.row (fun _ _ _ => trivial)) hlt
          have hxo := hOr.byt _ (List.getElem_mem hlt)
          have hps : tryS T (plainL (M.take (i + 1))) = (setS (plainL K) M[i].1 M[i].2.p, mayS (plainL K) M[i].1 M[i].2.p) := by rw [plain_snoc M i hlt, try_snoc, hn.out]; rfl
          have hst : mayS (plainL K) M[i].1 M[i].2.p ≠ 0 → tryS T (plainL M) = tryS T (plainL (M.take (i + 1))) := fun h0 => by
            have e : plainL (M.take (i + 1)) = (plainL M).take (i + 1) := by simp [plainL]
            rw [e]
            refine try_stop _ _ _ ?_
            rw [← e, hps]
            exact h0
          have hxl := HSM.out _ (List.getElem_mem hlt)
          subst hA
          obtain ⟨x, hx⟩ : ∃ x, x = M[i] := ⟨_, rfl⟩
          rw [← hx] at c0 c1 c2 hxo hxl hps hst
          simp only [stv] at c0
          have hba : Below wr.heap.size wr (wr.alloc (.cells #[.string ⟨⟨x.1⟩⟩, .int .i64 x.2.k, .slice x.2.x.A x.2.x.l.length x.2.x.c] 51)) := (Below.refl _ _).alloc (Nat.le_refl _) _
          have xb := Blk.new wr 51 #[.string ⟨⟨x.1⟩⟩, .int .i64 x.2.k, .slice x.2.x.A x.2.x.l.length x.2.x.c]
          have HT2 := Lib.hid (hTK.below hba)
          have HX1 := Lib.hid ((OwB.below hxo hba).rd)
          have HO2 := Lib.hid (hOr.below hba)
          have hw4 := hb.trans (hba.mono hb.size)
          obtain ⟨hx1, hx2⟩ := hxl
          have q0 := xb.cell 0
          have q1 := xb.cell 1
          have q2 := xb.cell 2
          simp only [List.getElem?_toArray, List.getElem?_cons_zero, List.getElem?_cons_succ] at q0 q1 q2
          have HPS := Lib.hid hps
          have HST := Lib.hid hst
          obtain ⟨ms, hms⟩ : ∃ ms, ms = mayS (plainL K) x.1 (x.2.k, x.2.x.l) := ⟨_, rfl⟩
          have HMS := Lib.hid hms
          clear hTK hxo hx hps hst hn hms hOr HC HO3
          go_wp2_with fail
          refine (treeSet_any sortsT cb m2 K x.1 x.2.k x.2.x.A x.2.x.c x.2.x.l _ _ HT2.out HX1.out hx1 hx2).mono ?_
          rintro e w5 ⟨rfl, hto⟩
          rw [← HMS.out]
          obtain ⟨⟨m3, K3, hT3, hL3, hmo3⟩, hfr⟩ := hto
          have hw5 : Below w.heap.size w w5 := hw4.trans (hfr.below hw4.size (fun g hg e => by
            rcases e with e | e
            · omega
            · have := hm2 _ e; omega))
          have HO5 := Lib.hid (HO2.out.set HT2.out hfr)
          have hm4 : ∀ m, m3 = some m → w.heap.size ≤ m := fun m e => by
            rcases hmo3 m e with e | e
            · exact hm2 m e
            · have := hw4.size; omega
          by_cases hm0 : ms = 0
          · have HN2 : Hid (tryS T (plainL (M.take (i + 1))) = (plainL K3, 0)) := Lib.hid (by rw [HPS.out]; exact Prod.ext hL3.out.symm (HMS.out.symm.trans hm0))
            have HT3 := Lib.hid hT3
            subst hm0
            clear hT3 hfr hL3 HT2 HX1 xb hmo3 q0 q1 q2 HPS HST HMS c0 c1 c2 HO2
            go_wp2_with fail
            go_roundw
            case rel => exact ⟨i + 1, m3, K3, hlt, by go_num, HT3.out, HN2, hm4, HO5.out, hw5⟩
            case measure => simp [intOf]; omega
          · have hmb : (ms != 0) = true := by simpa using hm0
            have hT2 : (tryS T (plainL M)).2 = ms := by
              rw [HST.out (by rw [show x.2.p = (x.2.k, x.2.x.l) from rfl, ← HMS.out]; exact hm0), HPS.out, HMS.out]; rfl
            obtain rfl : R = ([], ms) := by rw [HR2.out, hT2, if_pos hm0]
            clear hT3 hfr hL3 HT2 HX1 xb hmo3 q0 q1 q2 HPS HST HMS c0 c1 c2 HO2 hT2 HR2 HO5
            go_wp2_with fail
            go_ret2
            exact ⟨none, 0, [], rfl, rfl, ⟨World.ownsRow_nil _ _ _ _, by simp⟩, hw5⟩
        · have e : i = M.length := by omega
          subst e
          rw [List.take_length] at hn
          obtain rfl : R = (plainL M, 0) := by rw [HR2.out, hn.out, if_neg (by simp)]
          clear HR2 hn
          go_wp2_with fail
          go_ret2
          exact ⟨A, c, M, rfl, rfl, hOr, hb⟩
    · have hsb : (S.2 != 0) = true := by simpa using hs0
      obtain rfl : R = ([], S.2) := by rw [HR1.out, if_pos hs0]
      clear HR1 HO hM
      go_wp2_with fail
      go_ret2
      exact ⟨none, 0, [], rfl, rfl, ⟨World.ownsRow_nil _ _ _ _, by simp⟩, hw2⟩
  · have hcb : (ck != 0) = true := by simpa using hc0
    obtain rfl : R = ([], ck) := by rw [HR.out]; unfold itemsS; rw [← HK.out, if_pos hc0]
    clear HR HK
    go_wp2_with fail
    go_ret2
    exact ⟨none, 0, [], rfl, rfl, ⟨World.ownsRow_nil _ _ _ _, by simp⟩, hw1⟩

end Go.Proofs.YtedbjkmgfcnkeaaGreat

/- tenderref03: Move. -/
namespace Go.Proofs.YtedbjkmgfcnkeaaGreat
open Go.RowKit

set_option maxRecDepth 100000 in
set_option maxHeartbeats 1000000 in
theorem refMove_any (p f t : ByteArray) (hp : p.size ≤ 1048576) (hf : f.size ≤ 1048576) (ht : t.size ≤ 1048576) (w : World) : Calls Tryz.prog 100 #[.string p, .string f, .string t] w fun e w' => ∃ s, e = .returned (.string s) ∧ Hid (tl s = (moveT (tl p) (tl f) (tl t)).1) ∧ Below w.heap.size w w' := by
  obtain ⟨M, hM⟩ : ∃ M, M = (moveT (tl p) (tl f) (tl t)).1 := ⟨_, rfl⟩
  rw [← hM]
  cases gp : goodB (tl p)
  · have HP := Lib.hid (refGood_no p (by omega) gp)
    have HM : Hid (M = []) := by show _ = _; rw [hM]; unfold moveT; rw [gp]; rfl
    clear gp hM
    go_enter Tryz.func100, Tryz.ntmps100
    go_wp2_with fail
    refine (HP.out _).mono ?_
    rintro e w1 ⟨rfl, hb1⟩
    go_wp2_with fail
    go_ret
    exact ⟨_, rfl, HM.out.symm, hb1⟩
  have HP := Lib.hid (refGood_yes p (by omega) gp)
  cases gf : goodB (tl f)
  · have HF := Lib.hid (refGood_no f (by omega) gf)
    have HM : Hid (M = []) := by show _ = _; rw [hM]; unfold moveT; rw [gp, gf]; rfl
    clear gp gf hM
    go_enter Tryz.func100, Tryz.ntmps100
    go_wp2_with fail
    refine (HP.out _).mono ?_
    rintro e w1 ⟨rfl, hb1⟩
    go_wp2_with fail
    refine (HF.out _).mono ?_
    rintro e w2 ⟨rfl, hb2⟩
    go_wp2_with fail
    go_ret
    exact ⟨_, rfl, HM.out.symm, bthen hb1 hb2⟩
  have HF := Lib.hid (refGood_yes f (by omega) gf)
  cases gt : goodB (tl t)
  · have HT := Lib.hid (refGood_no t (by omega) gt)
    have HM : Hid (M = []) := by show _ = _; rw [hM]; unfold moveT; rw [gp, gf, gt]; rfl
    clear gp gf gt hM
    go_enter Tryz.func100, Tryz.ntmps100
    go_wp2_with fail
    refine (HP.out _).mono ?_
    rintro e w1 ⟨rfl, hb1⟩
    go_wp2_with fail
    refine (HF.out _).mono ?_
    rintro e w2 ⟨rfl, hb2⟩
    go_wp2_with fail
    refine (HT.out _).mono ?_
    rintro e w3 ⟨rfl, hb3⟩
    go_wp2_with fail
    go_ret
    exact ⟨_, rfl, HM.out.symm, bthen (bthen hb1 hb2) hb3⟩
  have HT := Lib.hid (refGood_yes t (by omega) gt)
  have HU := Lib.hid (fun w => refUnder_any p f (by omega) (by omega) w)
  have hts := goodB_len gt
  rw [tl_len] at hts
  have hps := goodB_len gp
  rw [tl_len] at hps
  have hfs := goodB_len gf
  rw [tl_len] at hfs
  by_cases hor : p = f ∨ preB (tl p) (tl f) = true
  · have hor2 : (tl p == tl f || underB (tl p) (tl f)) = true := by
      rcases hor with h | h
      · rw [h]; simp
      · unfold underB; rw [gp, gf, h]; simp
    have hmp := move_parts (p := tl p) (f := tl f) (tl t) (hor.imp (fun h => by rw [h]) id)
    have hle : (cutL (tl f)).length ≤ (cutL (tl p)).length := by
      rcases hor with h | h
      · rw [h]; exact Nat.le_refl _
      · obtain ⟨T, _, e⟩ := (preB_iff _ _).1 h
        rw [e, List.length_append]; omega
    have HM : Hid (M = if goodB (pasteL (cutL (tl t) ++ (cutL (tl p)).drop (cutL (tl f)).length)) then pasteL (cutL (tl t) ++ (cutL (tl p)).drop (cutL (tl f)).length) else []) := by
      show _ = _
      rw [hM, hmp]; unfold moveT; rw [gp, gf, gt, hor2]
      cases goodB (tl t ++ (tl p).drop (tl f).length) <;> rfl
    have hlen : (pasteL (cutL (tl t) ++ (cutL (tl p)).drop (cutL (tl f)).length)).length ≤ 192 := by
      rw [hmp, List.length_append, List.length_drop, tl_len, tl_len]
      omega
    generalize hL : cutL (tl t) ++ (cutL (tl p)).drop (cutL (tl f)).length = L at *
    have HL := Lib.hid hL
    clear hL hmp
    obtain ⟨i0, hi0, hz0, hz1, hz2⟩ := info_parts str_info
    by_cases hpf : p = f
    · have hn := neq_yes hpf
      clear gp gf gt hor hor2 hM hpf HU
      go_enter Tryz.func100, Tryz.ntmps100
      go_wp2_with fail
      refine (HP.out _).mono ?_
      rintro e w1 ⟨rfl, hb1⟩
      go_wp2_with fail
      refine (HF.out _).mono ?_
      rintro e w2 ⟨rfl, hb2⟩
      go_wp2_with fail
      refine (HT.out _).mono ?_
      rintro e w3 ⟨rfl, hb3⟩
      replace hb3 := bthen (bthen hb1 hb2) hb3
      go_wp2_with fail
      have hr0 : Row (w3.alloc (.cells #[] 9)) w3.heap.size 9 1 (some ⟨w3.heap.size, 0, none⟩) 0 0 [] := Row.of_own (World.ownsRow_lit (base := w3.heap.size) (e := 9) (size := 1) w3 #[] 0 (Nat.le_refl _) (by simp [maxLen]) (by simp))
      refine (refCut_any t (by omega) _).mono ?_
      rintro e w4 ⟨A, c, x, rfl, hx, hsx, hb4⟩
      have hxl : x.length ≤ 97 := by
        have := cutL_len (tl t)
        rw [hx.out]
        rw [tl_len] at this
        omega
      have hr4 := hr0.below hb4
      have hb4' : Below w3.heap.size w3 w4 := bthen ((Below.refl _ _).alloc (Nat.le_refl _) _) hb4
      have hsz4 := hb4'.size
      go_wp2_with (at_builtin; refine wpList_append_row _ rfl (.tmp 32) (.tmp 34) 79 rfl w3.heap.size 9 i0 _ 1 16 Tryz.underlying79 hi0 hz0 hz1 hz2 rfl (by omega) rfl hr4 rfl hsx.rd (st_one _) (by simp only [maxLen]; omega) (by omega) hsz4 ?_; intro A5 c5 w5 hr5 hg5 hat5)
      have hb5 : Below w3.heap.size w3 w5 := hb4'.grown hg5 hsz4 (fun k e => by injection e with e; have e' : w3.heap.size = k := e; omega)
      have hs5 := hb5.size
      rw [Nat.zero_add, List.nil_append] at hr5
      clear hr4 hr0 hsx hb4' hsz4
      refine (refCut_any p (by omega) _).mono ?_
      rintro e w6 ⟨A', c', y, rfl, hy, hsy, hb6⟩
      go_wp2_with fail
      refine (refCut_any f (by omega) _).mono ?_
      rintro e w7 ⟨A'', c'', z, rfl, hz, hsz, hb7⟩
      have hb67 := bthen hb6 hb7
      have hr7 := hr5.below hb67
      have hb7' : Below w3.heap.size w3 w7 := hb5.trans (hb67.mono hs5)
      have hs7 := hb7'.size
      replace hsy := Sts.below hsy hb7
      rw [← hy.out, ← hz.out] at hle
      have hz1' : 0 < z.length := by rw [hz.out]; exact cutL_pos _
      have hyl : y.length ≤ 97 := by
        have := cutL_len (tl p)
        rw [hy.out]
        rw [tl_len] at this
        omega
      have HL2 : Hid (x ++ y.drop z.length = L) := by show _ = _; rw [hx.out, hy.out, hz.out]; exact HL.out
      obtain ⟨g, off, rfl, hgb, hgl⟩ := Row.addr hsy (by omega)
      have hcy := hsy.room
      have hcm := hsy.cap
      have hmx : maxLen = 9223372036854775807 := rfl
      rw [hmx] at hcm
      have b1 : (z.length : Int) ≤ (y.length : Int) := by omega
      have b2 : (y.length : Int) ≤ (c' : Int) := by omega
      have hLn : Hid (L.length = x.length + (y.length - z.length)) := by show _ = _; rw [← HL2.out, List.length_append, List.length_drop]
      have HC := Lib.hid (Row.tail hsy hle)
      have HLm : Hid (L.map stv = x.map stv ++ (y.map stv).drop (z.length * 1)) := by show _ = _; rw [← HL2.out, List.map_append, List.map_drop, Nat.mul_one]
      have HX := Lib.hid hxl
      clear hx hy hz hle hb6 hb7 hb67 hr5 hg5 hat5 hb5
      by_cases hck : c' = z.length
      · have hyz : y.length = z.length := by omega
        have HC3 : Hid (Rd w7 (fun _ => True) 1 (some ⟨g, off, none⟩) 0 []) := Rd.nil
        have HD : Hid (y.drop z.length = []) := List.drop_of_length_le (by omega)
        have HE : Hid (x.length + 0 = L.length) := by show _ = _; rw [hLn.out]; omega
        have HL3 : Hid (L.map stv = x.map stv ++ []) := by show _ = _; rw [← HL2.out, HD.out]; simp
        subst hck
        clear HC HD hyz
        go_wp2_with (at_builtin; refine wpList_append_row _ rfl (.tmp 35) (.tmp 41) 79 rfl w3.heap.size 9 i0 _ 1 16 Tryz.underlying79 hi0 hz0 hz1 hz2 rfl (by omega) rfl hr7 rfl HC3.out (by simp) (by simp only [maxLen]; omega) (by omega) hs7 ?_; intro A8 c8 w8 hr8 hg8 hat8; rw [HE.out, ← HL3.out] at hr8; rw [HE.out])
        have hb8 : Below w3.heap.size w3 w8 := hb7'.grown hg8 hs7 (fun k e => (hr7.lt k e).1)
        have hbw8 := bthen hb3 hb8
        have hLl : L.length ≤ 1048576 := by have := hLn.out; omega
        have HR8 := Lib.hid hr8.rd
        clear hr8 hg8 hat8 hb8 hb7' hb3 hr7 hsy hsz
        refine (paste_any A8 c8 L _ w8 HR8.out hLl (by omega)).mono ?_
        rintro e w9 ⟨s1, rfl, hs1, hq9⟩
        have hsz1 : s1.size ≤ 192 := by have := congrArg List.length hs1.out; rw [tl_len] at this; omega
        go_wp2_with fail
        refine (refGood_any s1 (by omega) _).mono ?_
        rw [hs1.out]
        rintro e w10 ⟨rfl, hb10⟩
        replace hb10 := bthen hq9.below hb10
        cases hgo : goodB (pasteL L)
        · rw [hgo] at HM
          have HG := Lib.hid hgo
          clear hgo
          go_wp2_with fail
          go_ret
          exact ⟨_, rfl, HM.out.symm, bthen hbw8 hb10⟩
        · rw [hgo] at HM
          have HG := Lib.hid hgo
          clear hgo
          go_wp2_with fail
          refine (paste_any A8 c8 L _ w10 (HR8.out.below hb10) hLl (by omega)).mono ?_
          rintro e w11 ⟨s2, rfl, hs2, hq11⟩
          go_wp2_with fail
          go_ret
          exact ⟨_, rfl, hs2.out.trans HM.out.symm, bthen hbw8 (bthen hb10 hq11.below)⟩
      · have HC2 := HC.out
        rw [if_neg hck, Option.map_some, add_none, Nat.mul_one] at HC2
        have HC3 := Lib.hid HC2.rd
        rw [Nat.mul_one] at HLm
        have b3 : ¬ c' - z.length = 0 := by omega
        clear HC2 HC
        go_wp2_with (at_builtin; refine wpList_append_row _ rfl (.tmp 35) (.tmp 41) 79 rfl w3.heap.size 9 i0 _ 1 16 Tryz.underlying79 hi0 hz0 hz1 hz2 rfl (by omega) rfl hr7 rfl HC3.out (fun u hu => st_one _ u (List.mem_of_mem_drop hu)) (by simp only [maxLen]; omega) (by omega) hs7 ?_; intro A8 c8 w8 hr8 hg8 hat8; rw [← hLn.out, ← HLm.out] at hr8; rw [← hLn.out])
        have hb8 : Below w3.heap.size w3 w8 := hb7'.grown hg8 hs7 (fun k e => (hr7.lt k e).1)
        have hbw8 := bthen hb3 hb8
        have hLl : L.length ≤ 1048576 := by have := hLn.out; omega
        have HR8 := Lib.hid hr8.rd
        clear hr8 hg8 hat8 hb8 hb7' hb3 hr7 hsy hsz
        refine (paste_any A8 c8 L _ w8 HR8.out hLl (by omega)).mono ?_
        rintro e w9 ⟨s1, rfl, hs1, hq9⟩
        have hsz1 : s1.size ≤ 192 := by have := congrArg List.length hs1.out; rw [tl_len] at this; omega
        go_wp2_with fail
        refine (refGood_any s1 (by omega) _).mono ?_
        rw [hs1.out]
        rintro e w10 ⟨rfl, hb10⟩
        replace hb10 := bthen hq9.below hb10
        cases hgo : goodB (pasteL L)
        · rw [hgo] at HM
          have HG := Lib.hid hgo
          clear hgo
          go_wp2_with fail
          go_ret
          exact ⟨_, rfl, HM.out.symm, bthen hbw8 hb10⟩
        · rw [hgo] at HM
          have HG := Lib.hid hgo
          clear hgo
          go_wp2_with fail
          refine (paste_any A8 c8 L _ w10 (HR8.out.below hb10) hLl (by omega)).mono ?_
          rintro e w11 ⟨s2, rfl, hs2, hq11⟩
          go_wp2_with fail
          go_ret
          exact ⟨_, rfl, hs2.out.trans HM.out.symm, bthen hbw8 (bthen hb10 hq11.below)⟩
    · have hn := neq_no hpf
      have hpu : preB (tl p) (tl f) = true := hor.resolve_left hpf
      have hut : underB (tl p) (tl f) = true := by unfold underB; rw [gp, gf, hpu]; rfl
      rw [hut] at HU
      clear gp gf gt hor hor2 hM hpf hpu hut
      go_enter Tryz.func100, Tryz.ntmps100
      go_wp2_with fail
      refine (HP.out _).mono ?_
      rintro e w1 ⟨rfl, hb1⟩
      go_wp2_with fail
      refine (HF.out _).mono ?_
      rintro e w2 ⟨rfl, hb2⟩
      go_wp2_with fail
      refine (HT.out _).mono ?_
      rintro e w0 ⟨rfl, hb0⟩
      replace hb0 := bthen (bthen hb1 hb2) hb0
      go_wp2_with fail
      refine (HU.out _).mono ?_
      rintro e w3 ⟨rfl, hb3⟩
      replace hb3 := bthen hb0 hb3
      go_wp2_with fail
      have hr0 : Row (w3.alloc (.cells #[] 9)) w3.heap.size 9 1 (some ⟨w3.heap.size, 0, none⟩) 0 0 [] := Row.of_own (World.ownsRow_lit (base := w3.heap.size) (e := 9) (size := 1) w3 #[] 0 (Nat.le_refl _) (by simp [maxLen]) (by simp))
      refine (refCut_any t (by omega) _).mono ?_
      rintro e w4 ⟨A, c, x, rfl, hx, hsx, hb4⟩
      have hxl : x.length ≤ 97 := by
        have := cutL_len (tl t)
        rw [hx.out]
        rw [tl_len] at this
        omega
      have hr4 := hr0.below hb4
      have hb4' : Below w3.heap.size w3 w4 := bthen ((Below.refl _ _).alloc (Nat.le_refl _) _) hb4
      have hsz4 := hb4'.size
      go_wp2_with (at_builtin; refine wpList_append_row _ rfl (.tmp 32) (.tmp 34) 79 rfl w3.heap.size 9 i0 _ 1 16 Tryz.underlying79 hi0 hz0 hz1 hz2 rfl (by omega) rfl hr4 rfl hsx.rd (st_one _) (by simp only [maxLen]; omega) (by omega) hsz4 ?_; intro A5 c5 w5 hr5 hg5 hat5)
      have hb5 : Below w3.heap.size w3 w5 := hb4'.grown hg5 hsz4 (fun k e => by injection e with e; have e' : w3.heap.size = k := e; omega)
      have hs5 := hb5.size
      rw [Nat.zero_add, List.nil_append] at hr5
      clear hr4 hr0 hsx hb4' hsz4
      refine (refCut_any p (by omega) _).mono ?_
      rintro e w6 ⟨A', c', y, rfl, hy, hsy, hb6⟩
      go_wp2_with fail
      refine (refCut_any f (by omega) _).mono ?_
      rintro e w7 ⟨A'', c'', z, rfl, hz, hsz, hb7⟩
      have hb67 := bthen hb6 hb7
      have hr7 := hr5.below hb67
      have hb7' : Below w3.heap.size w3 w7 := hb5.trans (hb67.mono hs5)
      have hs7 := hb7'.size
      replace hsy := Sts.below hsy hb7
      rw [← hy.out, ← hz.out] at hle
      have hz1' : 0 < z.length := by rw [hz.out]; exact cutL_pos _
      have hyl : y.length ≤ 97 := by
        have := cutL_len (tl p)
        rw [hy.out]
        rw [tl_len] at this
        omega
      have HL2 : Hid (x ++ y.drop z.length = L) := by show _ = _; rw [hx.out, hy.out, hz.out]; exact HL.out
      obtain ⟨g, off, rfl, hgb, hgl⟩ := Row.addr hsy (by omega)
      have hcy := hsy.room
      have hcm := hsy.cap
      have hmx : maxLen = 9223372036854775807 := rfl
      rw [hmx] at hcm
      have b1 : (z.length : Int) ≤ (y.length : Int) := by omega
      have b2 : (y.length : Int) ≤ (c' : Int) := by omega
      have hLn : Hid (L.length = x.length + (y.length - z.length)) := by show _ = _; rw [← HL2.out, List.length_append, List.length_drop]
      have HC := Lib.hid (Row.tail hsy hle)
      have HLm : Hid (L.map stv = x.map stv ++ (y.map stv).drop (z.length * 1)) := by show _ = _; rw [← HL2.out, List.map_append, List.map_drop, Nat.mul_one]
      have HX := Lib.hid hxl
      clear hx hy hz hle hb6 hb7 hb67 hr5 hg5 hat5 hb5
      by_cases hck : c' = z.length
      · have hyz : y.length = z.length := by omega
        have HC3 : Hid (Rd w7 (fun _ => True) 1 (some ⟨g, off, none⟩) 0 []) := Rd.nil
        have HD : Hid (y.drop z.length = []) := List.drop_of_length_le (by omega)
        have HE : Hid (x.length + 0 = L.length) := by show _ = _; rw [hLn.out]; omega
        have HL3 : Hid (L.map stv = x.map stv ++ []) := by show _ = _; rw [← HL2.out, HD.out]; simp
        subst hck
        clear HC HD hyz
        go_wp2_with (at_builtin; refine wpList_append_row _ rfl (.tmp 35) (.tmp 41) 79 rfl w3.heap.size 9 i0 _ 1 16 Tryz.underlying79 hi0 hz0 hz1 hz2 rfl (by omega) rfl hr7 rfl HC3.out (by simp) (by simp only [maxLen]; omega) (by omega) hs7 ?_; intro A8 c8 w8 hr8 hg8 hat8; rw [HE.out, ← HL3.out] at hr8; rw [HE.out])
        have hb8 : Below w3.heap.size w3 w8 := hb7'.grown hg8 hs7 (fun k e => (hr7.lt k e).1)
        have hbw8 := bthen hb3 hb8
        have hLl : L.length ≤ 1048576 := by have := hLn.out; omega
        have HR8 := Lib.hid hr8.rd
        clear hr8 hg8 hat8 hb8 hb7' hb3 hr7 hsy hsz
        refine (paste_any A8 c8 L _ w8 HR8.out hLl (by omega)).mono ?_
        rintro e w9 ⟨s1, rfl, hs1, hq9⟩
        have hsz1 : s1.size ≤ 192 := by have := congrArg List.length hs1.out; rw [tl_len] at this; omega
        go_wp2_with fail
        refine (refGood_any s1 (by omega) _).mono ?_
        rw [hs1.out]
        rintro e w10 ⟨rfl, hb10⟩
        replace hb10 := bthen hq9.below hb10
        cases hgo : goodB (pasteL L)
        · rw [hgo] at HM
          have HG := Lib.hid hgo
          clear hgo
          go_wp2_with fail
          go_ret
          exact ⟨_, rfl, HM.out.symm, bthen hbw8 hb10⟩
        · rw [hgo] at HM
          have HG := Lib.hid hgo
          clear hgo
          go_wp2_with fail
          refine (paste_any A8 c8 L _ w10 (HR8.out.below hb10) hLl (by omega)).mono ?_
          rintro e w11 ⟨s2, rfl, hs2, hq11⟩
          go_wp2_with fail
          go_ret
          exact ⟨_, rfl, hs2.out.trans HM.out.symm, bthen hbw8 (bthen hb10 hq11.below)⟩
      · have HC2 := HC.out
        rw [if_neg hck, Option.map_some, add_none, Nat.mul_one] at HC2
        have HC3 := Lib.hid HC2.rd
        rw [Nat.mul_one] at HLm
        have b3 : ¬ c' - z.length = 0 := by omega
        clear HC2 HC
        go_wp2_with (at_builtin; refine wpList_append_row _ rfl (.tmp 35) (.tmp 41) 79 rfl w3.heap.size 9 i0 _ 1 16 Tryz.underlying79 hi0 hz0 hz1 hz2 rfl (by omega) rfl hr7 rfl HC3.out (fun u hu => st_one _ u (List.mem_of_mem_drop hu)) (by simp only [maxLen]; omega) (by omega) hs7 ?_; intro A8 c8 w8 hr8 hg8 hat8; rw [← hLn.out, ← HLm.out] at hr8; rw [← hLn.out])
        have hb8 : Below w3.heap.size w3 w8 := hb7'.grown hg8 hs7 (fun k e => (hr7.lt k e).1)
        have hbw8 := bthen hb3 hb8
        have hLl : L.length ≤ 1048576 := by have := hLn.out; omega
        have HR8 := Lib.hid hr8.rd
        clear hr8 hg8 hat8 hb8 hb7' hb3 hr7 hsy hsz
        refine (paste_any A8 c8 L _ w8 HR8.out hLl (by omega)).mono ?_
        rintro e w9 ⟨s1, rfl, hs1, hq9⟩
        have hsz1 : s1.size ≤ 192 := by have := congrArg List.length hs1.out; rw [tl_len] at this; omega
        go_wp2_with fail
        refine (refGood_any s1 (by omega) _).mono ?_
        rw [hs1.out]
        rintro e w10 ⟨rfl, hb10⟩
        replace hb10 := bthen hq9.below hb10
        cases hgo : goodB (pasteL L)
        · rw [hgo] at HM
          have HG := Lib.hid hgo
          clear hgo
          go_wp2_with fail
          go_ret
          exact ⟨_, rfl, HM.out.symm, bthen hbw8 hb10⟩
        · rw [hgo] at HM
          have HG := Lib.hid hgo
          clear hgo
          go_wp2_with fail
          refine (paste_any A8 c8 L _ w10 (HR8.out.below hb10) hLl (by omega)).mono ?_
          rintro e w11 ⟨s2, rfl, hs2, hq11⟩
          go_wp2_with fail
          go_ret
          exact ⟨_, rfl, hs2.out.trans HM.out.symm, bthen hbw8 (bthen hb10 hq11.below)⟩
  · have hpf : p ≠ f := fun e => hor (.inl e)
    have hn := neq_no hpf
    have hut : underB (tl p) (tl f) = false := by
      have : preB (tl p) (tl f) = false := by cases h : preB (tl p) (tl f); rfl; exact (hor (.inr h)).elim
      unfold underB; rw [this]; simp
    have hne : (tl p == tl f) = false := by simp only [beq_eq_false_iff_ne, ne_eq]; exact fun e => hpf (tl_inj e)
    have HM : Hid (M = []) := by show _ = _; rw [hM]; unfold moveT; rw [hut, hne]; simp
    rw [hut] at HU
    clear gp gf gt hor hM hpf hut hne
    go_enter Tryz.func100, Tryz.ntmps100
    go_wp2_with fail
    refine (HP.out _).mono ?_
    rintro e w1 ⟨rfl, hb1⟩
    go_wp2_with fail
    refine (HF.out _).mono ?_
    rintro e w2 ⟨rfl, hb2⟩
    go_wp2_with fail
    refine (HT.out _).mono ?_
    rintro e w3 ⟨rfl, hb3⟩
    replace hb3 := bthen (bthen hb1 hb2) hb3
    go_wp2_with fail
    refine (HU.out _).mono ?_
    rintro e w5 ⟨rfl, hb5⟩
    replace hb5 := bthen hb3 hb5
    go_wp2_with fail
    go_ret
    exact ⟨_, rfl, HM.out.symm, hb5⟩
end Go.Proofs.YtedbjkmgfcnkeaaGreat
