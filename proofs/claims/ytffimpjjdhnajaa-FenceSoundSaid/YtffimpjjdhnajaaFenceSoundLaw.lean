/- FenceSound is true for every input: what is closed has no clash, closed once more it stays, and just what had none is sound; no verdict changes but to a conflict. No condition beyond the row's own. -/
import Derived.Test.YtffimpjjdhnajaaFenceCloses
namespace Go.Proofs.Ytffimpjjdhnajaa
open Go.RowKit Go.WideShapes Go.ChangeShapes Go.ChangeAt

theorem ne_self_int (v : Int) : (v != v) = false := by simp

set_option maxRecDepth 100000 in
set_option maxHeartbeats 4000000 in
theorem fenceSound_any (A : Option Addr) (c : Nat) (l : List CV) (p q : CV) (w : World) (h : Chs w (fun b => b < w.heap.size) A l) (hp : p.p.size ≤ 140737488355328) (hq : q.p.size ≤ 140737488355328) :
    Calls Try.prog 9 #[.slice A l.length c, p.val, q.val] w fun e w' => e = .returned (.bool true) ∧ Below w.heap.size w w' := by
  have hV : Below w.heap.size w ((w.alloc (.cells #[.string p.p, .int .i64 p.b, .bool p.m, .bool p.t, .int .i64 p.k, .int .i64 p.o, .int .i64 p.s, .int .i64 p.l, .int .i64 p.v] 44)).alloc (.cells #[.string q.p, .int .i64 q.b, .bool q.m, .bool q.t, .int .i64 q.k, .int .i64 q.o, .int .i64 q.s, .int .i64 q.l, .int .i64 q.v] 44)) := (by repeat (first | exact Below.refl _ _ | refine Below.alloc ?_ (by simp) _ | refine Below.setCell ?_ (by simp) _ | refine Below.drew ?_))
  have bP : Blk ((w.alloc (.cells #[.string p.p, .int .i64 p.b, .bool p.m, .bool p.t, .int .i64 p.k, .int .i64 p.o, .int .i64 p.s, .int .i64 p.l, .int .i64 p.v] 44)).alloc (.cells #[.string q.p, .int .i64 q.b, .bool q.m, .bool q.t, .int .i64 q.k, .int .i64 q.o, .int .i64 q.s, .int .i64 q.l, .int .i64 q.v] 44)) w.heap.size 44 p.cells.toArray := (Blk.new w 44 #[.string p.p, .int .i64 p.b, .bool p.m, .bool p.t, .int .i64 p.k, .int .i64 p.o, .int .i64 p.s, .int .i64 p.l, .int .i64 p.v]).alloc _
  have bQ : Blk ((w.alloc (.cells #[.string p.p, .int .i64 p.b, .bool p.m, .bool p.t, .int .i64 p.k, .int .i64 p.o, .int .i64 p.s, .int .i64 p.l, .int .i64 p.v] 44)).alloc (.cells #[.string q.p, .int .i64 q.b, .bool q.m, .bool q.t, .int .i64 q.k, .int .i64 q.o, .int .i64 q.s, .int .i64 q.l, .int .i64 q.v] 44)) (w.heap.size + 1) 44 q.cells.toArray := by
    have h := Blk.new (w.alloc (.cells #[.string p.p, .int .i64 p.b, .bool p.m, .bool p.t, .int .i64 p.k, .int .i64 p.o, .int .i64 p.s, .int .i64 p.l, .int .i64 p.v] 44)) 44 #[.string q.p, .int .i64 q.b, .bool q.m, .bool q.t, .int .i64 q.k, .int .i64 q.o, .int .i64 q.s, .int .i64 q.l, .int .i64 q.v]
    rw [World.size_alloc] at h
    exact h
  have HL := Lib.hid (fun w' hb => lightF_any A c l _ w' (h.below hb) : ∀ w', Below w.heap.size w w' → Calls Try.prog 35 #[.slice A l.length c] w' fun e w'' => e = .returned (.bool (lightF l)) ∧ Below w'.heap.size w' w'')
  have HPQ : Hid (∀ v : World, Below w.heap.size w v → Calls Try.prog 35 #[.slice (some ⟨v.heap.size, 0, none⟩) 2 2] (v.alloc (.cells #[.string p.p, .int .i64 p.b, .bool p.m, .bool p.t, .int .i64 p.k, .int .i64 p.o, .int .i64 p.s, .int .i64 p.l, .int .i64 p.v, .string q.p, .int .i64 q.b, .bool q.m, .bool q.t, .int .i64 q.k, .int .i64 q.o, .int .i64 q.s, .int .i64 q.l, .int .i64 q.v] 44)) fun e w'' => e = .returned (.bool (lightF [p, q])) ∧ Below v.heap.size v w'') := by
    intro v _
    refine (lightF_any (some ⟨v.heap.size, 0, none⟩) 2 [p, q] (fun b => v.heap.size ≤ b) _ ⟨Rd.lit rfl rfl rfl, ?_, by simp⟩).mono ?_
    · intro o ho
      simp only [List.mem_cons, List.not_mem_nil, or_false] at ho
      rcases ho with rfl | rfl
      · exact hp
      · exact hq
    · rintro e w'' ⟨he, hb⟩
      exact ⟨he, ((Below.refl _ _).alloc (Nat.le_refl _) _).trans (hb.mono (by simp))⟩
  cases hL : lightF l
  · rw [hL] at HL
    go_enter Try.func9, Try.ntmps9
    go_wp2_with fail
    generalize (w.alloc (.cells #[.string p.p, .int .i64 p.b, .bool p.m, .bool p.t, .int .i64 p.k, .int .i64 p.o, .int .i64 p.s, .int .i64 p.l, .int .i64 p.v] 44)).alloc (.cells #[.string q.p, .int .i64 q.b, .bool q.m, .bool q.t, .int .i64 q.k, .int .i64 q.o, .int .i64 q.s, .int .i64 q.l, .int .i64 q.v] 44) = V at *
    refine (HL.out _ hV).mono ?_
    rintro e w1 ⟨rfl, hb⟩
    have hw1 := hV.trans (hb.mono hV.size)
    go_wp2_with fail
    refine (lives26_any _).mono ?_
    rintro e w9 ⟨rfl, hb9⟩
    go_wp2_with fail
    go_ret
    exact ⟨rfl, hw1.trans (hb9.mono hw1.size)⟩
  · rw [hL] at HL
    have hlen := lightF_len hL
    cases hM : lightF [p, q]
    · rw [hM] at HPQ
      go_enter Try.func9, Try.ntmps9
      go_wp2_with fail
      generalize (w.alloc (.cells #[.string p.p, .int .i64 p.b, .bool p.m, .bool p.t, .int .i64 p.k, .int .i64 p.o, .int .i64 p.s, .int .i64 p.l, .int .i64 p.v] 44)).alloc (.cells #[.string q.p, .int .i64 q.b, .bool q.m, .bool q.t, .int .i64 q.k, .int .i64 q.o, .int .i64 q.s, .int .i64 q.l, .int .i64 q.v] 44) = V at *
      refine (HL.out _ hV).mono ?_
      rintro e w1 ⟨rfl, hb⟩
      have hw1 := hV.trans (hb.mono hV.size)
      replace bP := bP.below hb
      replace bQ := bQ.below hb
      clear hb
      obtain ⟨a0, a1, a2, a3, a4, a5, a6, a7, a8⟩ := cells9 bP
      obtain ⟨c0, c1, c2, c3, c4, c5, c6, c7, c8⟩ := cells9 bQ
      go_wp2_with fail
      refine (HPQ.out _ hw1).mono ?_
      rintro e w2 ⟨rfl, hb⟩
      have hw2 := hw1.trans (hb.mono hw1.size)
      clear a0 a1 a2 a3 a4 a5 a6 a7 a8 c0 c1 c2 c3 c4 c5 c6 c7 c8
      go_wp2_with fail
      refine (lives26_any _).mono ?_
      rintro e w9 ⟨rfl, hb9⟩
      go_wp2_with fail
      go_ret
      exact ⟨rfl, hw2.trans (hb9.mono hw2.size)⟩
    · rw [hM] at HPQ
      clear hL hM
      have HC1 := Lib.hid (fun w => fclash_any p q (by omega) (by omega) w)
      have hc2 := fun w => clashR_any p q (by omega) (by omega) w
      rw [show (upB p q || lowB p q) = clB p q from rfl] at hc2
      have HC2 := Lib.hid hc2
      clear hc2
      generalize clB p q = R at *
      have kR : (R != R) = false := by simp
      go_enter Try.func9, Try.ntmps9
      go_wp2_with fail
      generalize (w.alloc (.cells #[.string p.p, .int .i64 p.b, .bool p.m, .bool p.t, .int .i64 p.k, .int .i64 p.o, .int .i64 p.s, .int .i64 p.l, .int .i64 p.v] 44)).alloc (.cells #[.string q.p, .int .i64 q.b, .bool q.m, .bool q.t, .int .i64 q.k, .int .i64 q.o, .int .i64 q.s, .int .i64 q.l, .int .i64 q.v] 44) = V at *
      refine (HL.out _ hV).mono ?_
      rintro e w1 ⟨rfl, hb⟩
      have hw1 := hV.trans (hb.mono hV.size)
      replace bP := bP.below hb
      replace bQ := bQ.below hb
      clear hb
      obtain ⟨a0, a1, a2, a3, a4, a5, a6, a7, a8⟩ := cells9 bP
      obtain ⟨c0, c1, c2, c3, c4, c5, c6, c7, c8⟩ := cells9 bQ
      go_wp2_with fail
      refine (HPQ.out _ hw1).mono ?_
      rintro e w2 ⟨rfl, hb⟩
      replace bP := bP.below hb
      replace bQ := bQ.below hb
      have hw2 := hw1.trans (hb.mono hw1.size)
      clear a0 a1 a2 a3 a4 a5 a6 a7 a8 c0 c1 c2 c3 c4 c5 c6 c7 c8 hb hw1 hV HL HPQ
      go_wp2_with fail

      refine wp_region_b 7 (by kernel_rfl) (by kernel_rfl) ?_
      simp only [List.take_succ_cons, List.take_zero, List.drop_succ_cons, List.drop_zero]
      refine lb_val (by kernel_rfl) ⟨_, (by (intro w' hC; (obtain ⟨a0, a1, a2, a3, a4, a5, a6, a7, a8⟩ := cells9 (bP.below hC)); clear hC; (try go_simp); (try with_reducible rfl); done)), _, (by (simp only [Act.put, List.setIfInBounds_toArray, List.set_cons_zero, List.set_cons_succ]; rfl)), ?_⟩
      refine lb_val (by kernel_rfl) ⟨_, (by (intro w' hC; (obtain ⟨c0, c1, c2, c3, c4, c5, c6, c7, c8⟩ := cells9 (bQ.below hC)); clear hC; (try go_simp); (try with_reducible rfl); done)), _, (by (simp only [Act.put, List.setIfInBounds_toArray, List.set_cons_zero, List.set_cons_succ]; rfl)), ?_⟩
      refine lb_call (by kernel_rfl) (fun w' hC => HC1.out _) (by (intro w'; go_simp; done)) ⟨_, (by (simp only [Act.put, List.setIfInBounds_toArray, List.set_cons_zero, List.set_cons_succ]; rfl)), ?_⟩
      refine lb_val (by kernel_rfl) ⟨_, (by (intro w' hC; (obtain ⟨a0, a1, a2, a3, a4, a5, a6, a7, a8⟩ := cells9 (bP.below hC)); clear hC; (try go_simp); (try with_reducible rfl); done)), _, (by (simp only [Act.put, List.setIfInBounds_toArray, List.set_cons_zero, List.set_cons_succ]; rfl)), ?_⟩
      refine lb_val (by kernel_rfl) ⟨_, (by (intro w' hC; (obtain ⟨c0, c1, c2, c3, c4, c5, c6, c7, c8⟩ := cells9 (bQ.below hC)); clear hC; (try go_simp); (try with_reducible rfl); done)), _, (by (simp only [Act.put, List.setIfInBounds_toArray, List.set_cons_zero, List.set_cons_succ]; rfl)), ?_⟩
      refine lb_call (by kernel_rfl) (fun w' hC => HC2.out _) (by (intro w'; go_simp; done)) ⟨_, (by (simp only [Act.put, List.setIfInBounds_toArray, List.set_cons_zero, List.set_cons_succ]; rfl)), ?_⟩
      refine lb_val (by kernel_rfl) ⟨_, (by (intro w' hC; clear hC; (try go_simp); (try with_reducible rfl); done)), _, (by (simp only [Act.put, List.setIfInBounds_toArray, List.set_cons_zero, List.set_cons_succ]; rfl)), ?_⟩
      refine .nil ?_

      intro w3 hb3
      have hw3 := hw2.trans (hb3.mono hw2.size)
      have hs3 := hw3.size
      clear hb3 hw2 bP bQ HC1 HC2 kR
      go_wp2_with fail
      refine (close_any A c l _ w3 (h.below hw3) (by omega)).mono ?_
      rintro e w4 ⟨A2, c2, x, rfl, hx, hrx, hb4⟩
      have hw4 := hw3.trans (hb4.mono hs3)
      have HX := Lib.hid hx
      clear hx hb4 hw3 hs3
      go_wp2_with fail
      go_loopw [8, 38] (fun cv iv wr => ∃ (cl : Bool) (i : Nat), cv = .bool cl ∧ iv = .int .i64 (i : Int) ∧ i ≤ l.length ∧ Hid (cl = true → soundB l = false) ∧ Hid (cl = false → ∀ (j k : Nat) (a b : CV), j < i → l[j]? = some a → l[k]? = some b → clB a b = false) ∧ Below w4.heap.size w4 wr) (fun _ iv _ => l.length - (intOf iv).toNat)
      case atStart => exact ⟨false, 0, rfl, rfl, Nat.zero_le _, (fun h => (by cases h)), fun _ j k a b hj => absurd hj (Nat.not_lt_zero _), Below.refl _ _⟩
      case round =>
        obtain ⟨cl, i, rfl, rfl, hi, hcT, hcF, hb5⟩ := hrel
        obtain ⟨wp, rfl⟩ : ∃ wp : World, wp = wr := ⟨_, rfl⟩
        have hw5 := hw4.trans (hb5.mono hw4.size)
        by_cases hlt : i < l.length
        · obtain ⟨b, off, rfl, hz, hbb, at1⟩ := ch_at (h.rd.below hw5) hlt
          have HA := Lib.hid (show l[i]? = some l[i] from List.getElem?_eq_getElem hlt)
          generalize l[i] = xi at *
          obtain ⟨a0, a1, a2, a3, a4, a5, a6, a7, a8⟩ := at1
          go_wp2_with fail
          clear a0 a1 a2 a3 a4 a5 a6 a7 a8

          have hbo : Below w4.heap.size w4 (wp.alloc (.cells #[.string xi.p, .int .i64 xi.b, .bool xi.m, .bool xi.t, .int .i64 xi.k, .int .i64 xi.o, .int .i64 xi.s, .int .i64 xi.l, .int .i64 xi.v] 44)) := hb5.alloc hb5.size _
          have b4 : Blk (wp.alloc (.cells #[.string xi.p, .int .i64 xi.b, .bool xi.m, .bool xi.t, .int .i64 xi.k, .int .i64 xi.o, .int .i64 xi.s, .int .i64 xi.l, .int .i64 xi.v] 44)) wp.heap.size 44 xi.cells.toArray := Blk.new wp _ _
          have hzo : wp.heap.size < (wp.alloc (.cells #[.string xi.p, .int .i64 xi.b, .bool xi.m, .bool xi.t, .int .i64 xi.k, .int .i64 xi.o, .int .i64 xi.s, .int .i64 xi.l, .int .i64 xi.v] 44)).heap.size := by simp
          generalize wp.alloc (.cells #[.string xi.p, .int .i64 xi.b, .bool xi.m, .bool xi.t, .int .i64 xi.k, .int .i64 xi.o, .int .i64 xi.s, .int .i64 xi.l, .int .i64 xi.v] 44) = wo at *
          go_loopw [8, 44] (fun cv kv wr => ∃ (cl : Bool) (k : Nat), cv = .bool cl ∧ kv = .int .i64 (k : Int) ∧ k ≤ l.length ∧ Hid (cl = true → soundB l = false) ∧ Hid (cl = false → (∀ (j k : Nat) (a b : CV), j < i → l[j]? = some a → l[k]? = some b → clB a b = false) ∧ ∀ (k' : Nat) (b : CV), k' < k → l[k']? = some b → clB xi b = false) ∧ Below wo.heap.size wo wr) (fun _ kv _ => l.length - (intOf kv).toNat)
          case atStart => exact ⟨cl, 0, rfl, rfl, Nat.zero_le _, hcT, fun e => ⟨hcF.out e, fun k' b hk => absurd hk (Nat.not_lt_zero _)⟩, Below.refl _ _⟩
          case round =>
            clear hcT hcF
            obtain ⟨cl, k, rfl, rfl, hk, hcT, hcF, hb6⟩ := hrel
            have hbw := hbo.trans (hb6.mono hbo.size)
            have hw6 := hw4.trans (hbw.mono hw4.size)
            by_cases hlk : k < l.length
            · obtain ⟨b', off', hA, hz', hbb', at2⟩ := ch_at (h.rd.below hw6) hlk
              injection hA with hA
              injection hA with hA1 hA2
              subst hA1 hA2
              have HB := Lib.hid (show l[k]? = some l[k] from List.getElem?_eq_getElem hlk)
              generalize l[k] = xk at *
              have hpx := h.p xi (List.mem_of_getElem? HA.out)
              have hpy := h.p xk (List.mem_of_getElem? HB.out)
              have hc2 := fun w => clashR_any xi xk (by omega) (by omega) w
              rw [show (upB xi xk || lowB xi xk) = clB xi xk from rfl] at hc2
              have HC := Lib.hid hc2
              clear hc2
              have HN : Hid (clB xi xk = true → soundB l = false) := fun e => soundB_no HA.out HB.out e
              have HT : Hid (cl = false → clB xi xk = false → (∀ (j k : Nat) (a b : CV), j < i → l[j]? = some a → l[k]? = some b → clB a b = false) ∧ ∀ (k' : Nat) (b : CV), k' < k + 1 → l[k']? = some b → clB xi b = false) := fun e0 e => ⟨(hcF.out e0).1, fun k' b hk' hb' => by
                rcases Nat.lt_or_ge k' k with h1 | h1
                · exact (hcF.out e0).2 k' b h1 hb'
                · obtain rfl : k' = k := by omega
                  rw [HB.out] at hb'
                  injection hb' with hb'
                  rw [← hb']
                  exact e⟩
              generalize clB xi xk = R at *
              have b4q := (b4.below hb6).alloc (.cells #[.string xk.p, .int .i64 xk.b, .bool xk.m, .bool xk.t, .int .i64 xk.k, .int .i64 xk.o, .int .i64 xk.s, .int .i64 xk.l, .int .i64 xk.v] 44)
              have b6r : Blk (wr.alloc (.cells #[.string xk.p, .int .i64 xk.b, .bool xk.m, .bool xk.t, .int .i64 xk.k, .int .i64 xk.o, .int .i64 xk.s, .int .i64 xk.l, .int .i64 xk.v] 44)) wr.heap.size 44 xk.cells.toArray := Blk.new wr _ _
              have hbr := hb6.alloc hb6.size (.cells #[.string xk.p, .int .i64 xk.b, .bool xk.m, .bool xk.t, .int .i64 xk.k, .int .i64 xk.o, .int .i64 xk.s, .int .i64 xk.l, .int .i64 xk.v] 44)
              obtain ⟨c0, c1, c2, c3, c4, c5, c6, c7, c8⟩ := at2
              obtain ⟨a0, a1, a2, a3, a4, a5, a6, a7, a8⟩ := cells9 b4q
              obtain ⟨d0, d1, d2, d3, d4, d5, d6, d7, d8⟩ := cells9 b6r
              clear hcF hpx hpy b4q b6r
              cases cl
              · have HT2 : Hid (R = false → _) := HT.out rfl
                clear HT
                go_wp2_with fail
                refine (HC.out _).mono ?_
                rintro e w7 ⟨rfl, hb7⟩
                have hb8 := hbr.trans (hb7.mono hbr.size)
                clear a0 a1 a2 a3 a4 a5 a6 a7 a8 d0 d1 d2 d3 d4 d5 d6 d7 d8 c0 c1 c2 c3 c4 c5 c6 c7 c8 hb7 hbr
                go_wp2_with fail
                go_roundw
                case rel => exact ⟨R, k + 1, rfl, by go_num, hlk, HN, HT2, hb8⟩
                case measure => simp [intOf]; omega
              · clear HT
                have hbr2 := Lib.hid hbr
                clear hbr
                go_wp2_with fail
                go_roundw
                case rel => exact ⟨true, k + 1, rfl, by go_num, hlk, hcT, (fun h => (by cases h)), hbr2.out⟩
                case measure => simp [intOf]; omega
            · have e : k = l.length := by omega
              subst e
              have HD : Hid (cl = false → ∀ (j k : Nat) (a b : CV), j < i + 1 → l[j]? = some a → l[k]? = some b → clB a b = false) := fun e0 j k' a b hj ha hb' => by
                rcases Nat.lt_or_ge j i with h1 | h1
                · exact (hcF.out e0).1 j k' a b h1 ha hb'
                · obtain rfl : j = i := by omega
                  rw [HA.out] at ha
                  injection ha with ha
                  rw [← ha]
                  exact (hcF.out e0).2 k' b (List.getElem?_eq_some_iff.1 hb').1 hb'
              clear hcF
              go_wp2_with fail
              go_roundw
              case rel => exact ⟨cl, i + 1, rfl, by go_num, hlt, hcT, HD, hbw⟩
              case measure => simp [intOf]; omega
        · have e : i = l.length := by omega
          subst e
          have hcl : cl = !soundB l := by
            cases cl
            · have : soundB l = true := (soundB_iff l).2 fun j k a b ha hb' => hcF.out rfl j k a b (List.getElem?_eq_some_iff.1 ha).1 ha hb'
              rw [this]; rfl
            · rw [hcT.out rfl]; rfl
          subst hcl
          clear hcT hcF hlt
          have hsx : soundB x = true := (closed_sound x).2 HX.out.2
          have HXL : Hid (x.length = l.length) := HX.out.1.le.1.symm
          have hxp : ∀ o ∈ x, o.p.size ≤ 140737488355328 := fun o ho => by
            obtain ⟨i, hi⟩ := List.mem_iff_getElem?.1 ho
            obtain ⟨q, hq, e⟩ := List.mem_map.1 (HX.out.1.path hi)
            rw [← e]
            exact h.p q hq
          have hxle : x.length ≤ 40 := by rw [HXL.out]; exact hlen
          have HchX : Hid (∀ v, Below wp.heap.size wp v → Chs v (fun b => w3.heap.size ≤ b) A2 x) := fun v hv => ⟨hrx.below (hb5.trans (hv.mono hb5.size)), hxp, by omega⟩
          have hsl : soundB l = true → x = l := fun e => HX.out.unique (Closes.refl ((closed_sound l).1 e))
          have HSL := Lib.hid hsl
          clear hsl hxp
          have hne : ((x.length : Int) != (l.length : Int)) = false := by have := HXL.out; simp; omega
          have HSo := Lib.hid (fun v (hv : Below wp.heap.size wp v) => sound_any A c l _ v (h.below (hw5.trans (hv.mono hw5.size))))
          have hso2 := fun v (hv : Below wp.heap.size wp v) => sound_any A2 c2 x _ v (HchX.out v hv)
          rw [hsx] at hso2
          have HSx := Lib.hid hso2
          have HCl := Lib.hid (fun v (hv : Below wp.heap.size wp v) => close_any A2 c2 x _ v (HchX.out v hv) (by omega))
          have hcx := HX.out.2
          have HCX := Lib.hid hcx
          clear hso2 hsx hcx hrx hb5
          cases hs : soundB l

          · rw [hs] at HSo
            try rw [hs] at HSL
            clear hs
            go_wp2_with fail
            refine (HSo.out _ (Below.refl _ _)).mono ?_
            rintro e w6 ⟨rfl, hb6⟩
            go_wp2_with fail
            refine (HSx.out _ hb6).mono ?_
            rintro e w7 ⟨rfl, hb7⟩
            replace hb7 := hb6.trans (hb7.mono hb6.size)
            go_wp2_with fail
            refine (HCl.out _ hb7).mono ?_
            rintro e w8 ⟨A8, c8, y, rfl, hy, hry, hb8⟩
            obtain rfl := (hy.unique (Closes.refl HCX.out)).symm
            replace hb8 := hb7.trans (hb8.mono hb7.size)
            have HSa := Lib.hid (sameR_any A8 A2 c8 c2 x x _ _ w8 ⟨hry, (HchX.out _ hb8).p, by omega⟩ (HchX.out _ hb8))
            rw [sameCs_self] at HSa
            clear hry hy hb6 hb7
            go_wp2_with fail
            refine HSa.out.mono ?_
            rintro e w9 ⟨rfl, hb9⟩
            replace hb9 := hb8.trans (hb9.mono hb8.size)
            clear hb8 HSa HSo HSx HCl HCX
            have hw9 := hw5.trans (hb9.mono hw5.size)
            go_wp2_with fail
            go_loopw [81] (fun iv wr => ∃ i : Nat, i ≤ x.length ∧ iv = .int .i64 (i : Int) ∧ Below w9.heap.size w9 wr) (fun iv _ => x.length - (intOf iv).toNat)
            case atStart => exact ⟨0, Nat.zero_le _, rfl, Below.refl _ _⟩
            case round =>
              obtain ⟨i, hi, rfl, hb10⟩ := hrel
              by_cases hlt : i < x.length
              · have hlt2 : i < l.length := by have := HXL.out; omega
                have hp10 := hb9.trans (hb10.mono hb9.size)
                obtain ⟨b, off, rfl, hz, hbb, at1⟩ := ch_at (HchX.out _ hp10).rd hlt
                obtain ⟨b', off', rfl, hz', hbb', at2⟩ := ch_at (h.rd.below (hw9.trans (hb10.mono hw9.size))) hlt2
                have hor := HX.out.1.le.2 i _ _ (List.getElem?_eq_getElem hlt2) (List.getElem?_eq_getElem hlt)
                generalize x[i] = xi at *
                generalize l[i] = li at *
                have kn1 : ∀ w, (binOp .neq 44 xi.val xi.val).run Try.prog w = .ok (.bool false) w := fun w => by
                  rw [neq_chg, (sameC_iff xi xi).2 rfl]
                  rfl
                rcases hor with rfl | rfl
                · have kv := ne_self_int xi.v
                  have at3 := at2.below hbb' ((Below.refl wr.heap.size wr).alloc (Nat.le_refl _) (.cells #[.string xi.p, .int .i64 xi.b, .bool xi.m, .bool xi.t, .int .i64 xi.k, .int .i64 xi.o, .int .i64 xi.s, .int .i64 xi.l, .int .i64 xi.v] 44))
                  have HB : Hid (Below w9.heap.size w9 ((wr.alloc (.cells #[.string xi.p, .int .i64 xi.b, .bool xi.m, .bool xi.t, .int .i64 xi.k, .int .i64 xi.o, .int .i64 xi.s, .int .i64 xi.l, .int .i64 xi.v] 44)).alloc (.cells #[.string xi.p, .int .i64 xi.b, .bool xi.m, .bool xi.t, .int .i64 xi.k, .int .i64 xi.o, .int .i64 xi.s, .int .i64 xi.l, .int .i64 xi.v] 44))) := (hb10.alloc hb10.size _).alloc (by have := hb10.size; simp; omega) _
                  obtain ⟨a0, a1, a2, a3, a4, a5, a6, a7, a8⟩ := at1
                  obtain ⟨c0, c1, c2, c3, c4, c5, c6, c7, c8⟩ := at3
                  clear at2 hb10 hp10
                  go_wp2_with fail
                  go_roundw
                  case rel => exact ⟨i + 1, hlt, by go_num, HB.out⟩
                  case measure => simp [intOf]; omega
                · have at3 := at2.below hbb' ((Below.refl wr.heap.size wr).alloc (Nat.le_refl _) (.cells #[.string li.p, .int .i64 li.b, .bool li.m, .bool li.t, .int .i64 li.k, .int .i64 li.o, .int .i64 li.s, .int .i64 li.l, .int .i64 5] 44))
                  have HB : Hid (Below w9.heap.size w9 ((wr.alloc (.cells #[.string li.p, .int .i64 li.b, .bool li.m, .bool li.t, .int .i64 li.k, .int .i64 li.o, .int .i64 li.s, .int .i64 li.l, .int .i64 5] 44)).alloc (.cells #[.string li.p, .int .i64 li.b, .bool li.m, .bool li.t, .int .i64 li.k, .int .i64 li.o, .int .i64 li.s, .int .i64 li.l, .int .i64 5] 44))) := (hb10.alloc hb10.size _).alloc (by have := hb10.size; simp; omega) _
                  obtain ⟨a0, a1, a2, a3, a4, a5, a6, a7, a8⟩ := at1
                  obtain ⟨c0, c1, c2, c3, c4, c5, c6, c7, c8⟩ := at3
                  unfold CV.conf at a0 a1 a2 a3 a4 a5 a6 a7 a8 kn1
                  dsimp only at a0 a1 a2 a3 a4 a5 a6 a7 a8 kn1
                  clear at2 hb10 hp10
                  cases hv : ((5 : Int) != li.v)
                  · go_wp2_with fail
                    go_roundw
                    case rel => exact ⟨i + 1, hlt, by go_num, HB.out⟩
                    case measure => simp [intOf]; omega
                  · go_wp2_with fail
                    go_roundw
                    case rel => exact ⟨i + 1, hlt, by go_num, HB.out⟩
                    case measure => simp [intOf]; omega
              · have e : i = x.length := by omega
                subst e
                have hw10 := hw9.trans (hb10.mono hw9.size)
                go_wp2_with fail
                refine (lives26_any _).mono ?_
                rintro e w12 ⟨rfl, hb12⟩
                go_wp2_with fail
                go_ret
                exact ⟨rfl, hw10.trans (hb12.mono hw10.size)⟩

          · rw [hs] at HSo
            try rw [hs] at HSL
            clear hs
            go_wp2_with fail
            refine (HSo.out _ (Below.refl _ _)).mono ?_
            rintro e w6 ⟨rfl, hb6⟩
            go_wp2_with fail
            refine (HSx.out _ hb6).mono ?_
            rintro e w7 ⟨rfl, hb7⟩
            replace hb7 := hb6.trans (hb7.mono hb6.size)
            go_wp2_with fail
            refine (HCl.out _ hb7).mono ?_
            rintro e w8 ⟨A8, c8, y, rfl, hy, hry, hb8⟩
            obtain rfl := (hy.unique (Closes.refl HCX.out)).symm
            replace hb8 := hb7.trans (hb8.mono hb7.size)
            have HSa := Lib.hid (sameR_any A8 A2 c8 c2 x x _ _ w8 ⟨hry, (HchX.out _ hb8).p, by omega⟩ (HchX.out _ hb8))
            rw [sameCs_self] at HSa
            clear hry hy hb6 hb7
            go_wp2_with fail
            refine HSa.out.mono ?_
            rintro e w9 ⟨rfl, hb9⟩
            replace hb9 := hb8.trans (hb9.mono hb8.size)
            clear hb8 HSa HSo HSx HCl HCX
            have hw9 := hw5.trans (hb9.mono hw5.size)
            go_wp2_with fail
            go_loopw [81] (fun iv wr => ∃ i : Nat, i ≤ x.length ∧ iv = .int .i64 (i : Int) ∧ Below w9.heap.size w9 wr) (fun iv _ => x.length - (intOf iv).toNat)
            case atStart => exact ⟨0, Nat.zero_le _, rfl, Below.refl _ _⟩
            case round =>
              obtain ⟨i, hi, rfl, hb10⟩ := hrel
              by_cases hlt : i < x.length
              · have hlt2 : i < l.length := by have := HXL.out; omega
                have hp10 := hb9.trans (hb10.mono hb9.size)
                obtain ⟨b, off, rfl, hz, hbb, at1⟩ := ch_at (HchX.out _ hp10).rd hlt
                obtain ⟨b', off', rfl, hz', hbb', at2⟩ := ch_at (h.rd.below (hw9.trans (hb10.mono hw9.size))) hlt2
                have hor := HX.out.1.le.2 i _ _ (List.getElem?_eq_getElem hlt2) (List.getElem?_eq_getElem hlt)
                generalize x[i] = xi at *
                generalize l[i] = li at *
                have kn1 : ∀ w, (binOp .neq 44 xi.val xi.val).run Try.prog w = .ok (.bool false) w := fun w => by
                  rw [neq_chg, (sameC_iff xi xi).2 rfl]
                  rfl
                rcases hor with rfl | rfl
                · have kv := ne_self_int xi.v
                  have at3 := at2.below hbb' ((Below.refl wr.heap.size wr).alloc (Nat.le_refl _) (.cells #[.string xi.p, .int .i64 xi.b, .bool xi.m, .bool xi.t, .int .i64 xi.k, .int .i64 xi.o, .int .i64 xi.s, .int .i64 xi.l, .int .i64 xi.v] 44))
                  have HB : Hid (Below w9.heap.size w9 ((wr.alloc (.cells #[.string xi.p, .int .i64 xi.b, .bool xi.m, .bool xi.t, .int .i64 xi.k, .int .i64 xi.o, .int .i64 xi.s, .int .i64 xi.l, .int .i64 xi.v] 44)).alloc (.cells #[.string xi.p, .int .i64 xi.b, .bool xi.m, .bool xi.t, .int .i64 xi.k, .int .i64 xi.o, .int .i64 xi.s, .int .i64 xi.l, .int .i64 xi.v] 44))) := (hb10.alloc hb10.size _).alloc (by have := hb10.size; simp; omega) _
                  obtain ⟨a0, a1, a2, a3, a4, a5, a6, a7, a8⟩ := at1
                  obtain ⟨c0, c1, c2, c3, c4, c5, c6, c7, c8⟩ := at3
                  clear at2 hb10 hp10
                  go_wp2_with fail
                  go_roundw
                  case rel => exact ⟨i + 1, hlt, by go_num, HB.out⟩
                  case measure => simp [intOf]; omega
                · have at3 := at2.below hbb' ((Below.refl wr.heap.size wr).alloc (Nat.le_refl _) (.cells #[.string li.p, .int .i64 li.b, .bool li.m, .bool li.t, .int .i64 li.k, .int .i64 li.o, .int .i64 li.s, .int .i64 li.l, .int .i64 5] 44))
                  have HB : Hid (Below w9.heap.size w9 ((wr.alloc (.cells #[.string li.p, .int .i64 li.b, .bool li.m, .bool li.t, .int .i64 li.k, .int .i64 li.o, .int .i64 li.s, .int .i64 li.l, .int .i64 5] 44)).alloc (.cells #[.string li.p, .int .i64 li.b, .bool li.m, .bool li.t, .int .i64 li.k, .int .i64 li.o, .int .i64 li.s, .int .i64 li.l, .int .i64 5] 44))) := (hb10.alloc hb10.size _).alloc (by have := hb10.size; simp; omega) _
                  obtain ⟨a0, a1, a2, a3, a4, a5, a6, a7, a8⟩ := at1
                  obtain ⟨c0, c1, c2, c3, c4, c5, c6, c7, c8⟩ := at3
                  unfold CV.conf at a0 a1 a2 a3 a4 a5 a6 a7 a8 kn1
                  dsimp only at a0 a1 a2 a3 a4 a5 a6 a7 a8 kn1
                  clear at2 hb10 hp10
                  cases hv : ((5 : Int) != li.v)
                  · go_wp2_with fail
                    go_roundw
                    case rel => exact ⟨i + 1, hlt, by go_num, HB.out⟩
                    case measure => simp [intOf]; omega
                  · go_wp2_with fail
                    go_roundw
                    case rel => exact ⟨i + 1, hlt, by go_num, HB.out⟩
                    case measure => simp [intOf]; omega
              · have e : i = x.length := by omega
                subst e
                have hw10 := hw9.trans (hb10.mono hw9.size)
                have hxl := HSL.out (by first | trivial | rfl)
                have hsm := sameR_any A2 A c2 c x l _ _ wr (HchX.out _ (hb9.trans (hb10.mono hb9.size))) (h.below hw10)
                rw [(sameCs_iff x l).2 hxl] at hsm
                have HSM := Lib.hid hsm
                clear hsm hxl
                go_wp2_with fail
                refine HSM.out.mono ?_
                rintro e w11 ⟨rfl, hb11⟩
                have hw11 := hw10.trans (hb11.mono hw10.size)
                go_wp2_with fail
                refine (lives26_any _).mono ?_
                rintro e w12 ⟨rfl, hb12⟩
                go_wp2_with fail
                go_ret
                exact ⟨rfl, hw11.trans (hb12.mono hw11.size)⟩

end Go.Proofs.Ytffimpjjdhnajaa
