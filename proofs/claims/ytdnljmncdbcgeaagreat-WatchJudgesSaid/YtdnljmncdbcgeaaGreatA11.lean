/- watch: Held, Common, Turns, whole; of none. -/
import Derived.Test.YtdnljmncdbcgeaaGreatA10
import Derived.ChangeMaps5
import Derived.Lib.SlBytesConst
import Derived.Laws.MakeOwn

namespace Go.Proofs.YtdnljmncdbcgeaaGreat
open Go.RowKit Go.Maps

theorem zeroL (T : List (List UInt8 × LP)) : T = T := rfl
/-- a row of numbers of the call's own -/
def IntOwn (w : World) (base : Nat) (e : Ending) (l : List Nat) : Prop :=
  ∃ (A : Option Addr) (c : Nat) (l' : List Nat), e = .returned (.slice A l'.length c) ∧ Hid (l' = l) ∧ Row w base 3 1 A l'.length c (l'.map fun (n : Nat) => Value.int .i64 (n : Int))
theorem int_info : (Tryz.prog.info? 3).map (fun i => (i.zero, i.size, i.bytes)) = some (some (.int .i64 0), 1, 8) := by kernel_rfl

set_option maxRecDepth 100000 in
set_option maxHeartbeats 1000000 in
theorem held_any (col : Nat → Nat) (gb : Nat) (H K : List (List (List UInt8 × LP))) (which : Int) (p : List UInt8) (k2 : Int) (A2 : Option Addr) (c2 : Nat) (l2 : List UInt8) (Z : Nat → Prop) (a b : Int) (w : World) (h : LogAt w col gb H K) (hp : p.length ≤ 1048576) (hH : H.length ≤ 300) (hy : By w Z A2 l2) :
    Calls Tryz.prog 12 #[.pointer (some ⟨gb, 0, none⟩), .int .i64 which, .string ⟨⟨p⟩⟩, .agg #[.int .i64 k2, .slice A2 l2.length c2], .int .i64 a, .int .i64 b] w fun e w' => e = .returned (.bool (someG (isAt (sideS H K which) p (k2, l2)) (sideS H K which).length a b)) ∧ Below w.heap.size w w' := by
  have b0 : Blk ((((w.alloc (.cells #[.pointer (some ⟨gb, 0, none⟩)] 30)).alloc (.cells #[.int .i64 which] 3)).alloc (.cells #[.string ⟨⟨p⟩⟩] 9)).alloc (.cells #[.int .i64 k2, .slice A2 l2.length c2] 25)) (w.heap.size) 30 #[.pointer (some ⟨gb, 0, none⟩)] := by
    have := ((((Blk.new w 30 #[.pointer (some ⟨gb, 0, none⟩)]).alloc (.cells #[.int .i64 which] 3)).alloc (.cells #[.string ⟨⟨p⟩⟩] 9)).alloc (.cells #[.int .i64 k2, .slice A2 l2.length c2] 25))
    simpa using this
  have b1 : Blk ((((w.alloc (.cells #[.pointer (some ⟨gb, 0, none⟩)] 30)).alloc (.cells #[.int .i64 which] 3)).alloc (.cells #[.string ⟨⟨p⟩⟩] 9)).alloc (.cells #[.int .i64 k2, .slice A2 l2.length c2] 25)) (w.heap.size + 1) 3 #[.int .i64 which] := by
    have := (((Blk.new (w.alloc (.cells #[.pointer (some ⟨gb, 0, none⟩)] 30)) 3 #[.int .i64 which]).alloc (.cells #[.string ⟨⟨p⟩⟩] 9)).alloc (.cells #[.int .i64 k2, .slice A2 l2.length c2] 25))
    simpa using this
  have b2 : Blk ((((w.alloc (.cells #[.pointer (some ⟨gb, 0, none⟩)] 30)).alloc (.cells #[.int .i64 which] 3)).alloc (.cells #[.string ⟨⟨p⟩⟩] 9)).alloc (.cells #[.int .i64 k2, .slice A2 l2.length c2] 25)) (w.heap.size + 2) 9 #[.string ⟨⟨p⟩⟩] := by
    have := ((Blk.new ((w.alloc (.cells #[.pointer (some ⟨gb, 0, none⟩)] 30)).alloc (.cells #[.int .i64 which] 3)) 9 #[.string ⟨⟨p⟩⟩]).alloc (.cells #[.int .i64 k2, .slice A2 l2.length c2] 25))
    simpa using this
  have b3 : Blk ((((w.alloc (.cells #[.pointer (some ⟨gb, 0, none⟩)] 30)).alloc (.cells #[.int .i64 which] 3)).alloc (.cells #[.string ⟨⟨p⟩⟩] 9)).alloc (.cells #[.int .i64 k2, .slice A2 l2.length c2] 25)) (w.heap.size + 3) 25 #[.int .i64 k2, .slice A2 l2.length c2] := by
    have := (Blk.new (((w.alloc (.cells #[.pointer (some ⟨gb, 0, none⟩)] 30)).alloc (.cells #[.int .i64 which] 3)).alloc (.cells #[.string ⟨⟨p⟩⟩] 9)) 25 #[.int .i64 k2, .slice A2 l2.length c2])
    simpa using this
  have hbw : Below w.heap.size w ((((w.alloc (.cells #[.pointer (some ⟨gb, 0, none⟩)] 30)).alloc (.cells #[.int .i64 which] 3)).alloc (.cells #[.string ⟨⟨p⟩⟩] 9)).alloc (.cells #[.int .i64 k2, .slice A2 l2.length c2] 25)) := (by repeat (first | exact Below.refl _ _ | refine Below.alloc ?_ (by simp <;> omega) _))
  have HL := Lib.hid (h.below hbw)
  have HY := Lib.hid (hy.below hbw)
  obtain ⟨V, hV⟩ : ∃ V, V = someG (isAt (sideS H K which) p (k2, l2)) (sideS H K which).length a b := ⟨_, rfl⟩
  rw [← hV]
  have HV := Lib.hid hV
  clear hV h hy
  go_enter Tryz.func12, Tryz.ntmps12
  go_upto_region 1 with (fail)
  generalize ((((w.alloc (.cells #[.pointer (some ⟨gb, 0, none⟩)] 30)).alloc (.cells #[.int .i64 which] 3)).alloc (.cells #[.string ⟨⟨p⟩⟩] 9)).alloc (.cells #[.int .i64 k2, .slice A2 l2.length c2] 25)) = w4 at *
  have q0 := b0.cell 0
  have q1 := b1.cell 0
  simp only [List.getElem?_toArray, List.getElem?_cons_zero] at q0 q1
  go_wp2_with fail
  refine (side_any gb which w4).mono ?_
  rintro e w5 ⟨rfl, hb5⟩
  have hw5 := hbw.trans (hb5.mono hbw.size)
  have B0 := Lib.hid (b0.below hb5)
  have B1 := Lib.hid (b1.below hb5)
  have B2 := Lib.hid (b2.below hb5)
  have B3 := Lib.hid (b3.below hb5)
  have HL5 := Lib.hid (HL.out.below hb5)
  have HY5 := Lib.hid (HY.out.below hb5)
  have q5 := B0.out.cell 0
  simp only [List.getElem?_toArray, List.getElem?_cons_zero] at q5
  clear b0 b1 b2 b3 q0 q1 HL HY
  by_cases hw : which = 1 ∨ which = 2
  · obtain ⟨o, ho⟩ := sideP_some (gb := gb) hw
    rw [ho]
    clear ho
    have hlen := log_len HL5.out hw
    have HLN := Lib.hid hlen
    have HW := Lib.hid hw
    clear hlen hw
    go_wp2_with fail
    refine (someHeld_any (some ⟨gb, 0, none⟩) (sideS H K which).length (isAt (sideS H K which) p (k2, l2)) a b w.heap.size (w.heap.size + 1) (w.heap.size + 2) (w.heap.size + 3) w5 (by rw [HLN.out]; omega)
      (fun W hW => by rw [HLN.out]; exact moments_any gb col H K W (HL5.out.below hW))
      (fun W hW k hk => heldC_any col gb H K which p k2 A2 c2 l2 w.heap.size (w.heap.size + 1) (w.heap.size + 2) (w.heap.size + 3) _ W k (HL5.out.below hW) hp hH HW.out (B0.out.below hW) (B1.out.below hW) (B2.out.below hW) (B3.out.below hW) (HY5.out.below hW) hk)).mono ?_
    rintro e w6 ⟨rfl, hb6⟩
    rw [← HV.out]
    have hw6 := hw5.trans (hb6.mono hw5.size)
    go_wp2_with fail
    go_ret
    exact ⟨rfl, hw6⟩
  · rw [sideP_none hw]
    have hVf : V = false := by rw [HV.out, sideS_none hw]; rfl
    subst hVf
    go_wp2_with fail
    go_ret
    exact ⟨rfl, hw5⟩
theorem held_nil (which : Int) (p : List UInt8) (k2 : Int) (A2 : Option Addr) (c2 : Nat) (l2 : List UInt8) (a b : Int) (w : World) :
    Calls Tryz.prog 12 #[.pointer none, .int .i64 which, .string ⟨⟨p⟩⟩, .agg #[.int .i64 k2, .slice A2 l2.length c2], .int .i64 a, .int .i64 b] w fun e w' => e = .returned (.bool false) ∧ Below w.heap.size w w' := by
  have b0 := Blk.new w 30 #[.pointer none]
  have b1 := Blk.new (w.alloc (.cells #[.pointer none] 30)) 3 #[.int .i64 which]
  have hbw : Below w.heap.size w ((((w.alloc (.cells #[.pointer none] 30)).alloc (.cells #[.int .i64 which] 3)).alloc (.cells #[.string ⟨⟨p⟩⟩] 9)).alloc (.cells #[.int .i64 k2, .slice A2 l2.length c2] 25)) := (by repeat (first | exact Below.refl _ _ | refine Below.alloc ?_ (by simp <;> omega) _))
  have c0 : ((((w.alloc (.cells #[.pointer none] 30)).alloc (.cells #[.int .i64 which] 3)).alloc (.cells #[.string ⟨⟨p⟩⟩] 9)).alloc (.cells #[.int .i64 k2, .slice A2 l2.length c2] 25)).cell? ⟨w.heap.size, 0, none⟩ = some (.pointer none) := (((b0.alloc _).alloc _).alloc _).cell 0
  have c1 : ((((w.alloc (.cells #[.pointer none] 30)).alloc (.cells #[.int .i64 which] 3)).alloc (.cells #[.string ⟨⟨p⟩⟩] 9)).alloc (.cells #[.int .i64 k2, .slice A2 l2.length c2] 25)).cell? ⟨w.heap.size + 1, 0, none⟩ = some (.int .i64 which) := by
    have := ((b1.alloc (.cells #[.string ⟨⟨p⟩⟩] 9)).alloc (.cells #[.int .i64 k2, .slice A2 l2.length c2] 25)).cell 0
    simpa using this
  clear b0 b1
  go_enter Tryz.func12, Tryz.ntmps12
  go_upto_region 1 with (fail)
  generalize ((((w.alloc (.cells #[.pointer none] 30)).alloc (.cells #[.int .i64 which] 3)).alloc (.cells #[.string ⟨⟨p⟩⟩] 9)).alloc (.cells #[.int .i64 k2, .slice A2 l2.length c2] 25)) = w4 at *
  go_wp2_with fail
  refine (side_nil which w4).mono ?_
  rintro e w5 ⟨rfl, hb5⟩
  have hw5 := hbw.trans (hb5.mono hbw.size)
  go_wp2_with fail
  go_ret
  exact ⟨rfl, hw5⟩
set_option maxRecDepth 100000 in
set_option maxHeartbeats 1000000 in
theorem common_any (col : Nat → Nat) (gb : Nat) (H K : List (List (List UInt8 × LP))) (p : List UInt8) (k2 : Int) (A2 : Option Addr) (c2 : Nat) (l2 : List UInt8) (Z : Nat → Prop) (a b : Int) (w : World) (h : LogAt w col gb H K) (hp : p.length ≤ 1048576) (hH : H.length ≤ 300) (hy : By w Z A2 l2) :
    Calls Tryz.prog 14 #[.pointer (some ⟨gb, 0, none⟩), .string ⟨⟨p⟩⟩, .agg #[.int .i64 k2, .slice A2 l2.length c2], .int .i64 a, .int .i64 b] w fun e w' => e = .returned (.bool (someG (bothAt H K p (k2, l2)) H.length a b)) ∧ Below w.heap.size w w' := by
  have b0 : Blk (((w.alloc (.cells #[.pointer (some ⟨gb, 0, none⟩)] 30)).alloc (.cells #[.string ⟨⟨p⟩⟩] 9)).alloc (.cells #[.int .i64 k2, .slice A2 l2.length c2] 25)) (w.heap.size) 30 #[.pointer (some ⟨gb, 0, none⟩)] := by
    have := (((Blk.new w 30 #[.pointer (some ⟨gb, 0, none⟩)]).alloc (.cells #[.string ⟨⟨p⟩⟩] 9)).alloc (.cells #[.int .i64 k2, .slice A2 l2.length c2] 25))
    simpa using this
  have b1 : Blk (((w.alloc (.cells #[.pointer (some ⟨gb, 0, none⟩)] 30)).alloc (.cells #[.string ⟨⟨p⟩⟩] 9)).alloc (.cells #[.int .i64 k2, .slice A2 l2.length c2] 25)) (w.heap.size + 1) 9 #[.string ⟨⟨p⟩⟩] := by
    have := ((Blk.new (w.alloc (.cells #[.pointer (some ⟨gb, 0, none⟩)] 30)) 9 #[.string ⟨⟨p⟩⟩]).alloc (.cells #[.int .i64 k2, .slice A2 l2.length c2] 25))
    simpa using this
  have b2 : Blk (((w.alloc (.cells #[.pointer (some ⟨gb, 0, none⟩)] 30)).alloc (.cells #[.string ⟨⟨p⟩⟩] 9)).alloc (.cells #[.int .i64 k2, .slice A2 l2.length c2] 25)) (w.heap.size + 2) 25 #[.int .i64 k2, .slice A2 l2.length c2] := by
    have := (Blk.new ((w.alloc (.cells #[.pointer (some ⟨gb, 0, none⟩)] 30)).alloc (.cells #[.string ⟨⟨p⟩⟩] 9)) 25 #[.int .i64 k2, .slice A2 l2.length c2])
    simpa using this
  have hbw : Below w.heap.size w (((w.alloc (.cells #[.pointer (some ⟨gb, 0, none⟩)] 30)).alloc (.cells #[.string ⟨⟨p⟩⟩] 9)).alloc (.cells #[.int .i64 k2, .slice A2 l2.length c2] 25)) := (by repeat (first | exact Below.refl _ _ | refine Below.alloc ?_ (by simp <;> omega) _))
  have HL := Lib.hid (h.below hbw)
  have HY := Lib.hid (hy.below hbw)
  have HB0 := Lib.hid b0
  have HB1 := Lib.hid b1
  have HB2 := Lib.hid b2
  obtain ⟨V, hV⟩ : ∃ V, V = someG (bothAt H K p (k2, l2)) H.length a b := ⟨_, rfl⟩
  rw [← hV]
  have HV := Lib.hid hV
  have q0 := b0.cell 0
  simp only [List.getElem?_toArray, List.getElem?_cons_zero] at q0
  clear hV h hy b0 b1 b2
  go_enter Tryz.func14, Tryz.ntmps14
  go_upto_region 1 with (fail)
  generalize (((w.alloc (.cells #[.pointer (some ⟨gb, 0, none⟩)] 30)).alloc (.cells #[.string ⟨⟨p⟩⟩] 9)).alloc (.cells #[.int .i64 k2, .slice A2 l2.length c2] 25)) = w4 at *
  go_wp2_with fail
  refine (someCommon_any (some ⟨gb, 0, none⟩) H.length (bothAt H K p (k2, l2)) a b w.heap.size (w.heap.size + 1) (w.heap.size + 2) w4 (by omega)
      (fun W hW => moments_any gb col H K W (HL.out.below hW))
      (fun W hW k hk => commonC_any col gb H K p k2 A2 c2 l2 w.heap.size (w.heap.size + 1) (w.heap.size + 2) _ W k (HL.out.below hW) hp hH (HB0.out.below hW) (HB1.out.below hW) (HB2.out.below hW) (HY.out.below hW) hk)).mono ?_
  rintro e w6 ⟨rfl, hb6⟩
  rw [← HV.out]
  have hw6 := hbw.trans (hb6.mono hbw.size)
  go_wp2_with fail
  go_ret
  exact ⟨rfl, hw6⟩
theorem common_nil (p : List UInt8) (k2 : Int) (A2 : Option Addr) (c2 : Nat) (l2 : List UInt8) (a b : Int) (w : World) :
    Calls Tryz.prog 14 #[.pointer none, .string ⟨⟨p⟩⟩, .agg #[.int .i64 k2, .slice A2 l2.length c2], .int .i64 a, .int .i64 b] w fun e w' => e = .returned (.bool false) ∧ Below w.heap.size w w' := by
  have b0 := Blk.new w 30 #[.pointer none]
  have hbw : Below w.heap.size w (((w.alloc (.cells #[.pointer none] 30)).alloc (.cells #[.string ⟨⟨p⟩⟩] 9)).alloc (.cells #[.int .i64 k2, .slice A2 l2.length c2] 25)) := (by repeat (first | exact Below.refl _ _ | refine Below.alloc ?_ (by simp <;> omega) _))
  have c0 : (((w.alloc (.cells #[.pointer none] 30)).alloc (.cells #[.string ⟨⟨p⟩⟩] 9)).alloc (.cells #[.int .i64 k2, .slice A2 l2.length c2] 25)).cell? ⟨w.heap.size, 0, none⟩ = some (.pointer none) := ((b0.alloc _).alloc _).cell 0
  clear b0
  go_enter Tryz.func14, Tryz.ntmps14
  go_upto_region 1 with (fail)
  generalize (((w.alloc (.cells #[.pointer none] 30)).alloc (.cells #[.string ⟨⟨p⟩⟩] 9)).alloc (.cells #[.int .i64 k2, .slice A2 l2.length c2] 25)) = w4 at *
  go_wp2_with fail
  refine (someCommon_any none 0 (fun _ => false) a b w.heap.size (w.heap.size + 1) (w.heap.size + 2) w4 (by omega) (fun W _ => moments_nil W) (fun W hW k hk => by omega)).mono ?_
  rintro e w6 ⟨rfl, hb6⟩
  have hw6 := hbw.trans (hb6.mono hbw.size)
  rw [show someG (fun _ => false) 0 a b = false from rfl]
  go_wp2_with fail
  go_ret
  exact ⟨rfl, hw6⟩
theorem logAt_nil (which : Int) (p : List UInt8) (m : Int) (w : World) :
    Calls Tryz.prog 10 #[.pointer none, .int .i64 which, .string ⟨⟨p⟩⟩, .int .i64 m] w fun e w' => LeafTold w' w.heap.size e (0, []) ∧ Below w.heap.size w w' := by
  have hb0 : Below w.heap.size w (w.alloc (.cells #[.int .i64 0, .slice none 0 0] 25)) := (Below.refl _ _).alloc (Nat.le_refl _) _
  have hk0 := Blk.new w 25 #[.int .i64 0, .slice none 0 0]
  obtain ⟨lb, hlb⟩ : ∃ lb, lb = w.heap.size := ⟨_, rfl⟩
  rw [← hlb] at hk0
  have hlb2 : w.heap.size ≤ lb := by omega
  go_enter Tryz.func10, Tryz.ntmps10
  go_upto_region 1 with (fail)
  rw [← hlb]
  clear hlb
  generalize w.alloc (.cells #[.int .i64 0, .slice none 0 0] 25) = w0 at *
  go_wp2_with fail
  refine (side_nil which w0).mono ?_
  rintro e w1 ⟨rfl, hb1⟩
  have hw1 := hb0.trans (hb1.mono hb0.size)
  have hk := hk0.below hb1
  have HZ : Hid (((0, []) : LP) = (0, [])) := Lib.hid rfl
  clear hk0 hb1 hb0
  have e0 := hk.cell 0
  have e1 := hk.cell 1
  simp only [List.getElem?_toArray, List.getElem?_cons_zero, List.getElem?_cons_succ] at e0 e1
  have kE := (hk.set_ 0 (.int .i64 0)).set_ 1 (.slice none 0 0)
  simp only [List.setIfInBounds_toArray, List.set_cons_zero, List.set_cons_succ] at kE
  have fz := fun j => hk.frozen j
  have kF : Fr (fun x => x = lb) w1 ((w1.setCell ⟨lb, 0, none⟩ (.int .i64 0)).setCell ⟨lb, 1, none⟩ (.slice none 0 0)) := ((Fr.refl (fun x => x = lb) w1).setAt lb _ rfl _).setAt lb _ rfl _
  have hwE : Below w.heap.size w ((w1.setCell ⟨lb, 0, none⟩ (.int .i64 0)).setCell ⟨lb, 1, none⟩ (.slice none 0 0)) := hw1.trans (kF.below (B := w.heap.size) hw1.size (fun k hk e => by omega))
  clear kF
  go_wp2_with fail
  clear e0 e1
  generalize (w1.setCell ⟨lb, 0, none⟩ (.int .i64 0)).setCell ⟨lb, 1, none⟩ (.slice none 0 0) = wE at *
  have e0 := kE.cell 0
  have e1 := kE.cell 1
  simp only [List.getElem?_toArray, List.getElem?_cons_zero, List.getElem?_cons_succ] at e0 e1
  refine bodyPost_ret (v := .agg #[.int .i64 0, .slice none 0 0]) (by simp [results, Tryz.results10, go_sem, e0, e1]) rfl ?_
  exact ⟨⟨0, none, 0, [], rfl, Lib.hid rfl, OwB.nil _ _, by simp⟩, hwE⟩
theorem turns_nil (which : Int) (p : List UInt8) (w : World) : Calls Tryz.prog 16 #[.pointer none, .int .i64 which, .string ⟨⟨p⟩⟩] w fun e w' => e = .returned (.slice none 0 0) ∧ Below w.heap.size w w' := by
  go_enter Tryz.func16, Tryz.ntmps16
  go_wp2_with fail
  refine (side_nil which w).mono ?_
  rintro e w1 ⟨rfl, hb1⟩
  go_wp2_with fail
  go_ret
  exact ⟨rfl, hb1⟩


set_option maxRecDepth 100000 in
set_option maxHeartbeats 1000000 in
theorem turns1_any (col : Nat → Nat) (gb : Nat) (H K : List (List (List UInt8 × LP))) (p : List UInt8) (w : World) (h : LogAt w col gb H K) (hp : p.length ≤ 1048576) (hH : H.length ≤ 300) :
    Calls Tryz.prog 16 #[.pointer (some ⟨gb, 0, none⟩), .int .i64 1, .string ⟨⟨p⟩⟩] w fun e w' => IntOwn w' w.heap.size e ((turnsG 0 ((0, []) : LP) (H.map fun T => at0 T p)).map (·.1)) ∧ Below w.heap.size w w' := by
  obtain ⟨v0, m0, v1, m1, L0, R0, L1, R1, h1, h2, h3, h4, h5⟩ := h.at_
  have HT := Lib.hid h2.turns
  have HR : Hid (∀ p, rowsW R0 p = turnsG 0 ((0, []) : LP) (H.map fun T => at0 T p)) := h4.rows
  obtain ⟨r, hr⟩ : ∃ r, r = rowO R0 p := ⟨_, rfl⟩
  have hrl : r.l.length ≤ 300 := by
    have := h4.rlen p
    rw [rowsW_O, ← hr, List.length_map] at this
    have := h.len
    omega
  obtain ⟨G, hG⟩ : ∃ G, G = (turnsG 0 ((0, []) : LP) (H.map fun T => at0 T p)).map (·.1) := ⟨_, rfl⟩
  rw [← hG]
  have HG : Hid (r.l.map TU.n = G) := Lib.hid (by rw [hG, ← HR.out p, rowsW_O, ← hr, List.map_map]; rfl)
  have HROW := Lib.hid (fun W (hW : Below w.heap.size w W) => (HT.out.below hW).rowO_row p)
  have HLK := Lib.hid (fun W (hW : Below w.heap.size w W) => (HT.out.below hW).look p (by simp only [maxLen]; omega))
  rw [← hr] at HROW HLK
  have q2 := h1.cell 2
  simp only [List.getElem?_toArray, List.getElem?_cons_zero, List.getElem?_cons_succ] at q2
  have hgl := h1.lt
  obtain ⟨i0, hi0, hz0, hz1, hz2⟩ := info_parts int_info
  clear h h1 h2 h3 h4 h5 hr hG HT HR
  go_enter Tryz.func16, Tryz.ntmps16
  go_wp2_with fail
  refine (side_any gb 1 w).mono ?_
  rintro e w1 ⟨rfl, hb1⟩
  rw [show sideP gb 1 = some ⟨gb, 1, none⟩ from rfl]
  have hq2 := cellAt hb1 hgl q2
  have hlook1 := HLK.out w1 hb1
  clear q2
  go_wp2_with fail
  go_loopw [6, 22] (fun ov iv wr => ∃ (i : Nat) (A : Option Addr) (c : Nat) (l' : List Nat), i ≤ r.l.length ∧ iv = .int .i64 (i : Int) ∧ ov = .slice A l'.length c ∧ Hid (l' = (r.l.take i).map TU.n) ∧ Row wr w.heap.size 3 1 A l'.length c (l'.map fun (n : Nat) => Value.int .i64 (n : Int)) ∧ Below w.heap.size w wr) (fun _ iv _ => r.l.length - (intOf iv).toNat)
  case atStart => exact ⟨0, none, 0, [], Nat.zero_le _, rfl, rfl, Lib.hid rfl, Row.none_ _ _ _ _, hb1⟩
  case round =>
    obtain ⟨i, A, c, l', hi, rfl, rfl, hl', hrow, hb⟩ := hrel
    by_cases hlt : i < r.l.length
    · obtain ⟨b, off, hA, hbb, c0, c1, c2⟩ := tu_at (HROW.out wr hb) hlt
      have hln : l'.length = i := by rw [hl'.out, List.length_map, List.length_take]; omega
      obtain ⟨t, ht'⟩ : ∃ t, t = r.l[i] := ⟨_, rfl⟩
      have HN : Hid (l' ++ [t.n] = (r.l.take (i + 1)).map TU.n) := Lib.hid (by rw [List.take_succ_eq_append_getElem hlt, List.map_append, ← hl'.out, ht']; rfl)
      rw [← ht'] at c0 c1 c2
      have hv : Value.slice r.A r.l.length r.c = .slice (some ⟨b, off, none⟩) r.l.length r.c := by rw [hA]
      have hba : Below wr.heap.size wr (wr.alloc (.cells #[.int .i64 (t.n : Int), .int .i64 t.o.k, .slice t.o.x.A t.o.x.l.length t.o.x.c] 111)) := (Below.refl _ _).alloc (Nat.le_refl _) _
      have hz := Blk.new wr 111 #[.int .i64 (t.n : Int), .int .i64 t.o.k, .slice t.o.x.A t.o.x.l.length t.o.x.c]
      have hw2 := hb.trans (hba.mono hb.size)
      have hrow2 := hrow.below hba
      have HLN := Lib.hid hln
      have hl2 : l'.length ≤ 300 := by omega
      clear ht' hrow hl' hln
      go_upto_region 7 with (fail)
      obtain ⟨zb, hzb⟩ : ∃ zb, zb = wr.heap.size := ⟨_, rfl⟩
      rw [← hzb] at hz ⊢
      clear hzb
      generalize wr.alloc (.cells #[.int .i64 (t.n : Int), .int .i64 t.o.k, .slice t.o.x.A t.o.x.l.length t.o.x.c] 111) = w2 at *
      have z0 := hz.cell 0
      simp only [List.getElem?_toArray, List.getElem?_cons_zero] at z0
      clear c0 c1 c2 hv hba
      have HRW := Lib.hid (hrow2.below ((Below.refl _ w2).alloc (Nat.le_refl _) (.cells #[.int .i64 (t.n : Int)] 3)))
      have HRD : Hid (Rd (w2.alloc (.cells #[.int .i64 (t.n : Int)] 3)) (fun b => w2.heap.size ≤ b) 1 (some ⟨w2.heap.size, 0, none⟩) 1 [.int .i64 (t.n : Int)]) := Lib.hid (Rd.lit rfl rfl rfl)
      have hw3 := hw2.alloc hw2.size (.cells #[.int .i64 (t.n : Int)] 3)
      have hsz := hw3.size
      clear hrow2 hz
      go_wp2_with (at_builtin; refine wpList_append_row _ rfl (.tmp 26) (.tmp 29) 41 rfl w.heap.size 3 i0 _ 1 8 Tryz.underlying41 hi0 hz0 hz1 hz2 rfl (by omega) rfl HRW.out rfl HRD.out (by simp [Value.oneCell']) (by simp only [maxLen]; omega) (by omega) hsz ?_; intro A' c' w4 h1 h2 h3)
      have hb4 : Below w.heap.size w w4 := hw3.trans ((Fr.of_grown h2 (S := fun b => ablk A = some b) (fun _ _ e => e)).below hsz (fun k hk e => by have := (HRW.out.lt k e).1; omega))
      have HR4 : Hid (Row w4 w.heap.size 3 1 A' (l' ++ [t.n]).length c' ((l' ++ [t.n]).map fun (n : Nat) => Value.int .i64 (n : Int))) := Lib.hid (by
        rw [List.length_append, List.map_append]; exact h1)
      clear h1 h2 h3 HRW HRD
      go_wp2_with fail
      go_roundw
      case rel => exact ⟨i + 1, A', c', l' ++ [t.n], hlt, by go_num, by rw [List.length_append]; rfl, HN, HR4.out, hb4⟩
      case measure => simp [intOf]; omega
    · have e : i = r.l.length := by omega
      subst e
      have hlG : Hid (l' = G) := Lib.hid (by rw [hl'.out, List.take_length]; exact HG.out)
      clear hl'
      go_wp2_with fail
      go_ret
      exact ⟨⟨A, c, l', rfl, hlG, hrow⟩, hb⟩


set_option maxRecDepth 100000 in
set_option maxHeartbeats 1000000 in
theorem turns2_any (col : Nat → Nat) (gb : Nat) (H K : List (List (List UInt8 × LP))) (p : List UInt8) (w : World) (h : LogAt w col gb H K) (hp : p.length ≤ 1048576) (hH : H.length ≤ 300) :
    Calls Tryz.prog 16 #[.pointer (some ⟨gb, 0, none⟩), .int .i64 2, .string ⟨⟨p⟩⟩] w fun e w' => IntOwn w' w.heap.size e ((turnsG 0 ((0, []) : LP) (K.map fun T => at0 T p)).map (·.1)) ∧ Below w.heap.size w w' := by
  obtain ⟨v0, m0, v1, m1, L0, R0, L1, R1, h1, h2, h3, h4, h5⟩ := h.at_
  have HT := Lib.hid h3.turns
  have HR : Hid (∀ p, rowsW R1 p = turnsG 0 ((0, []) : LP) (K.map fun T => at0 T p)) := h5.rows
  obtain ⟨r, hr⟩ : ∃ r, r = rowO R1 p := ⟨_, rfl⟩
  have hrl : r.l.length ≤ 300 := by
    have := h5.rlen p
    rw [rowsW_O, ← hr, List.length_map] at this
    have := h.len
    omega
  obtain ⟨G, hG⟩ : ∃ G, G = (turnsG 0 ((0, []) : LP) (K.map fun T => at0 T p)).map (·.1) := ⟨_, rfl⟩
  rw [← hG]
  have HG : Hid (r.l.map TU.n = G) := Lib.hid (by rw [hG, ← HR.out p, rowsW_O, ← hr, List.map_map]; rfl)
  have HROW := Lib.hid (fun W (hW : Below w.heap.size w W) => (HT.out.below hW).rowO_row p)
  have HLK := Lib.hid (fun W (hW : Below w.heap.size w W) => (HT.out.below hW).look p (by simp only [maxLen]; omega))
  rw [← hr] at HROW HLK
  have q2 := h1.cell 4
  simp only [List.getElem?_toArray, List.getElem?_cons_zero, List.getElem?_cons_succ] at q2
  have hgl := h1.lt
  obtain ⟨i0, hi0, hz0, hz1, hz2⟩ := info_parts int_info
  clear h h1 h2 h3 h4 h5 hr hG HT HR
  go_enter Tryz.func16, Tryz.ntmps16
  go_wp2_with fail
  refine (side_any gb 2 w).mono ?_
  rintro e w1 ⟨rfl, hb1⟩
  rw [show sideP gb 2 = some ⟨gb, 3, none⟩ from rfl]
  have hq2 := cellAt hb1 hgl q2
  have hlook1 := HLK.out w1 hb1
  clear q2
  go_wp2_with fail
  go_loopw [6, 22] (fun ov iv wr => ∃ (i : Nat) (A : Option Addr) (c : Nat) (l' : List Nat), i ≤ r.l.length ∧ iv = .int .i64 (i : Int) ∧ ov = .slice A l'.length c ∧ Hid (l' = (r.l.take i).map TU.n) ∧ Row wr w.heap.size 3 1 A l'.length c (l'.map fun (n : Nat) => Value.int .i64 (n : Int)) ∧ Below w.heap.size w wr) (fun _ iv _ => r.l.length - (intOf iv).toNat)
  case atStart => exact ⟨0, none, 0, [], Nat.zero_le _, rfl, rfl, Lib.hid rfl, Row.none_ _ _ _ _, hb1⟩
  case round =>
    obtain ⟨i, A, c, l', hi, rfl, rfl, hl', hrow, hb⟩ := hrel
    by_cases hlt : i < r.l.length
    · obtain ⟨b, off, hA, hbb, c0, c1, c2⟩ := tu_at (HROW.out wr hb) hlt
      have hln : l'.length = i := by rw [hl'.out, List.length_map, List.length_take]; omega
      obtain ⟨t, ht'⟩ : ∃ t, t = r.l[i] := ⟨_, rfl⟩
      have HN : Hid (l' ++ [t.n] = (r.l.take (i + 1)).map TU.n) := Lib.hid (by rw [List.take_succ_eq_append_getElem hlt, List.map_append, ← hl'.out, ht']; rfl)
      rw [← ht'] at c0 c1 c2
      have hv : Value.slice r.A r.l.length r.c = .slice (some ⟨b, off, none⟩) r.l.length r.c := by rw [hA]
      have hba : Below wr.heap.size wr (wr.alloc (.cells #[.int .i64 (t.n : Int), .int .i64 t.o.k, .slice t.o.x.A t.o.x.l.length t.o.x.c] 111)) := (Below.refl _ _).alloc (Nat.le_refl _) _
      have hz := Blk.new wr 111 #[.int .i64 (t.n : Int), .int .i64 t.o.k, .slice t.o.x.A t.o.x.l.length t.o.x.c]
      have hw2 := hb.trans (hba.mono hb.size)
      have hrow2 := hrow.below hba
      have HLN := Lib.hid hln
      have hl2 : l'.length ≤ 300 := by omega
      clear ht' hrow hl' hln
      go_upto_region 7 with (fail)
      obtain ⟨zb, hzb⟩ : ∃ zb, zb = wr.heap.size := ⟨_, rfl⟩
      rw [← hzb] at hz ⊢
      clear hzb
      generalize wr.alloc (.cells #[.int .i64 (t.n : Int), .int .i64 t.o.k, .slice t.o.x.A t.o.x.l.length t.o.x.c] 111) = w2 at *
      have z0 := hz.cell 0
      simp only [List.getElem?_toArray, List.getElem?_cons_zero] at z0
      clear c0 c1 c2 hv hba
      have HRW := Lib.hid (hrow2.below ((Below.refl _ w2).alloc (Nat.le_refl _) (.cells #[.int .i64 (t.n : Int)] 3)))
      have HRD : Hid (Rd (w2.alloc (.cells #[.int .i64 (t.n : Int)] 3)) (fun b => w2.heap.size ≤ b) 1 (some ⟨w2.heap.size, 0, none⟩) 1 [.int .i64 (t.n : Int)]) := Lib.hid (Rd.lit rfl rfl rfl)
      have hw3 := hw2.alloc hw2.size (.cells #[.int .i64 (t.n : Int)] 3)
      have hsz := hw3.size
      clear hrow2 hz
      go_wp2_with (at_builtin; refine wpList_append_row _ rfl (.tmp 26) (.tmp 29) 41 rfl w.heap.size 3 i0 _ 1 8 Tryz.underlying41 hi0 hz0 hz1 hz2 rfl (by omega) rfl HRW.out rfl HRD.out (by simp [Value.oneCell']) (by simp only [maxLen]; omega) (by omega) hsz ?_; intro A' c' w4 h1 h2 h3)
      have hb4 : Below w.heap.size w w4 := hw3.trans ((Fr.of_grown h2 (S := fun b => ablk A = some b) (fun _ _ e => e)).below hsz (fun k hk e => by have := (HRW.out.lt k e).1; omega))
      have HR4 : Hid (Row w4 w.heap.size 3 1 A' (l' ++ [t.n]).length c' ((l' ++ [t.n]).map fun (n : Nat) => Value.int .i64 (n : Int))) := Lib.hid (by
        rw [List.length_append, List.map_append]; exact h1)
      clear h1 h2 h3 HRW HRD
      go_wp2_with fail
      go_roundw
      case rel => exact ⟨i + 1, A', c', l' ++ [t.n], hlt, by go_num, by rw [List.length_append]; rfl, HN, HR4.out, hb4⟩
      case measure => simp [intOf]; omega
    · have e : i = r.l.length := by omega
      subst e
      have hlG : Hid (l' = G) := Lib.hid (by rw [hl'.out, List.take_length]; exact HG.out)
      clear hl'
      go_wp2_with fail
      go_ret
      exact ⟨⟨A, c, l', rfl, hlG, hrow⟩, hb⟩


theorem turns_any (col : Nat → Nat) (gb : Nat) (H K : List (List (List UInt8 × LP))) (which : Int) (p : List UInt8) (w : World) (h : LogAt w col gb H K) (hp : p.length ≤ 1048576) (hH : H.length ≤ 300) :
    Calls Tryz.prog 16 #[.pointer (some ⟨gb, 0, none⟩), .int .i64 which, .string ⟨⟨p⟩⟩] w fun e w' => IntOwn w' w.heap.size e ((turnsG 0 ((0, []) : LP) ((sideS H K which).map fun T => at0 T p)).map (·.1)) ∧ Below w.heap.size w w' := by
  by_cases hw : which = 1 ∨ which = 2
  · rcases hw with rfl | rfl
    · exact turns1_any col gb H K p w h hp hH
    · exact turns2_any col gb H K p w h hp hH
  · rw [sideS_none hw]
    clear h
    go_enter Tryz.func16, Tryz.ntmps16
    go_wp2_with fail
    refine (side_any gb which w).mono ?_
    rintro e w1 ⟨rfl, hb1⟩
    rw [sideP_none hw]
    go_wp2_with fail
    go_ret
    exact ⟨⟨none, 0, [], rfl, Lib.hid rfl, Row.none_ _ _ _ _⟩, hb1⟩

end Go.Proofs.YtdnljmncdbcgeaaGreat

/- api.Leaf: as an argument. -/
namespace Go.Proofs.YtdnljmncdbcgeaaGreat
open Go.RowKit Go.WideShapes Go.ChangeShapes Go.ChangeAt Go.Deep Go.Joins

section
variable {H : Type} {enc : TypeId × Value → H} {w : World} {spare : Nat → Bool} {held : Bool}
/-- what is known of a leaf -/
structure LV.okAt (w : World) (Z : Nat → Prop) (o : LV) : Prop where
  x : o.x.ok w Z
  len : o.x.l.length ≤ 140737488355328
  k : -9223372036854775808 ≤ o.k ∧ o.k < 9223372036854775808
theorem list2 {α : Type} {l : List α} (h : l.length = 2) : ∃ a0 a1, l = [a0, a1] := by
  match l, h with
  | [a0, a1], _ => exact ⟨_, _, rfl⟩
set_option maxRecDepth 100000 in
theorem open_leaf {n : Nat} {cs : List Value} {x : DataW H × List MemPlace} (h : DataW.trod enc Tryz.prog w 0 spare held n 25 cs = some x) (hw : Within 25 x) :
    ∃ o : LV, cs = o.cells ∧ o.okAt w (fun b => b < w.heap.size) := by
  obtain ⟨ys, n', hcl, hyl, hf⟩ := open_st Tryz.underlying25 (by kernel_rfl) h (by kernel_rfl) hw
  obtain ⟨a0, a1, rfl⟩ := list2 hcl
  obtain ⟨y0, y1, rfl⟩ := list2 hyl
  obtain ⟨k, e, _, wk⟩ := DataW.trod_int Tryz.underlying3 (hf 0 _ _ _ rfl rfl rfl).1
  obtain rfl := List.singleton_inj.1 e
  obtain ⟨b, rfl, hb, hbl⟩ := open_bv (hf 1 _ _ _ rfl rfl rfl).1 (hf 1 _ _ _ rfl rfl rfl).2
  have bk := i64_bd wk
  exact ⟨⟨k, b⟩, rfl, hb, hbl, bk⟩
set_option maxRecDepth 100000 in
theorem open_leafv {r : Reach} {b0 : Nat} {v : Value} {d : DataW H} {p : List MemPlace} (hv : Value.okWide Tryz.prog w r b0 25 v) (h : DataW.Trod enc Tryz.prog w 0 spare held 25 v d p) (hw : Within 25 (d, p)) :
    ∃ o : LV, v = .agg #[.int .i64 o.k, .slice o.x.A o.x.l.length o.x.c] ∧ o.okAt w (fun b => b < w.heap.size) := by
  obtain ⟨cs, rfl, hsz⟩ := okWide_struct Tryz.underlying25 hv
  obtain ⟨l⟩ := cs
  obtain ⟨n, hn⟩ := h
  obtain ⟨o, e, ho⟩ := open_leaf (cs := l) hn hw
  subst e
  exact ⟨o, rfl, ho⟩
end
end Go.Proofs.YtdnljmncdbcgeaaGreat

/- api.Item in slices: as an argument. -/
namespace Go.Proofs.YtdnljmncdbcgeaaGreat
open Go.RowKit Go.WideShapes Go.ChangeShapes Go.ChangeAt Go.ChangeMaps Go.Deep Go.Joins

/-- items as they come in -/
structure ItA (w : World) (A : Option Addr) (L : List (List UInt8 × LV)) : Prop where
  rd : Rd w (fun b => b < w.heap.size) 3 A L.length (L.flatMap itemC)
  ok : ∀ x ∈ L, x.2.okAt w (fun b => b < w.heap.size) ∧ x.1.length ≤ 140737488355328
  len : L.length ≤ 140737488355328
section
variable {H : Type} {enc : TypeId × Value → H} {w : World} {spare : Nat → Bool} {held : Bool}
/-- a struct of fields of any number of cells -/
theorem open_sti {t : TypeId} {fs : Array Field} {N : Nat} (hs : Tryz.prog.underlying t = some (.struct fs)) {n : Nat} {cs : List Value} {x : DataW H × List MemPlace} (h : DataW.trod enc Tryz.prog w 0 spare held n t cs = some x) (hC : Tryz.prog.cellsOf t = N) (hw : Within t x) :
    ∃ (ys : List (DataW H × List MemPlace)) (n' : Nat), cs.length = N ∧ ys.length = fs.size ∧
      ∀ (j : Nat) (f : Field) (y : DataW H × List MemPlace), fs[j]? = some f → ys[j]? = some y → DataW.trod enc Tryz.prog w 0 spare held n' f.type ((cs.drop f.offset).take (Tryz.prog.cellsOf f.type)) = some y ∧ Within f.type y := by
  obtain ⟨xs, n', _, hx, hl, hlen, hg⟩ := DataW.trod_struct hs h
  rw [hC] at hl
  refine ⟨xs, n', hl, hlen, fun j f y hj hy => ⟨by rw [hg j f hj, hy], fun k hk => hw k ?_⟩⟩
  rw [hx]
  simp only [DataW.weights, hs]
  refine DataW.weights_mem_each (j := j) (t := f.type) (d := y.1) ?_ ?_ k hk
  · rw [List.getElem?_map]
    have : fs.toList[j]? = some f := by simpa using hj
    rw [this]; rfl
  · rw [List.getElem?_map, hy]; rfl
theorem list3i {α : Type} {l : List α} (h : l.length = 3) : ∃ a0 a1 a2, l = [a0, a1, a2] := by
  match l, h with
  | [a0, a1, a2], _ => exact ⟨_, _, _, rfl⟩
theorem str_withini {b : List UInt8} {p : List MemPlace} (hw : Within 9 ((DataW.lit (Lit.string b) : DataW H), p)) : b.length ≤ 140737488355328 := by
  have h1 := hw b.length (by simp [DataW.weights])
  have h2 := reachBytes_lt
  omega
set_option maxRecDepth 100000 in
theorem open_item {n : Nat} {cs : List Value} {x : DataW H × List MemPlace} (h : DataW.trod enc Tryz.prog w 0 spare held n 76 cs = some x) (hw : Within 76 x) :
    ∃ o : List UInt8 × LV, cs = itemC o ∧ o.2.okAt w (fun b => b < w.heap.size) ∧ o.1.length ≤ 140737488355328 := by
  obtain ⟨ys, n', hcl, hyl, hf⟩ := open_sti (N := 3) Tryz.underlying76 h (by kernel_rfl) hw
  obtain ⟨a0, a1, a2, rfl⟩ := list3i hcl
  obtain ⟨y0, y1, rfl⟩ := list2 hyl
  obtain ⟨f0, w0⟩ := hf 0 _ _ rfl rfl
  obtain ⟨f1, w1⟩ := hf 1 _ _ rfl rfl
  have c0 : Tryz.prog.cellsOf 9 = 1 := by kernel_rfl
  have c1 : Tryz.prog.cellsOf 25 = 2 := by kernel_rfl
  replace f0 : DataW.trod enc Tryz.prog w 0 spare held n' 9 (([a0, a1, a2].drop 0).take (Tryz.prog.cellsOf 9)) = some y0 := f0
  replace f1 : DataW.trod enc Tryz.prog w 0 spare held n' 25 (([a0, a1, a2].drop 1).take (Tryz.prog.cellsOf 25)) = some y1 := f1
  rw [c0] at f0
  rw [c1] at f1
  obtain ⟨p, e, hx0, _⟩ := DataW.trod_string Tryz.underlying9 f0
  obtain ⟨o, e2, ho⟩ := open_leaf f1 w1
  obtain rfl : a0 = .string p := by simpa using e
  obtain ⟨k, xx⟩ := o
  obtain ⟨rfl, rfl⟩ : a1 = .int .i64 k ∧ a2 = .slice xx.A xx.l.length xx.c := by simpa [LV.cells] using e2
  rw [hx0] at w0
  exact ⟨(p.data.toList, ⟨k, xx⟩), rfl, ho, str_withini w0⟩
set_option maxRecDepth 100000 in
theorem open_items {n : Nat} {v : Value} {x : DataW H × List MemPlace} (h : DataW.trod enc Tryz.prog w 0 spare held n 74 [v] = some x) (hw : Within 74 x) :
    ∃ (A : Option Addr) (c : Nat) (l : List (List UInt8 × LV)), v = .slice A l.length c ∧ ItA w A l := by
  obtain ⟨A, c, l, rfl, _, _, h3, h4, h5⟩ := open_sl (w := w) (enc := enc) (spare := spare) (held := held) itemC (fun o => o.2.okAt w (fun b => b < w.heap.size) ∧ o.1.length ≤ 140737488355328) 3 48 (t := 74) (e := 76) Tryz.underlying74 (by kernel_rfl) (by kernel_rfl) (by omega) (fun n cs x hx hx2 => open_item hx hx2) h hw
  refine ⟨A, c, l, rfl, h3, h4, ?_⟩
  have := reachBytes_lt
  omega
end
end Go.Proofs.YtdnljmncdbcgeaaGreat

/- What trees keep while items are set, plainly; what a tree's writes leave. -/
namespace Go.Proofs.YtdnljmncdbcgeaaGreat
open Go.RowKit Go.Maps

theorem par_under {q : List UInt8} (h : (parT q).2 = true) : underB q (parT q).1 = true := by
  unfold parT at h ⊢
  split at h
  · rename_i hc
    rw [if_pos hc]
    simp only [Bool.and_eq_true, decide_eq_true_eq] at hc
    obtain ⟨hg, hl⟩ := hc
    have h1 : (cutL q).dropLast ≠ [] := by intro e; have := congrArg List.length e; rw [List.length_dropLast] at this; simp at this; omega
    have h2 := cut_paste (cutL q).dropLast h1 (fun y hy => cut_no q y ((List.dropLast_sublist _).subset hy))
    have hne : cutL q ≠ [] := fun e => by rw [e] at hl; simp at hl
    have h3 : preB q (pasteL (cutL q).dropLast) = true := (preB_iff _ _).2 ⟨[(cutL q).getLast hne], by simp, by rw [h2, List.dropLast_concat_getLast hne]⟩
    show underB q (pasteL (cutL q).dropLast) = true
    unfold underB
    rw [hg, good_pre hg h3, h3]; rfl
  · simp at h
theorem under_irr (p : List UInt8) : underB p p = false := by
  rcases h : underB p p with _ | _
  · rfl
  · have := (under_order (b := p) h).1
    rw [cmpT_self] at this
    omega
/-- above each path that has a leaf stands a Dir -/
def DirsOk (T : List (List UInt8 × LP)) : Prop := ∀ x ∈ T, (parT x.1).2 = true → kindL (getR T (parT x.1).1) = 2
theorem DirsOk.nil : DirsOk [] := by simp [DirsOk]
theorem DirsOk.set {T : List (List UInt8 × LP)} (h : DirsOk T) (p : List UInt8) (l : LP) : DirsOk (setS T p l) := by
  unfold setS
  split
  · rename_i hm
    unfold mayS at hm
    split at hm
    · simp at hm
    · split at hm
      · rename_i hc; exact absurd hm hc
      · split at hm
        · simp at hm
        · rename_i hb
          have hbe : l.1 ≠ 2 → ∀ x ∈ T, underB x.1 p = false := fun h2 x hx => by
            rcases hu : underB x.1 p with _ | _
            · rfl
            · refine absurd ⟨h2, ?_⟩ hb
              intro e
              have : x.1 ∈ (keysR T).filter fun q => underB q p := List.mem_filter.2 ⟨List.mem_map.2 ⟨x, hx, rfl⟩, hu⟩
              rw [e] at this
              cases this
          unfold doS
          split
          · rename_i h0
            intro x hx hp
            have hxT := (List.mem_filter.1 hx).1
            have h1 := h x hxT hp
            rw [getR_without, if_neg]
            · exact h1
            · intro e
              have h2 := par_under hp
              rw [e, hbe (by omega) x hxT] at h2
              cases h2
          · rename_i h0
            rw [if_neg h0] at hm
            split at hm
            · simp at hm
            · rename_i hk
              intro x hx hp
              unfold putR at hx
              rcases mem_ins.1 hx with rfl | hx
              · dsimp only at hp ⊢
                have h1 : kindL (getR T (parT p).1) = 2 := by
                  by_cases e : kindL (getR T (parT p).1) = 2
                  · exact e
                  · exact absurd ⟨hp, e⟩ hk
                rw [getR_put, if_neg]
                · exact h1
                · intro e
                  have h2 := par_under hp
                  rw [e, under_irr] at h2
                  cases h2
              · have hxT := (List.mem_filter.1 hx).1
                have h1 := h x hxT hp
                rw [getR_put]
                split
                · rename_i e
                  by_cases h2 : l.1 = 2
                  · show l.1 = 2
                    exact h2
                  · have h3 := par_under hp
                    rw [e, hbe h2 x hxT] at h3
                    cases h3
                · exact h1
  · exact h
/-- one item behind the other set -/
def playS (T : List (List UInt8 × LP)) (l : List (List UInt8 × LP)) : List (List UInt8 × LP) := l.foldl (fun T x => setS T x.1 x.2) T
theorem play_snoc (T l : List (List UInt8 × LP)) (x : List UInt8 × LP) : playS T (l ++ [x]) = setS (playS T l) x.1 x.2 := by simp [playS]
theorem play_ok (T l : List (List UInt8 × LP)) (h : TreeOk T) : TreeOk (playS T l) := by
  induction l generalizing T with
  | nil => exact h
  | cons x l ih => exact ih _ (h.set x.1 x.2)
theorem play_dirs (T l : List (List UInt8 × LP)) (h : DirsOk T) : DirsOk (playS T l) := by
  induction l generalizing T with
  | nil => exact h
  | cons x l ih => exact ih _ (h.set x.1 x.2)
/-- the reference's step, plainly -/
theorem plain_step (L : List (List UInt8 × LV)) (p : List UInt8) (v : LV) : plainL (if mayS (plainL L) p v.p = 0 then putI L p v else L) = setS (plainL L) p v.p := by
  unfold setS
  split
  · unfold putI doS
    show plainL (if v.k = 0 then _ else _) = if v.k = 0 then _ else _
    split
    · exact plain_without L p
    · exact plain_put L p v
  · rfl

/-- what is read at cells that are no maps does not lie in the tree's own blocks -/
theorem TreeAt.apart {w : World} {tb : Nat} {mo : Option Nat} {K : List (List UInt8 × LV)} (t : TreeAt w tb mo K) {Z : Nat → Prop} {size n : Nat} {A : Option Addr} {xs : List Value} (h : Rd w Z size A n xs) (hx : ∀ u ∈ xs, ∀ m, u ≠ .map m) : Rd w (fun b => Z b ∧ b ≠ tb ∧ mo ≠ some b) size A n xs := by
  refine ⟨h.1, fun hn => ?_⟩
  obtain ⟨b, off, e, hz, hlt, hc⟩ := h.2 hn
  refine ⟨b, off, e, ?_, hlt, hc⟩
  have h0 : 0 < xs.length := by rw [h.1]; exact hn
  have hc0 := hc 0 _ (List.getElem?_eq_getElem h0)
  have hne := hx _ (List.getElem_mem h0)
  refine ⟨hz, fun eb => ?_, fun em => ?_⟩
  · subst eb
    rw [t.blk.cell] at hc0
    rcases Nat.eq_zero_or_pos (off + 0) with h1 | h1
    · rw [h1] at hc0
      simp at hc0
      exact hne _ hc0.symm
    · rw [Array.getElem?_eq_none (by simp; omega)] at hc0; cases hc0
  · rcases t.map with ⟨e0, _⟩ | ⟨mb, e0, hm⟩
    · rw [e0] at em; cases em
    · rw [e0] at em
      injection em with em
      subst em
      obtain ⟨D, ⟨es, clock, h1, _⟩, _⟩ := hm.own
      simp [World.cell?, h1] at hc0
theorem bv_no_map (l : List UInt8) : ∀ u ∈ l.map bv, ∀ m, u ≠ .map m := by
  intro u hu m e
  obtain ⟨x, _, rfl⟩ := List.mem_map.1 hu
  simp [bv] at e
theorem item_no_map (L : List (List UInt8 × LV)) : ∀ u ∈ L.flatMap itemC, ∀ m, u ≠ .map m := by
  intro u hu m e
  obtain ⟨x, _, hx⟩ := List.mem_flatMap.1 hu
  subst e
  simp [itemC, stv] at hx
/-- rows of items stay, whatever is set on a tree -/
theorem Its.set {w w' : World} {A : Option Addr} {L K : List (List UInt8 × LV)} {tb : Nat} {mo : Option Nat} (h : Its w A L) (t : TreeAt w tb mo K) (k : Fr (fun g => g = tb ∨ mo = some g) w w') : Its w' A L := by
  refine ⟨((t.apart h.rd (item_no_map L)).fr k fun b _ hz e => ?_).mono (fun _ _ _ => trivial), fun x hx => ?_, h.len, h.txt⟩
  · exact e.elim hz.2.1 hz.2.2
  · have h1 := h.ok x hx
    exact ⟨((t.apart h1.1 (bv_no_map _)).fr k fun b _ hz e => e.elim hz.2.1 hz.2.2).mono (fun _ _ _ => trivial), h1.2⟩
theorem ItA.fr {w w' : World} {A : Option Addr} {L : List (List UInt8 × LV)} {S : Nat → Prop} (h : ItA w A L) (k : Fr S w w') (hS : ∀ b, b < w.heap.size → ¬ S b) : ItA w' A L := by
  refine ⟨(h.rd.fr k fun b hb _ => hS b hb).mono (fun b hb _ => hb), fun x hx => ?_, h.len⟩
  have h1 := h.ok x hx
  exact ⟨⟨(h1.1.x.fr k fun b hb _ => hS b hb).mono (fun b hb _ => hb), h1.1.len, h1.1.k⟩, h1.2⟩
theorem ItA.below {w w' : World} {A : Option Addr} {L : List (List UInt8 × LV)} (h : ItA w A L) (k : Below w.heap.size w w') : ItA w' A L := h.fr (Fr.of_below k (fun _ => False)) (fun _ _ h => h)
theorem ItA.at_ {w : World} {A : Option Addr} {L : List (List UInt8 × LV)} {i : Nat} (h : ItA w A L) (hi : i < L.length) :
    ∃ b off, A = some ⟨b, off, none⟩ ∧ b < w.heap.size ∧ w.cell? ⟨b, off + i * 3, none⟩ = some (stv L[i].1) ∧ w.cell? ⟨b, off + i * 3 + 1, none⟩ = some (.int .i64 L[i].2.k) ∧ w.cell? ⟨b, off + i * 3 + 2, none⟩ = some (.slice L[i].2.x.A L[i].2.x.l.length L[i].2.x.c) := by
  obtain ⟨b, off, hA, _, hb, hc⟩ := h.rd.2 (by omega)
  have hg : ∀ j, j < 3 → (L.flatMap itemC)[i * 3 + j]? = (itemC L[i])[j]? := fun j hj => flat_get (k := 3) item_len L i j hi hj
  refine ⟨b, off, hA, hb, hc _ _ (hg 0 (by omega)), ?_, ?_⟩
  · rw [Nat.add_assoc]; exact hc _ _ (hg 1 (by omega))
  · rw [Nat.add_assoc]; exact hc _ _ (hg 2 (by omega))
theorem item_at {w : World} {Z : Nat → Prop} {A : Option Addr} {L : List (List UInt8 × LV)} {i : Nat} (h : Rd w Z 3 A L.length (L.flatMap itemC)) (hi : i < L.length) :
    ∃ b off, A = some ⟨b, off, none⟩ ∧ b < w.heap.size ∧ w.cell? ⟨b, off + i * 3, none⟩ = some (stv L[i].1) ∧ w.cell? ⟨b, off + i * 3 + 1, none⟩ = some (.int .i64 L[i].2.k) ∧ w.cell? ⟨b, off + i * 3 + 2, none⟩ = some (.slice L[i].2.x.A L[i].2.x.l.length L[i].2.x.c) := by
  obtain ⟨b, off, hA, _, hb, hc⟩ := h.2 (by omega)
  have hg : ∀ j, j < 3 → (L.flatMap itemC)[i * 3 + j]? = (itemC L[i])[j]? := fun j hj => flat_get (k := 3) item_len L i j hi hj
  refine ⟨b, off, hA, hb, hc _ _ (hg 0 (by omega)), ?_, ?_⟩
  · rw [Nat.add_assoc]; exact hc _ _ (hg 1 (by omega))
  · rw [Nat.add_assoc]; exact hc _ _ (hg 2 (by omega))
end Go.Proofs.YtdnljmncdbcgeaaGreat

/- tree.New. -/
namespace Go.Proofs.YtdnljmncdbcgeaaGreat
open Go.RowKit Go.Maps

theorem treeNew_nil (w : World) :
    Calls Tryz.prog 36 #[.slice none 0 0] w fun e w' => e = .returned (.tuple #[.pointer (some ⟨w.heap.size, 0, none⟩), .int .i64 0]) ∧ TreeAt w' w.heap.size none [] ∧ Below w.heap.size w w' := by
  go_enter Tryz.func36, Tryz.ntmps36
  go_wp2_with fail
  go_loopw [12] (fun iv wr => iv = .int .i64 0 ∧ wr = w.alloc (.cells #[.map none] 88)) (fun _ _ => 0)
  case atStart => exact ⟨rfl, rfl⟩
  case round =>
    obtain ⟨rfl, rfl⟩ := hrel
    go_wp2_with fail
    go_ret2
    exact ⟨rfl, TreeAt.new _, (by repeat (first | exact Below.refl _ _ | refine Below.alloc ?_ (by simp) _ | refine Below.setCell ?_ (by simp) _ | refine Below.drew ?_))⟩
end Go.Proofs.YtdnljmncdbcgeaaGreat

/- tenderlaw08: lives, Light. -/
namespace Go.Proofs.YtdnljmncdbcgeaaGreat
open Go.RowKit Go.Maps

/-- are there few items, and small ones? -/
def bytesI (L : List (List UInt8 × LV)) : Nat := (L.map fun x => x.2.x.l.length).sum
def lightI (L : List (List UInt8 × LV)) : Bool := L.all (fun x => decide (x.1.length ≤ 200)) && (decide (L.length ≤ 200) && decide (bytesI L ≤ 20000))
theorem bytesI_take (L : List (List UInt8 × LV)) (i : Nat) (hi : i < L.length) : bytesI (L.take (i + 1)) = bytesI (L.take i) + L[i].2.x.l.length := by
  unfold bytesI
  rw [List.take_succ_eq_append_getElem hi, List.map_append, List.sum_append]
  simp
theorem bytesI_le (K : Nat) : ∀ (L : List (List UInt8 × LV)), (∀ o ∈ L, o.2.x.l.length ≤ K) → bytesI L ≤ L.length * K
  | [], _ => by simp [bytesI]
  | o :: l, h => by
    have h1 := h o (by simp)
    have h2 := bytesI_le K l (fun o ho => h o (by simp [ho]))
    simp only [bytesI, List.map_cons, List.sum_cons, List.length_cons, Nat.add_mul] at h2 ⊢
    omega
theorem bytesI_take_le (K : Nat) (l : List (List UInt8 × LV)) (i : Nat) (h : ∀ o ∈ l, o.2.x.l.length ≤ K) : bytesI (l.take i) ≤ i * K := by
  have h1 := bytesI_le K (l.take i) (fun o ho => h o (List.mem_of_mem_take ho))
  have h2 : (l.take i).length ≤ i := List.length_take_le _ _
  have h3 : (l.take i).length * K ≤ i * K := Nat.mul_le_mul_right _ h2
  omega
/-- the sum that Light has made: right while few have been seen -/
def SeenI (l : List (List UInt8 × LV)) (i : Nat) (s : Int) : Prop := i ≤ 400 → s = (bytesI (l.take i) : Int)
theorem seenI_step {l : List (List UInt8 × LV)} {i : Nat} {s : Int} (hs : SeenI l i s) (hi : i < l.length) (h : ∀ o ∈ l, o.2.x.l.length ≤ 140737488355328) : SeenI l (i + 1) (wrap64 (s + (l[i].2.x.l.length : Int))) := by
  intro hi2
  have e := hs (by omega)
  have h1 := bytesI_take_le 140737488355328 l (i + 1) h
  have h2 := bytesI_take l i hi
  have h3 : (i + 1) * 140737488355328 ≤ 401 * 140737488355328 := Nat.mul_le_mul_right _ (by omega)
  rw [h2] at h1 ⊢
  rw [e, IntWalk.wrap64_in _ ⟨by omega, by omega⟩]
  omega
theorem le_sum : ∀ (l : List Nat) (n : Nat), n ∈ l → n ≤ l.sum
  | [], _, h => by cases h
  | m :: l, n, h => by
    rw [List.sum_cons]
    rcases List.mem_cons.1 h with rfl | h
    · omega
    · have := le_sum l n h
      omega
theorem lightI_len {L : List (List UInt8 × LV)} (h : lightI L = true) : L.length ≤ 200 ∧ ∀ x ∈ L, x.1.length ≤ 200 ∧ x.2.x.l.length ≤ 20000 := by
  unfold lightI at h
  simp only [Bool.and_eq_true, decide_eq_true_eq, List.all_eq_true] at h
  refine ⟨h.2.1, fun x hx => ⟨h.1 x hx, ?_⟩⟩
  have h1 : x.2.x.l.length ≤ bytesI L := by
    unfold bytesI
    exact le_sum _ _ (List.mem_map.2 ⟨x, hx, rfl⟩)
  omega
set_option maxRecDepth 100000 in
set_option maxHeartbeats 400000 in
theorem lightI_any (A : Option Addr) (c : Nat) (l : List (List UInt8 × LV)) (w : World) (h : ItA w A l) :
    Calls Tryz.prog 35 #[.slice A l.length c] w fun e w' => e = .returned (.bool (lightI l)) ∧ Below w.heap.size w w' := by
  have hlen := h.len
  go_enter Tryz.func35, Tryz.ntmps35
  go_wp2_with fail
  go_loopw [3, 8] (fun sv iv wr => ∃ (i : Nat) (s : Int), i ≤ l.length ∧ iv = .int .i64 (i : Int) ∧ sv = .int .i64 s ∧ SeenI l i s ∧ (∀ x ∈ l.take i, x.1.length ≤ 200) ∧ Below w.heap.size w wr) (fun _ iv _ => l.length - (intOf iv).toNat)
  case atStart => exact ⟨0, 0, Nat.zero_le _, rfl, rfl, by intro _; simp [bytesI], by simp, Below.refl _ _⟩
  case round =>
    obtain ⟨i, s, hi, rfl, rfl, hs, hp, hb⟩ := hrel
    by_cases hlt : i < l.length
    · obtain ⟨b, off, rfl, hbb, hc0, hc1, hc2⟩ := (h.below hb).at_ hlt
      have hsz := hb.size
      have hok := h.ok _ (List.getElem_mem hlt)
      have hxl := hok.1.len
      have hpl := hok.2
      have hst := Lib.hid (seenI_step hs hlt (fun o ho => (h.ok o ho).1.len))
      have hmem := List.getElem_mem hlt
      have hp2 : l[i].1.length ≤ 200 → Hid (∀ x ∈ l.take (i + 1), x.1.length ≤ 200) := fun h2 => Lib.hid (by
        rw [List.take_succ_eq_append_getElem hlt]
        intro x hx
        rcases List.mem_append.1 hx with hx | hx
        · exact hp x hx
        · rw [List.mem_singleton.1 hx]; exact h2)
      have hno : ¬ l[i].1.length ≤ 200 → Hid (lightI l = false) := fun h2 => Lib.hid (by
        unfold lightI
        rw [Bool.and_eq_false_iff]
        refine .inl ?_
        rw [List.all_eq_false]
        exact ⟨_, hmem, by simpa using h2⟩)
      clear hok hmem hp
      generalize l[i] = o at *
      obtain ⟨p, k, xA, xc, xl⟩ := o
      simp only [stv] at *
      by_cases h2 : p.length ≤ 200
      · have hp3 := hp2 h2
        clear hp2 hno
        go_wp2_with fail
        go_roundw
        case rel => exact ⟨i + 1, _, hlt, by go_num, rfl, by have := hst.out; push_cast at this; exact this, hp3.out, (hb.alloc hsz _)⟩
        case measure => simp [intOf]; omega
      · have hn := hno h2
        clear hp2 hno
        go_wp2_with fail
        go_ret
        exact ⟨ret_b hn.out.symm, hb.alloc hsz _⟩
    · have e : i = l.length := by omega
      subst e
      rw [List.take_length] at hp
      have hall : l.all (fun x => decide (x.1.length ≤ 200)) = true := by simpa using hp
      have hli : Hid (lightI l = (decide (l.length ≤ 200) && decide (bytesI l ≤ 20000))) := Lib.hid (by unfold lightI; rw [hall]; simp)
      by_cases h2 : l.length ≤ 200
      · have hss := hs (by omega)
        rw [List.take_length] at hss
        subst hss
        clear hp hall
        go_wp2
        all_goals
          go_ret
          exact ⟨ret_b (by rw [hli.out, Bool.eq_iff_iff]; simp; omega), hb⟩
      · clear hp hall
        go_wp2
        all_goals
          go_ret
          exact ⟨ret_b (by rw [hli.out, Bool.eq_iff_iff]; simp; omega), hb⟩
end Go.Proofs.YtdnljmncdbcgeaaGreat

/- tenderlaw08: Plays. -/
namespace Go.Proofs.YtdnljmncdbcgeaaGreat
open Go.RowKit Go.Maps

/-- a tree on which items were set, and the document's -/
structure Played (w : World) (T : List (List UInt8 × LP)) (tb : Nat) (mo : Option Nat) (L : List (List UInt8 × LV)) (B : Option Addr) (M : List (List UInt8 × LV)) : Prop where
  tree : TreeAt w tb mo L
  plain : Hid (plainL L = T)
  its : Its w B M
  same : Hid (plainL M = T)
theorem Played.below {w w' : World} {T : List (List UInt8 × LP)} {tb : Nat} {mo : Option Nat} {L M : List (List UInt8 × LV)} {B : Option Addr} (h : Played w T tb mo L B M) (k : Below w.heap.size w w') : Played w' T tb mo L B M := ⟨h.tree.below k, h.plain, h.its.below k, h.same⟩


end Go.Proofs.YtdnljmncdbcgeaaGreat

/- tenderlaw08: lives. -/
namespace Go.Proofs.YtdnljmncdbcgeaaGreat
open Go.RowKit Go.Maps

def exA : List (List UInt8 × LP) := [([97], (2, []))]
def exB : List (List UInt8 × LP) := [([97], (2, [])), ([97, 47, 98], (1, [120]))]
theorem ex1 : mayS [] [97, 47, 98] (1, [120]) = 22 := by decide
theorem ex1s : setS [] [97, 47, 98] (1, [120]) = [] := by decide
theorem ex2 : mayS [] [97] (2, []) = 0 := by decide
theorem ex2s : setS [] [97] (2, []) = exA := by decide
theorem ex3 : mayS exA [97, 47, 98] (1, [120]) = 0 := by decide
theorem ex3s : setS exA [97, 47, 98] (1, [120]) = exB := by decide
theorem ex4 : mayS exB [97] (0, []) = 22 := by decide
theorem ex4s : setS exB [97] (0, []) = exB := by decide

/-- a row of bytes that is marked -/
def BlkM (w : World) (g : Nat) (cs : Array Value) (f : Nat × Nat) : Prop := w.heap[g]? = some (.cells cs 5 f)
theorem BlkM.lt {w : World} {g : Nat} {cs : Array Value} {f : Nat × Nat} (h : BlkM w g cs f) : g < w.heap.size := (Array.getElem?_eq_some_iff.1 h).1
theorem BlkM.fr {w w' : World} {g : Nat} {cs : Array Value} {f : Nat × Nat} {S : Nat → Prop} (h : BlkM w g cs f) (k : Fr S w w') (hs : ¬ S g) : BlkM w' g cs f := (k.block g h.lt hs).trans h
/-- one call of Set of bytes that lie in the world -/
theorem set_step {w : World} {tb : Nat} {mo : Option Nat} {L : List (List UInt8 × LV)} {T T' : List (List UInt8 × LP)} {m : Int} (p : List UInt8) (k : Int) (A : Option Addr) (c : Nat) (l : List UInt8) (h : TreeAt w tb mo L) (hT : Hid (plainL L = T)) (hm : mayS T p (k, l) = m) (hs : setS T p (k, l) = T') (hy : By w (fun _ => True) A l) (hp : p.length ≤ 1048576) (hn : l.length ≤ 140737488355328) :
    Calls Tryz.prog 40 #[.pointer (some ⟨tb, 0, none⟩), .string ⟨⟨p⟩⟩, .agg #[.int .i64 k, .slice A l.length c]] w fun e w' => e = .returned (.int .i64 m) ∧ ∃ mo' L', TreeAt w' tb mo' L' ∧ Hid (plainL L' = T') ∧ (∀ m, mo' = some m → mo = some m ∨ w.heap.size ≤ m) ∧ Fr (fun g => g = tb ∨ mo = some g) w w' := by
  have hm' : mayS (plainL L) p (k, l) = m := by rw [hT.out]; exact hm
  have hs' : setS (plainL L) p (k, l) = T' := by rw [hT.out]; exact hs
  refine (treeSet_any sortsT tb mo L p k A c l _ w h hy hp hn).mono ?_
  rintro e w' ⟨rfl, hto⟩
  rw [hm']
  rw [hs'] at hto
  obtain ⟨mo', L', h1, h2, h3⟩ := hto.at_
  exact ⟨rfl, mo', L', h1, h2, h3, hto.fr⟩
end Go.Proofs.YtdnljmncdbcgeaaGreat

/- What a tree on which items were set tells, in terms of the plain rows. -/
namespace Go.Proofs.YtdnljmncdbcgeaaGreat
open Go.RowKit Go.Maps

def dataL (o : Option LP) : List UInt8 := (o.map (·.2)).getD []
theorem kind_plain (L : List (List UInt8 × LV)) (p : List UInt8) : ((getR L p).map LV.k).getD 0 = kindL (getR (plainL L) p) := by
  rw [get_plain]
  cases getR L p <;> rfl
theorem data_plain (L : List (List UInt8 × LV)) (p : List UInt8) : ((getR L p).map fun x => x.x.l).getD [] = dataL (getR (plainL L) p) := by
  rw [get_plain]
  cases getR L p <;> rfl
/-- the document's leaf, to be read -/
theorem refGetP {w : World} {B : Option Addr} {M : List (List UInt8 × LV)} {T : List (List UInt8 × LP)} (d : Nat) (h : Its w B M) (hT : Hid (plainL M = T)) (p : List UInt8) (hp : p.length ≤ 1048576) :
    Calls Tryz.prog 45 #[.slice B M.length d, .string ⟨⟨p⟩⟩] w fun e w' => (∃ (A : Option Addr) (c : Nat) (l : List UInt8), e = .returned (.agg #[.int .i64 (kindL (getR T p)), .slice A l.length c]) ∧ Hid (l = dataL (getR T p)) ∧ By w' (fun _ => True) A l) ∧ Below w.heap.size w w' := by
  refine (refGet08_any B d M p w h (by omega)).mono ?_
  rintro e w' ⟨rfl, hb⟩
  refine ⟨?_, hb⟩
  rw [← hT.out, get_plain]
  rcases hg : getR M p with _ | o
  · exact ⟨none, 0, [], rfl, rfl, Rd.nil⟩
  · exact ⟨o.x.A, o.x.c, o.x.l, rfl, rfl, ((h.ok _ (getR_mem hg)).below hb).1⟩
/-- the tree's, to be read -/
theorem treeGetP {w : World} {tb : Nat} {mo : Option Nat} {L : List (List UInt8 × LV)} {T : List (List UInt8 × LP)} (h : TreeAt w tb mo L) (hT : Hid (plainL L = T)) (p : List UInt8) (hp : p.length ≤ 1048576) :
    Calls Tryz.prog 112 #[.pointer (some ⟨tb, 0, none⟩), .string ⟨⟨p⟩⟩] w fun e w' => (∃ (A : Option Addr) (c : Nat) (l : List UInt8), e = .returned (.agg #[.int .i64 (kindL (getR T p)), .slice A l.length c]) ∧ Hid (l = dataL (getR T p)) ∧ OwB w' w.heap.size (.slice A l.length c) l) ∧ Below w.heap.size w w' := by
  refine (treeGet_any tb mo L p w h (by omega)).mono ?_
  rintro e w' ⟨⟨A, c, l, he, hl, ho⟩, hb⟩
  rw [kind_plain, hT.out] at he
  rw [data_plain, hT.out] at hl
  exact ⟨⟨A, c, l, he, hl, ho⟩, hb⟩
theorem own_txt {w : World} {base : Nat} {A : Option Addr} {c : Nat} {l : List (List UInt8)} (h : w.ownsRow base 9 1 (.slice A l.length c) l.length (l.map stv)) : Rd w (fun _ => True) 1 A l.length (l.map stv) := Rd.of_own h (fun _ _ _ => trivial)
theorem Played.lens {w : World} {T : List (List UInt8 × LP)} {tb : Nat} {mo : Option Nat} {L M : List (List UInt8 × LV)} {B : Option Addr} (h : Played w T tb mo L B M) : L.length = T.length ∧ M.length = T.length ∧ T.length ≤ 128 := by
  have h1 := h.tree.plain.len
  have h2 := plain_len L
  have h3 := plain_len M
  rw [h.plain.out] at h1 h2
  rw [h.same.out] at h3
  omega
/-- items that a tree has told, as a row -/
theorem ItsOwn.itsT {w : World} {base : Nat} {A : Option Addr} {c : Nat} {M : List (List UInt8 × LV)} {T : List (List UInt8 × LP)} (h : ItsOwn w base A c M) (hM : Hid (plainL M = T)) (hok : TreeOk T) : Its w A M := by
  refine h.its ?_ ?_
  · have := hok.len
    rw [← hM.out, plain_len] at this
    omega
  · intro x hx
    have hm : (x.1, x.2.p) ∈ T := by rw [← hM.out]; exact List.mem_map.2 ⟨x, hx, rfl⟩
    obtain ⟨g1, g2, g3⟩ := hok.good _ hm
    have h1 := goodB_len g1
    have h2 : x.2.x.l.length ≤ 4096 := by
      unfold checkN LV.p at g3
      dsimp only at g3
      by_cases h1 : x.2.k = 1
      · rw [if_pos h1] at g3
        by_cases h2 : x.2.x.l.length ≤ 4096
        · exact h2
        · rw [if_neg h2] at g3; simp at g3
      · rw [if_neg h1] at g3
        by_cases h3 : x.2.k = 0 ∨ x.2.k = 2
        · rw [if_pos h3] at g3
          by_cases h4 : x.2.x.l.length = 0
          · omega
          · rw [if_neg h4] at g3; simp at g3
        · rw [if_neg h3] at g3; simp at g3
    dsimp only at h1
    omega
end Go.Proofs.YtdnljmncdbcgeaaGreat

/- tree.New of any items. -/
namespace Go.Proofs.YtdnljmncdbcgeaaGreat
open Go.RowKit Go.Maps

/-- set, while there is no error -/
def stepS (R : List (List UInt8 × LP) × Int) (x : List UInt8 × LP) : List (List UInt8 × LP) × Int := if R.2 = 0 then (setS R.1 x.1 x.2, mayS R.1 x.1 x.2) else R
def newS (l : List (List UInt8 × LP)) : List (List UInt8 × LP) × Int := l.foldl stepS ([], 0)
theorem new_snoc (l : List (List UInt8 × LP)) (x : List UInt8 × LP) : newS (l ++ [x]) = stepS (newS l) x := by simp [newS]
theorem step_stop (R : List (List UInt8 × LP) × Int) (h : R.2 ≠ 0) : ∀ (l : List (List UInt8 × LP)), l.foldl stepS R = R
  | [] => rfl
  | x :: l => by
    rw [List.foldl_cons, show stepS R x = R by unfold stepS; rw [if_neg h]]
    exact step_stop R h l
theorem new_stop (l : List (List UInt8 × LP)) (i : Nat) (h : (newS (l.take i)).2 ≠ 0) : newS l = newS (l.take i) := by
  conv => lhs; rw [← List.take_append_drop i l]
  unfold newS at h ⊢
  rw [List.foldl_append]
  exact step_stop _ h _
theorem new_ok (l : List (List UInt8 × LP)) : TreeOk (newS l).1 := by
  unfold newS
  have : ∀ (l : List (List UInt8 × LP)) R, TreeOk R.1 → TreeOk (l.foldl stepS R).1 := by
    intro l
    induction l with
    | nil => exact fun R h => h
    | cons x l ih =>
      intro R h
      refine ih _ ?_
      unfold stepS
      split
      · exact h.set x.1 x.2
      · exact h
  exact this l _ TreeOk.nil
/-- what New tells -/
def NewTo (w w' : World) (e : Ending) (R : List (List UInt8 × LP) × Int) : Prop :=
  (Hid (R.2 ≠ 0) ∧ e = .returned (.tuple #[.pointer none, .int .i64 R.2]) ∧ Below w.heap.size w w') ∨
  (Hid (R.2 = 0) ∧ ∃ (tb : Nat) (mo : Option Nat) (L : List (List UInt8 × LV)), e = .returned (.tuple #[.pointer (some ⟨tb, 0, none⟩), .int .i64 0]) ∧ TreeAt w' tb mo L ∧ Hid (plainL L = R.1) ∧ Below w.heap.size w w')
set_option maxRecDepth 100000 in
set_option maxHeartbeats 1000000 in
theorem treeNew_any (A : Option Addr) (c : Nat) (l : List (List UInt8 × LV)) (w : World) (h : ItA w A l) (hl : l.length ≤ 200 ∧ ∀ x ∈ l, x.1.length ≤ 200 ∧ x.2.x.l.length ≤ 20000) :
    Calls Tryz.prog 36 #[.slice A l.length c] w fun e w' => NewTo w w' e (newS (plainL l)) := by
  have HA := Lib.hid h
  clear h
  go_enter Tryz.func36, Tryz.ntmps36
  go_wp2_with fail
  have ht1 := TreeAt.new w
  have hb1 : Below w.heap.size w (w.alloc (.cells #[.map none] 88)) := (by repeat (first | exact Below.refl _ _ | refine Below.alloc ?_ (by simp) _ | refine Below.setCell ?_ (by simp) _ | refine Below.drew ?_))
  generalize w.alloc (.cells #[.map none] 88) = w1 at *
  generalize htb : w.heap.size = tb at *
  have htw : w.heap.size ≤ tb := by omega
  have HT1 := Lib.hid ht1
  clear ht1
  go_loopw [12] (fun iv wr => ∃ (i : Nat) (mo : Option Nat) (L : List (List UInt8 × LV)), i ≤ l.length ∧ iv = .int .i64 (i : Int) ∧ TreeAt wr tb mo L ∧ Hid (newS (plainL (l.take i)) = (plainL L, 0)) ∧ (∀ m, mo = some m → tb ≤ m) ∧ Below tb w wr) (fun iv _ => l.length - (intOf iv).toNat)
  case atStart => exact ⟨0, none, [], Nat.zero_le _, rfl, HT1.out, rfl, by simp, hb1⟩
  case round =>
    obtain ⟨i, mo, L, hi, rfl, hT, hn, hmo, hb⟩ := hrel
    have hbw : Below w.heap.size w wr := by rw [htb]; exact hb
    by_cases hlt : i < l.length
    · have hA := HA.out.below hbw
      obtain ⟨b, off, rfl, hbb, hc0, hc1, hc2⟩ := hA.at_ hlt
      have hxo := hA.ok _ (List.getElem_mem hlt)
      have hxl := hl.2 _ (List.getElem_mem hlt)
      have hps : newS (plainL (l.take (i + 1))) = (setS (plainL L) l[i].1 l[i].2.p, mayS (plainL L) l[i].1 l[i].2.p) := by rw [plain_snoc l i hlt, new_snoc, hn.out]; rfl
      have hst : mayS (plainL L) l[i].1 l[i].2.p ≠ 0 → newS (plainL l) = newS (plainL (l.take (i + 1))) := fun h0 => by
        have e : plainL (l.take (i + 1)) = (plainL l).take (i + 1) := by simp [plainL]
        rw [e]
        refine new_stop _ _ ?_
        rw [← e, hps]
        exact h0
      have hsz := hbw.size
      obtain ⟨x, hx⟩ : ∃ x, x = l[i] := ⟨_, rfl⟩
      rw [← hx] at hc0 hc1 hc2 hxo hxl hps hst
      simp only [stv] at hc0
      have hba : Below wr.heap.size wr (wr.alloc (.cells #[.string ⟨⟨x.1⟩⟩, .int .i64 x.2.k, .slice x.2.x.A x.2.x.l.length x.2.x.c] 76)) := (Below.refl _ _).alloc (Nat.le_refl _) _
      have xb := Blk.new wr 76 #[.string ⟨⟨x.1⟩⟩, .int .i64 x.2.k, .slice x.2.x.A x.2.x.l.length x.2.x.c]
      have HT2 := Lib.hid (hT.below hba)
      have HX1 := Lib.hid (hxo.1.x.below hba)
      have hw1 := hbw.trans (hba.mono hbw.size)
      obtain ⟨hx1, hx2⟩ := hxl
      have q0 := xb.cell 0
      have q1 := xb.cell 1
      have q2 := xb.cell 2
      simp only [List.getElem?_toArray, List.getElem?_cons_zero, List.getElem?_cons_succ] at q0 q1 q2
      have HPS := Lib.hid hps
      have HST := Lib.hid hst
      obtain ⟨ms, hms⟩ : ∃ ms, ms = mayS (plainL L) x.1 (x.2.k, x.2.x.l) := ⟨_, rfl⟩
      have HMS := Lib.hid hms
      clear hT hA hxo hx hps hst hn hms
      go_wp2_with fail
      refine (treeSet_any sortsT tb mo L x.1 x.2.k x.2.x.A x.2.x.c x.2.x.l _ _ HT2.out HX1.out.1 (by omega) (by omega)).mono ?_
      rintro e w3 ⟨rfl, hto⟩
      rw [← HMS.out]
      obtain ⟨⟨mo', L', hT3, hL3, hmo3⟩, hfr⟩ := hto
      have hw3 : Below w.heap.size w w3 := hw1.trans (hfr.below hw1.size (fun k hk e => by
        rcases e with e | e
        · omega
        · have := hmo _ e; omega))
      have hmo4 : ∀ m, mo' = some m → tb ≤ m := fun m e => by
        rcases hmo3 m e with e | e
        · exact hmo m e
        · have := hw1.size; omega
      by_cases hm0 : ms = 0
      · have HN2 : Hid (newS (plainL (l.take (i + 1))) = (plainL L', 0)) := Lib.hid (by rw [HPS.out]; exact Prod.ext hL3.out.symm (HMS.out.symm.trans hm0))
        have HT3 := Lib.hid hT3
        subst hm0
        clear hT3 hfr hL3 HT2 HX1 xb hmo3 q0 q1 q2 HPS HST HMS hc0 hc1 hc2
        go_wp2_with fail
        go_roundw
        case rel => exact ⟨i + 1, mo', L', hlt, by go_num, HT3.out, HN2, hmo4, by rw [htb] at hw3; exact hw3⟩
        case measure => simp [intOf]; omega
      · have hmb : (ms != 0) = true := by simpa using hm0
        have hR2 : (newS (plainL l)).2 = ms := by
          rw [HST.out (by rw [show x.2.p = (x.2.k, x.2.x.l) from rfl, ← HMS.out]; exact hm0), HPS.out, HMS.out]; rfl
        have HR := Lib.hid hR2
        clear hT3 hfr hL3 HT2 HX1 xb hmo3 q0 q1 q2 HPS HST HMS hc0 hc1 hc2 hR2
        go_wp2_with fail
        go_ret2
        exact .inl ⟨by show _ ≠ _; rw [HR.out]; exact hm0, by rw [HR.out]; rfl, hw3⟩
    · have e : i = l.length := by omega
      subst e
      rw [List.take_length] at hn
      go_wp2_with fail
      go_ret2
      exact .inr ⟨by show _ = _; rw [hn.out], tb, mo, L, rfl, hT, by show _ = _; rw [hn.out], hbw⟩
end Go.Proofs.YtdnljmncdbcgeaaGreat

/- tenderlaw42: lives. -/
namespace Go.Proofs.YtdnljmncdbcgeaaGreat
open Go.RowKit Go.Maps

def exW : List (List UInt8 × LV) := [([97], ⟨2, ⟨none, 0, []⟩⟩)]
theorem exWNew : newS (plainL exW) = ([([97], (2, []))], 0) := by decide
theorem exWA (w : World) : ItA (w.alloc (.cells #[.string ⟨⟨[97]⟩⟩, .int .i64 2, .slice none 0 0] 76)) (some ⟨w.heap.size, 0, none⟩) exW := by
  refine ⟨(Rd.lit (w := w) (t := 76) (size := 3) (n := 1) (xs := exW.flatMap itemC) rfl rfl rfl).mono (fun b hb hz => ?_), ?_, by decide⟩
  · simpa using hb
  · intro x hx
    have hx' : x = ([97], ⟨2, ⟨none, 0, []⟩⟩) := by simpa [exW] using hx
    subst hx'
    exact ⟨⟨⟨Rd.nil, by simp, by simp [maxLen]⟩, by simp, by decide⟩, by simp⟩
theorem exWC : someG (bothAt [[([97], (2, []))]] [[([97], (2, []))]] [97] (2, [])) 1 0 1 = true := by decide
theorem exWN : someG (bothAt [[([97], (2, []))]] [[([97], (2, []))]] [97] (0, [])) 1 0 1 = false := by decide
set_option maxRecDepth 100000 in
set_option maxHeartbeats 1000000 in
theorem lives42_any (w : World) : Calls Tryz.prog 7 #[] w fun e w' => e = .returned (.bool true) ∧ Below w.heap.size w w' := by
  have hA := exWA w
  have hw0 : Below w.heap.size w (w.alloc (.cells #[.string ⟨⟨[97]⟩⟩, .int .i64 2, .slice none 0 0] 76)) := (by repeat (first | exact Below.refl _ _ | refine Below.alloc ?_ (by simp) _ | refine Below.setCell ?_ (by simp) _ | refine Below.drew ?_))
  have HN := Lib.hid (treeNew_any (some ⟨w.heap.size, 0, none⟩) 1 exW _ hA ⟨by decide, by decide⟩)
  rw [exWNew] at HN
  clear hA
  go_enter Tryz.func7, Tryz.ntmps7
  go_wp2_with fail
  refine HN.out.mono ?_
  rintro e w1 (⟨h, _⟩ | ⟨_, tb, mo, L, rfl, hT, hL, hb1⟩)
  · exact absurd rfl h.out
  have hw1 := hw0.trans (hb1.mono hw0.size)
  have HT := Lib.hid hT
  have hba : Below w1.heap.size w1 (w1.alloc (.cells #[.int .i64 0, .pointer none, .map none, .pointer none, .map none] 102)) := (by repeat (first | exact Below.refl _ _ | refine Below.alloc ?_ (by simp) _ | refine Below.setCell ?_ (by simp) _ | refine Below.drew ?_))
  have hw2 := hw1.trans (hba.mono hw1.size)
  obtain ⟨col, hcol⟩ : ∃ col : Nat → Nat, col = fun b => if b = w1.heap.size then 7 else 1 := ⟨_, rfl⟩
  have HLG := Lib.hid (LogAt.new w1 col (by rw [hcol]; exact if_pos rfl))
  have hTQ : TreeQ w1 (fun b => col b = 1) (some ⟨tb, 0, none⟩) L := by
    refine TreeQ.mono (C := fun _ => True) (.inr ⟨tb, mo, rfl, hT, trivial, fun _ _ => trivial⟩) (fun b hb _ => ?_)
    show col b = 1
    rw [hcol]
    exact if_neg (by omega)
  have HTQ := Lib.hid (hTQ.below hba)
  have HCL : Hid (∀ b, col b = 1 → col b ≠ 3 ∧ col b ≠ 4 ∧ col b ≠ 7) := Lib.hid (fun b e => by rw [e]; decide)
  have HCW : Hid (∀ b, b < w.heap.size → col b = 1) := Lib.hid (fun b hb => by rw [hcol]; exact if_neg (by have := hw1.size; omega))
  clear hT hTQ hcol hb1 HN hw0
  go_wp2_with fail
  refine (logNew_any w1).mono ?_
  rintro e w2 ⟨rfl, rfl⟩
  obtain ⟨gb, hgb⟩ : ∃ gb, gb = w1.heap.size := ⟨_, rfl⟩
  rw [← hgb] at HLG ⊢
  have hgw : w.heap.size ≤ gb := by have := hw1.size; omega
  clear hgb
  generalize w1.alloc (.cells #[.int .i64 0, .pointer none, .map none, .pointer none, .map none] 102) = w2 at *
  have HNT := Lib.hid (logNote_any col gb [] [] (fun b => col b = 1) (fun b => col b = 1) (some ⟨tb, 0, none⟩) (some ⟨tb, 0, none⟩) L L w2 HLG.out HTQ.out HTQ.out HCL.out HCL.out (by simp))
  go_wp2_with fail
  refine HNT.out.mono ?_
  rintro e w3 ⟨rfl, col', S, _, hL3, hf3, _, hS⟩
  simp only [List.nil_append, hL.out] at hL3
  have hw3 : Below w.heap.size w w3 := hw2.trans (hf3.below hw2.size (fun k hk e => by
    have h1 := hS.out k e
    rw [HCW.out k hk] at h1
    rcases h1 with h1 | h1 | h1 <;> cases h1))
  have HL3 := Lib.hid hL3
  clear hL3 hf3 hS HNT HLG HTQ
  go_wp2_with fail
  refine (moments_any gb col' _ _ w3 HL3.out).mono ?_
  rintro e w4 ⟨rfl, hb4⟩
  have hw4 := hw3.trans (hb4.mono hw3.size)
  have HL4 := Lib.hid (HL3.out.below hb4)
  clear HL3 hb4
  go_wp2_with fail
  refine (common_any col' gb _ _ [97] 2 none 0 [] (fun _ => True) 0 1 w4 HL4.out (by decide) (by simp) Rd.nil).mono ?_
  rintro e w5 ⟨rfl, hb5⟩
  rw [show ([[([97], (2, []))]] : List (List (List UInt8 × LP))).length = 1 from rfl, exWC]
  have hw5 := hw4.trans (hb5.mono hw4.size)
  have HL5 := Lib.hid (HL4.out.below hb5)
  clear HL4 hb5
  go_wp2_with fail
  refine (common_any col' gb _ _ [97] 0 none 0 [] (fun _ => True) 0 1 w5 HL5.out (by decide) (by simp) Rd.nil).mono ?_
  rintro e w6 ⟨rfl, hb6⟩
  rw [show ([[([97], (2, []))]] : List (List (List UInt8 × LP))).length = 1 from rfl, exWN]
  have hw6 := hw5.trans (hb6.mono hw5.size)
  go_wp2_with fail
  go_ret
  exact ⟨rfl, hw6⟩
end Go.Proofs.YtdnljmncdbcgeaaGreat

/- tenderlaw42: steps, Light. -/
namespace Go.Proofs.YtdnljmncdbcgeaaGreat
open Go.RowKit Go.Maps Go.WideShapes Go.ChangeShapes Go.ChangeAt Go.ChangeMaps Go.Deep Go.Joins

/-- a step: at which side, what is set -/
structure SV where
  th : Bool
  x : List UInt8 × LV
def SV.cells (s : SV) : List Value := .bool s.th :: itemC s.x
theorem sv_len (s : SV) : s.cells.length = 4 := rfl
/-- steps as they come in -/
structure StA (w : World) (A : Option Addr) (L : List SV) : Prop where
  rd : Rd w (fun b => b < w.heap.size) 4 A L.length (L.flatMap SV.cells)
  ok : ∀ s ∈ L, s.x.2.okAt w (fun b => b < w.heap.size) ∧ s.x.1.length ≤ 140737488355328
  len : L.length * 56 ≤ 140737488355328
theorem okAt_below {w w' : World} {o : LV} (h : o.okAt w (fun b => b < w.heap.size)) (k : Below w.heap.size w w') : o.okAt w' (fun b => b < w'.heap.size) :=
  ⟨(h.x.below k).mono (fun _ _ hb => Nat.lt_of_lt_of_le hb k.size), h.len, h.k⟩
theorem StA.below {w w' : World} {A : Option Addr} {L : List SV} (h : StA w A L) (k : Below w.heap.size w w') : StA w' A L :=
  ⟨(h.rd.below k).mono (fun _ _ hb => Nat.lt_of_lt_of_le hb k.size), fun s hs => ⟨okAt_below (h.ok s hs).1 k, (h.ok s hs).2⟩, h.len⟩
theorem StA.at_ {w : World} {A : Option Addr} {L : List SV} {i : Nat} (h : StA w A L) (hi : i < L.length) :
    ∃ b off, A = some ⟨b, off, none⟩ ∧ b < w.heap.size ∧ w.cell? ⟨b, off + i * 4, none⟩ = some (.bool L[i].th) ∧ w.cell? ⟨b, off + i * 4 + 1, none⟩ = some (.string ⟨⟨L[i].x.1⟩⟩) ∧ w.cell? ⟨b, off + i * 4 + 2, none⟩ = some (.int .i64 L[i].x.2.k) ∧ w.cell? ⟨b, off + i * 4 + 3, none⟩ = some (.slice L[i].x.2.x.A L[i].x.2.x.l.length L[i].x.2.x.c) := by
  obtain ⟨b, off, hA, _, hb, hc⟩ := h.rd.2 (by omega)
  have hg : ∀ j, j < 4 → (L.flatMap SV.cells)[i * 4 + j]? = (SV.cells L[i])[j]? := fun j hj => flat_get (k := 4) sv_len L i j hi hj
  refine ⟨b, off, hA, hb, hc _ _ (hg 0 (by omega)), ?_, ?_, ?_⟩
  all_goals rw [Nat.add_assoc]
  · exact hc _ _ (hg 1 (by omega))
  · exact hc _ _ (hg 2 (by omega))
  · exact hc _ _ (hg 3 (by omega))
section
variable {H : Type} {enc : TypeId × Value → H} {w : World} {spare : Nat → Bool} {held : Bool}
theorem list4w {α : Type} {l : List α} (h : l.length = 4) : ∃ a0 a1 a2 a3, l = [a0, a1, a2, a3] := by
  match l, h with
  | [a0, a1, a2, a3], _ => exact ⟨_, _, _, _, rfl⟩
set_option maxRecDepth 100000 in
theorem open_step {n : Nat} {cs : List Value} {x : DataW H × List MemPlace} (h : DataW.trod enc Tryz.prog w 0 spare held n 78 cs = some x) (hw : Within 78 x) :
    ∃ o : SV, cs = o.cells ∧ o.x.2.okAt w (fun b => b < w.heap.size) ∧ o.x.1.length ≤ 140737488355328 := by
  obtain ⟨ys, n', hcl, hyl, hf⟩ := open_sti (N := 4) Tryz.underlying78 h (by kernel_rfl) hw
  obtain ⟨a0, a1, a2, a3, rfl⟩ := list4w hcl
  obtain ⟨y0, y1, rfl⟩ := list2 hyl
  obtain ⟨f0, w0⟩ := hf 0 _ _ rfl rfl
  obtain ⟨f1, w1⟩ := hf 1 _ _ rfl rfl
  have c0 : Tryz.prog.cellsOf 4 = 1 := by kernel_rfl
  have c1 : Tryz.prog.cellsOf 76 = 3 := by kernel_rfl
  replace f0 : DataW.trod enc Tryz.prog w 0 spare held n' 4 (([a0, a1, a2, a3].drop 0).take (Tryz.prog.cellsOf 4)) = some y0 := f0
  replace f1 : DataW.trod enc Tryz.prog w 0 spare held n' 76 (([a0, a1, a2, a3].drop 1).take (Tryz.prog.cellsOf 76)) = some y1 := f1
  rw [c0] at f0
  rw [c1] at f1
  obtain ⟨v0, e0, _⟩ := DataW.trod_bool Tryz.underlying4 f0
  obtain ⟨o, e2, ho, hl⟩ := open_item f1 w1
  obtain rfl : a0 = .bool v0 := by simpa using e0
  exact ⟨⟨v0, o⟩, by show _ = _ :: itemC o; rw [← e2]; rfl, ho, hl⟩
set_option maxRecDepth 100000 in
theorem open_steps {n : Nat} {v : Value} {x : DataW H × List MemPlace} (h : DataW.trod enc Tryz.prog w 0 spare held n 22 [v] = some x) (hw : Within 22 x) :
    ∃ (A : Option Addr) (c : Nat) (l : List SV), v = .slice A l.length c ∧ StA w A l := by
  obtain ⟨A, c, l, rfl, _, _, h3, h4, h5⟩ := open_sl (w := w) (enc := enc) (spare := spare) (held := held) SV.cells (fun o => o.x.2.okAt w (fun b => b < w.heap.size) ∧ o.x.1.length ≤ 140737488355328) 4 56 (t := 22) (e := 78) Tryz.underlying22 (by kernel_rfl) (by kernel_rfl) (by omega) (fun n cs x hx hx2 => open_step hx hx2) h hw
  refine ⟨A, c, l, rfl, h3, h4, ?_⟩
  have := reachBytes_lt
  omega
end
/-- few steps, and small ones -/
def lightW (l : List SV) : Bool := lightI (l.map SV.x) && decide (l.length ≤ 60)
/-- a row's block of which the first elements are written -/
structure Filled (w : World) (g n : Nat) (L : List (List UInt8 × LV)) : Prop where
  ex : ∃ cs : Array Value, Blk w g 76 cs ∧ cs.size = n * 3 ∧ ∀ (j : Nat) (u : Value), (L.flatMap itemC)[j]? = some u → cs[j]? = some u
theorem items_info : ∃ i0, Tryz.prog.info? 76 = some i0 ∧ i0.zero = some (.agg #[.string ⟨#[]⟩, .int .i64 0, .slice none 0 0]) ∧ i0.size = 3 ∧ i0.bytes = 48 := info_parts item_info
theorem make_items (n : Nat) (hn : n * 56 ≤ 140737488355328) (w : World) : ∃ cs : Array Value, cs.size = n * 3 ∧ (Instr.makeSlice 74 (.int .i64 (n : Int)) (.int .i64 (n : Int))).run Tryz.prog w = .ok (.slice (some ⟨w.heap.size, 0, none⟩) n n) (w.alloc (.cells cs 76)) := by
  obtain ⟨i0, hi0, hz0, hz1, hz2⟩ := items_info
  have hr := run_make (P := Tryz.prog) w 74 76 i0 _ Tryz.underlying74 hi0 hz0 .i64 .i64 (n : Int) (n : Int) (by omega) (by omega) (by rw [hz2]; omega) (by omega)
  simp only [Int.toNat_natCast] at hr
  exact ⟨_, by rw [size_madeCells, hz1], hr⟩

set_option maxRecDepth 100000 in
set_option maxHeartbeats 1000000 in
theorem lightW_any (A : Option Addr) (c : Nat) (l : List SV) (w : World) (h : StA w A l) :
    Calls Tryz.prog 6 #[.slice A l.length c] w fun e w' => e = .returned (.bool (lightW l)) ∧ Below w.heap.size w w' := by
  have HA := Lib.hid h
  have hlen := h.len
  obtain ⟨cs0, hcs0, hmk⟩ := make_items l.length h.len w
  have hw1 : Below w.heap.size w (w.alloc (.cells cs0 76)) := (Below.refl _ _).alloc (Nat.le_refl _) _
  have hF0 : Filled (w.alloc (.cells cs0 76)) w.heap.size l.length [] := ⟨cs0, Blk.new _ _ _, hcs0, by simp⟩
  obtain ⟨g, hg⟩ : ∃ g, g = w.heap.size := ⟨_, rfl⟩
  rw [← hg] at hF0 hmk
  have hgw : w.heap.size ≤ g := by omega
  clear h hcs0
  go_enter Tryz.func6, Tryz.ntmps6
  go_upto_region 2 with (fail)
  rw [← hg]
  clear hg
  generalize w.alloc (.cells cs0 76) = w1 at *
  clear hmk
  have HF0 := Lib.hid hF0
  clear hF0
  go_wp2_with fail
  go_loopw [4, 11] (fun _ iv wr => ∃ i : Nat, i ≤ l.length ∧ iv = .int .i64 (i : Int) ∧ Filled wr g l.length ((l.take i).map SV.x) ∧ Below w.heap.size w wr) (fun _ iv _ => l.length - (intOf iv).toNat)
  case atStart => exact ⟨0, Nat.zero_le _, rfl, HF0.out, hw1⟩
  case round =>
    obtain ⟨i, hi, rfl, hF, hb⟩ := hrel
    by_cases hlt : i < l.length
    · obtain ⟨b, off, rfl, hbb, c0, c1, c2, c3⟩ := (HA.out.below hb).at_ hlt
      obtain ⟨cs, hk, hcs, hcu⟩ := hF.ex
      obtain ⟨s, hs⟩ : ∃ s, s = l[i] := ⟨_, rfl⟩
      rw [← hs] at c0 c1 c2 c3
      have hba : Below wr.heap.size wr (wr.alloc (.cells #[.bool s.th, .string ⟨⟨s.x.1⟩⟩, .int .i64 s.x.2.k, .slice s.x.2.x.A s.x.2.x.l.length s.x.2.x.c] 78)) := (Below.refl _ _).alloc (Nat.le_refl _) _
      have hz := Blk.new wr 78 #[.bool s.th, .string ⟨⟨s.x.1⟩⟩, .int .i64 s.x.2.k, .slice s.x.2.x.A s.x.2.x.l.length s.x.2.x.c]
      have hk2 := hk.below hba
      have hw2 := hb.trans (hba.mono hb.size)
      have HS := Lib.hid hs
      clear hs hF hk
      go_upto_region 5 with (fail)
      obtain ⟨zb, hzb⟩ : ∃ zb, zb = wr.heap.size := ⟨_, rfl⟩
      rw [← hzb] at hz ⊢
      clear hzb
      generalize wr.alloc (.cells #[.bool s.th, .string ⟨⟨s.x.1⟩⟩, .int .i64 s.x.2.k, .slice s.x.2.x.A s.x.2.x.l.length s.x.2.x.c] 78) = w2 at *
      have z1 := hz.cell 1
      have z2 := hz.cell 2
      have z3 := hz.cell 3
      simp only [List.getElem?_toArray, List.getElem?_cons_zero, List.getElem?_cons_succ] at z1 z2 z3
      have k0 := hk2.cell (i * 3)
      have k1 := hk2.cell (i * 3 + 1)
      have k2 := hk2.cell (i * 3 + 2)
      rw [Array.getElem?_eq_getElem (show i * 3 < cs.size by rw [hcs]; omega)] at k0
      rw [Array.getElem?_eq_getElem (show i * 3 + 1 < cs.size by rw [hcs]; omega)] at k1
      rw [Array.getElem?_eq_getElem (show i * 3 + 2 < cs.size by rw [hcs]; omega)] at k2
      generalize cs[i * 3]'_ = u0 at k0
      generalize cs[i * 3 + 1]'_ = u1 at k1
      generalize cs[i * 3 + 2]'_ = u2 at k2
      have fz := fun j => hk2.frozen j
      have kE := ((hk2.set_ (i * 3) (.string ⟨⟨s.x.1⟩⟩)).set_ (i * 3 + 1) (.int .i64 s.x.2.k)).set_ (i * 3 + 2) (.slice s.x.2.x.A s.x.2.x.l.length s.x.2.x.c)
      have kF : Fr (fun x => x = g) w2 (((w2.setCell ⟨g, i * 3, none⟩ (.string ⟨⟨s.x.1⟩⟩)).setCell ⟨g, i * 3 + 1, none⟩ (.int .i64 s.x.2.k)).setCell ⟨g, i * 3 + 2, none⟩ (.slice s.x.2.x.A s.x.2.x.l.length s.x.2.x.c)) := (((Fr.refl (fun x => x = g) w2).setAt g _ rfl _).setAt g _ rfl _).setAt g _ rfl _
      have hwE : Below w.heap.size w (((w2.setCell ⟨g, i * 3, none⟩ (.string ⟨⟨s.x.1⟩⟩)).setCell ⟨g, i * 3 + 1, none⟩ (.int .i64 s.x.2.k)).setCell ⟨g, i * 3 + 2, none⟩ (.slice s.x.2.x.A s.x.2.x.l.length s.x.2.x.c)) := hw2.trans (kF.below (B := w.heap.size) hw2.size (fun k hk e => by omega))
      have HFE : Hid (Filled (((w2.setCell ⟨g, i * 3, none⟩ (.string ⟨⟨s.x.1⟩⟩)).setCell ⟨g, i * 3 + 1, none⟩ (.int .i64 s.x.2.k)).setCell ⟨g, i * 3 + 2, none⟩ (.slice s.x.2.x.A s.x.2.x.l.length s.x.2.x.c)) g l.length ((l.take (i + 1)).map SV.x)) := Lib.hid ⟨_, kE, by simp [hcs], fun j u hu => by
        rw [List.take_succ_eq_append_getElem hlt, List.map_append, List.flatMap_append] at hu
        have hln : (((l.take i).map SV.x).flatMap itemC).length = i * 3 := by
          rw [flat_len (k := 3) item_len, List.length_map, List.length_take]; congr 1; omega
        rw [Array.getElem?_setIfInBounds, Array.getElem?_setIfInBounds, Array.getElem?_setIfInBounds]
        simp only [Array.size_setIfInBounds]
        by_cases hj : j < i * 3
        · rw [List.getElem?_append_left (by omega)] at hu
          rw [if_neg (by omega), if_neg (by omega), if_neg (by omega)]
          exact hcu j u hu
        · rw [List.getElem?_append_right (by omega), hln] at hu
          obtain ⟨d, rfl⟩ : ∃ d, j = i * 3 + d := ⟨j - i * 3, by omega⟩
          rw [show i * 3 + d - i * 3 = d by omega] at hu
          have hsz : i * 3 + 2 < cs.size := by rw [hcs]; omega
          rw [← HS.out] at hu
          match d, hu with
          | 0, hu => rw [if_neg (by omega), if_neg (by omega), if_pos (by omega), if_pos (by omega)]; simpa [itemC, stv] using hu
          | 1, hu => rw [if_neg (by omega), if_pos (by omega), if_pos (by omega)]; simpa [itemC, stv] using hu
          | 2, hu => rw [if_pos (by omega), if_pos (by omega)]; simpa [itemC, stv] using hu
          | d + 3, hu => simp [itemC] at hu⟩
      clear hz hk2 kE kF c0 c1 c2 c3 hcu hcs
      go_wp2_with fail
      go_roundw
      case rel => exact ⟨i + 1, hlt, by go_num, HFE.out, hwE⟩
      case measure => simp [intOf]; omega
    · have e : i = l.length := by omega
      subst e
      rw [List.take_length] at hF
      obtain ⟨cs, hk, hcs, hcu⟩ := hF.ex
      have hit : ItA wr (some ⟨g, 0, none⟩) (l.map SV.x) := by
        refine ⟨⟨by rw [flat_len (k := 3) item_len], fun _ => ⟨g, 0, rfl, hk.lt, hk.lt, fun j u hu => ?_⟩⟩, fun x hx => ?_, by rw [List.length_map]; omega⟩
        · rw [Nat.zero_add, hk.cell]
          exact hcu j u hu
        · obtain ⟨s, hs, rfl⟩ := List.mem_map.1 hx
          exact (HA.out.below hb).ok s hs
      have HLI := Lib.hid (lightI_any (some ⟨g, 0, none⟩) l.length (l.map SV.x) wr hit)
      rw [List.length_map] at HLI
      clear hk hcs hcu hF hit
      go_wp2_with fail
      refine HLI.out.mono ?_
      rintro e w2 ⟨rfl, hb2⟩
      have hw2 := hb.trans (hb2.mono hb.size)
      obtain ⟨V, hV⟩ : ∃ V, V = lightI (l.map SV.x) := ⟨_, rfl⟩
      have HV : Hid (lightW l = (V && decide (l.length ≤ 60))) := Lib.hid (by unfold lightW; rw [hV])
      rw [← hV]
      clear hV HLI
      by_cases h60 : (l.length : Int) ≤ 60
      · have hd : decide ((l.length : Int) ≤ 60) = true := decide_eq_true h60
        have hd2 : decide (l.length ≤ 60) = true := decide_eq_true (by omega)
        cases V
        all_goals
          go_wp2_with fail
          go_ret
          exact ⟨ret_b (by rw [HV.out, hd2]; rfl), hw2⟩
      · have hd : decide ((l.length : Int) ≤ 60) = false := decide_eq_false h60
        have hd2 : decide (l.length ≤ 60) = false := decide_eq_false (by omega)
        cases V
        all_goals
          go_wp2_with fail
          go_ret
          exact ⟨ret_b (by rw [HV.out, hd2]; rfl), hw2⟩

end Go.Proofs.YtdnljmncdbcgeaaGreat
